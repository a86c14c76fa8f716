/- Contracts of functions and plain lemmas that the laws of this seat lean on. -/
import Derived.Test.YtgdkokgeldnliaaGreatDoorKEfaa
import Derived.Test.YtgdkokgeldnliaaGreatDoorKEfab
import Derived.Test.YtgdkokgeldnliaaGreatDoorKEfac
import Derived.Test.YtgdkokgeldnliaaGreatDoorKEfad
import Derived.Test.YtgdkokgeldnliaaGreatDoorKEfae
import Derived.Test.YtgdkokgeldnliaaGreatDoorKEfaf
import Derived.Test.YtgdkokgeldnliaaGreatDoorRows
import Derived.WalkKit
import Derived.WalkSpells
import Derived.WalkLawsBesides
import Derived.Lib.Hide
import Derived.Deep.QuietTactic
import Derived.BigQuiet
import Derived.StillTail
import Derived.Below
import Derived.Deep.MidRow
import Derived.Laws.Tables
import Derived.Laws.CopyRow
import Derived.IntWalk
import Derived.Test.YtgdkokgeldnliaaGreatDoorShelf
import Derived.Lib.BitFns
import Derived.Lib.ItoaNum
import Derived.Lib.TrailingZeros
import Derived.Deep.DeepCutAuto
import Derived.Deep.CutBlock
import Derived.Laws.AppendOwn
import Derived.Laws.AppendOwnNone
import Derived.Laws.CopyOwn
namespace Go.Proofs.YtgdkokgeldnliaaGreatDoor
set_option linter.unusedSimpArgs false
set_option linter.unusedVariables false
set_option linter.unusedSectionVars false
set_option linter.constructorNameAsVariable false
set_option linter.unnecessarySimpa false
section
set_option maxRecDepth 10000
open Go.RowKit
theorem aE9 (d : D) : AC Tryz.prog TabW 121 [dyV d] (.lit (.bool (aAT d))) := by
 refine aAd Tryz.func121 rfl (by kernel_rfl) aAc Tryz.mixed rfl rfl (by kernel_rfl) ?_
 simp only [dyV, ivV, aAl, Tryz.ntmps121]
 refine aAa fun K0 g0 => aAx ?_
 simp only [xo, xg, xp, Bool.not_true, aCQ, dstAt, dOk, Option.bind_some, List.getElem?_toArray, List.getElem?_cons_succ, List.getElem?_cons_zero, xv, xw, xe, xb, xl, xlw, xlf, xbq, Tryz.tys, aAS, aAQ, aAy, bldV, dyV, ivV, reduceIte, Nat.reduceLT, Nat.reduceEqDiff, Nat.reduceAdd, Nat.reduceLeDiff, and_self]
 refine g0 _ (aAa fun K1 g1 => aAx ?_)
 simp only [xo, xg, xp, Bool.not_true, aCQ, dstAt, dOk, Option.bind_some, List.getElem?_toArray, List.getElem?_cons_succ, List.getElem?_cons_zero, xv, xw, xe, xb, xl, xlw, xlf, xbq, Tryz.tys, aAS, aAQ, aAy, bldV, dyV, ivV, reduceIte, Nat.reduceLT, Nat.reduceEqDiff, Nat.reduceAdd, Nat.reduceLeDiff, and_self]
 refine cxo (aTA _) ?_
 simp only [xo, xg, xp, Bool.not_true, aCQ, dstAt, dOk, Option.bind_some, List.getElem?_toArray, List.getElem?_cons_succ, List.getElem?_cons_zero, xv, xw, xe, xb, xl, xlw, xlf, xbq, Tryz.tys, aAS, aAQ, aAy, bldV, dyV, ivV, reduceIte, Nat.reduceLT, Nat.reduceEqDiff, Nat.reduceAdd, Nat.reduceLeDiff, and_self]
 refine gx (fun c1 => ?_) (fun c1 => ?_)
 · have e1 : (limbsOf d.m).length <= 1024 := by have := of_decide_eq_true c1; omega
   rw [c1]
   simp only [xo, xg, xp, Bool.not_true, aCQ, dstAt, dOk, Option.bind_some, List.getElem?_toArray, List.getElem?_cons_succ, List.getElem?_cons_zero, xv, xw, xe, xb, xl, xlw, xlf, xbq, Tryz.tys, aAS, aAQ, aAy, bldV, dyV, ivV, reduceIte, Nat.reduceLT, Nat.reduceEqDiff, Nat.reduceAdd, Nat.reduceLeDiff, and_self]
   refine gx (fun c2 => ?_) (fun c2 => ?_)
   · have e2 : -32768 <= d.e := of_decide_eq_true c2
     rw [c2]
     simp only [xo, xg, xp, Bool.not_true, aCQ, dstAt, dOk, Option.bind_some, List.getElem?_toArray, List.getElem?_cons_succ, List.getElem?_cons_zero, xv, xw, xe, xb, xl, xlw, xlf, xbq, Tryz.tys, aAS, aAQ, aAy, bldV, dyV, ivV, reduceIte, Nat.reduceLT, Nat.reduceEqDiff, Nat.reduceAdd, Nat.reduceLeDiff, and_self]
     refine g1 _ (aAe ?_)
     simp only [aAg, aAm, endX, resX, resV, Tryz.results121]
     simp only [xo, xg, xp, Bool.not_true, aCQ, dstAt, dOk, Option.bind_some, List.getElem?_toArray, List.getElem?_cons_succ, List.getElem?_cons_zero, xv, xw, xe, xb, xl, xlw, xlf, xbq, Tryz.tys, aAS, aAQ, aAy, bldV, dyV, ivV, reduceIte, Nat.reduceLT, Nat.reduceEqDiff, Nat.reduceAdd, Nat.reduceLeDiff, and_self]
     simp [aAT, e1, e2]
   · have e2 : ¬ -32768 <= d.e := of_decide_eq_false c2
     rw [c2]
     simp only [xo, xg, xp, Bool.not_true, aCQ, dstAt, dOk, Option.bind_some, List.getElem?_toArray, List.getElem?_cons_succ, List.getElem?_cons_zero, xv, xw, xe, xb, xl, xlw, xlf, xbq, Tryz.tys, aAS, aAQ, aAy, bldV, dyV, ivV, reduceIte, Nat.reduceLT, Nat.reduceEqDiff, Nat.reduceAdd, Nat.reduceLeDiff, and_self]
     refine g1 _ (aAe ?_)
     simp only [aAg, aAm, endX, resX, resV, Tryz.results121]
     simp only [xo, xg, xp, Bool.not_true, aCQ, dstAt, dOk, Option.bind_some, List.getElem?_toArray, List.getElem?_cons_succ, List.getElem?_cons_zero, xv, xw, xe, xb, xl, xlw, xlf, xbq, Tryz.tys, aAS, aAQ, aAy, bldV, dyV, ivV, reduceIte, Nat.reduceLT, Nat.reduceEqDiff, Nat.reduceAdd, Nat.reduceLeDiff, and_self]
     simp [aAT, e2]
 · have e1 : ¬ (limbsOf d.m).length <= 1024 := by have := of_decide_eq_false c1; omega
   rw [c1]
   simp only [xo, xg, xp, Bool.not_true, aCQ, dstAt, dOk, Option.bind_some, List.getElem?_toArray, List.getElem?_cons_succ, List.getElem?_cons_zero, xv, xw, xe, xb, xl, xlw, xlf, xbq, Tryz.tys, aAS, aAQ, aAy, bldV, dyV, ivV, reduceIte, Nat.reduceLT, Nat.reduceEqDiff, Nat.reduceAdd, Nat.reduceLeDiff, and_self]
   refine g1 _ (aAe ?_)
   simp only [aAg, aAm, endX, resX, resV, Tryz.results121]
   simp only [xo, xg, xp, Bool.not_true, aCQ, dstAt, dOk, Option.bind_some, List.getElem?_toArray, List.getElem?_cons_succ, List.getElem?_cons_zero, xv, xw, xe, xb, xl, xlw, xlf, xbq, Tryz.tys, aAS, aAQ, aAy, bldV, dyV, ivV, reduceIte, Nat.reduceLT, Nat.reduceEqDiff, Nat.reduceAdd, Nat.reduceLeDiff, and_self]
   simp [aAT, e1]
end
section
theorem aHY (a b : Nat) : bl (a * b) <= bl a + bl b := aC8 (by
 rw [Nat.pow_add]
 rcases Nat.eq_zero_or_pos b with rfl | hb
 · rw [Nat.mul_zero]; exact Nat.mul_pos (Nat.pow_pos (by decide)) (Nat.pow_pos (by decide))
 · exact Nat.lt_of_lt_of_le (Nat.mul_lt_mul_of_pos_right (aDO a) hb) (Nat.mul_le_mul_left _ (Nat.le_of_lt (aDO b))))
theorem aCr (a b : Nat) : bl (a + b) <= max (bl a) (bl b) + 1 := aC8 (by
 have h1 : 2 ^ bl a <= 2 ^ max (bl a) (bl b) := Nat.pow_le_pow_right (by decide) (by omega)
 have h2 : 2 ^ bl b <= 2 ^ max (bl a) (bl b) := Nat.pow_le_pow_right (by decide) (by omega)
 have h3 := aDO a
 have h4 := aDO b
 rw [Nat.pow_succ]
 omega)
theorem aD2 (a k : Nat) : bl (a * 2 ^ k) <= bl a + k := aC8 (by
 rw [Nat.pow_add]
 exact Nat.mul_lt_mul_of_pos_right (aDO a) (Nat.pow_pos (by decide)))
theorem aJq (a b : Nat) : bl (a / b) <= bl a := aFR (Nat.div_le_self _ _)
theorem aHX (a k : Nat) : bl (a / 2 ^ k) <= bl a - k := aC8 (by
 have h := aDO a
 by_cases hk : k <= bl a
 · rw [Nat.div_lt_iff_lt_mul (Nat.pow_pos (by decide)), <- Nat.pow_add, Nat.sub_add_cancel hk]
   exact h
 · rw [Nat.div_eq_of_lt (Nat.lt_of_lt_of_le h (Nat.pow_le_pow_right (by decide) (by omega)))]
   exact Nat.pow_pos (by decide))
theorem aFP (a b : Nat) : bl (a - b) <= bl a := aFR (Nat.sub_le _ _)
theorem aLt (a : Nat) (b : Bool) : bl (a + if b then 1 else 0) <= bl a + 1 := aC8 (by
 have h := aDO a
 rw [Nat.pow_succ]
 split <;> omega)
theorem aE0 (a k : Nat) (h : a < 2 ^ k) : bl a <= k := aC8 h
def ae (d : D) : Nat := d.e.natAbs
theorem aBp (neg : Bool) (m : Nat) (e : Int) : bl (aAL neg m e).m <= bl m /\ ae (aAL neg m e) <= e.natAbs + bl m := by
 constructor
 · exact aJq m (2 ^ tz m)
 · show (fExp m e).natAbs <= _
   unfold fExp
   split
   · simp
   · rename_i h
     have := aMW h
     omega
theorem aBO (d : D) : bl (oneD d).m <= bl d.m /\ ae (oneD d) <= ae d + bl d.m := aBp _ _ _
theorem aEl (d : D) : bl (negD d).m <= bl d.m /\ ae (negD d) <= ae d + bl d.m := aBp _ _ _
theorem aJw (d : D) : bl (absD d).m <= bl d.m /\ ae (absD d) <= ae d + bl d.m := aBp _ _ _
theorem aGV (d : D) (n : Int) : bl (aAs d n).m <= bl d.m /\ ae (aAs d n) <= ae d + n.natAbs + bl d.m := by
 have h := aBp d.neg d.m (d.e + n)
 refine ⟨h.1, Nat.le_trans h.2 ?_⟩
 unfold ae
 omega
theorem aAW (n : Int) : bl (intD n).m <= bl n.natAbs /\ ae (intD n) <= bl n.natAbs := by
 have h := aBp (decide (n < 0)) n.natAbs 0
 have h2 : (0 : Int).natAbs = 0 := rfl
 rw [h2, Nat.zero_add] at h
 exact h
theorem aEK (a b : D) : bl (mulD a b).m <= bl a.m + bl b.m /\ ae (mulD a b) <= ae a + ae b + bl a.m + bl b.m := by
 have h := aBp (a.neg != b.neg) (a.m * b.m) (a.e + b.e)
 have h2 := aHY a.m b.m
 refine ⟨Nat.le_trans h.1 h2, Nat.le_trans h.2 ?_⟩
 unfold ae
 omega
theorem aXd (a b : D) : bl (alA (oneD a) (oneD b)) <= 2 * bl a.m + ae a + ae b + bl b.m /\ bl (alB (oneD a) (oneD b)) <= 2 * bl b.m + ae a + ae b + bl a.m := by
 have ha := aBO a
 have hb := aBO b
 have h1 := aD2 (oneD a).m ((oneD a).e - min (oneD a).e (oneD b).e).toNat
 have h2 := aD2 (oneD b).m ((oneD b).e - min (oneD a).e (oneD b).e).toNat
 unfold alA alB
 unfold ae at *
 constructor <;> omega
theorem aEM (a b : D) : bl (addD a b).m <= 2 * bl a.m + 2 * bl b.m + ae a + ae b + 1 /\ ae (addD a b) <= 2 * ae a + 2 * ae b + 3 * bl a.m + 3 * bl b.m + 1 := by
 have ha := aBO a
 have hb := aBO b
 have hl := aXd a b
 have hX : (oneD a).m * 2 ^ ((oneD a).e - min (oneD a).e (oneD b).e).toNat = alA (oneD a) (oneD b) := rfl
 have hY : (oneD b).m * 2 ^ ((oneD b).e - min (oneD a).e (oneD b).e).toNat = alB (oneD a) (oneD b) := rfl
 have hm : (min (oneD a).e (oneD b).e).natAbs <= ae a + bl a.m + ae b + bl b.m := by unfold ae at *; omega
 unfold addD
 rw [hX, hY]
 generalize alA (oneD a) (oneD b) = X at *
 generalize alB (oneD a) (oneD b) = Y at *
 generalize min (oneD a).e (oneD b).e = M at *
 split
 · unfold ae at *; omega
 split
 · unfold ae at *; omega
 split
 · have h := aBp (oneD a).neg (X + Y) M
   have h2 := aCr X Y
   omega
 split
 · have h := aBp (oneD a).neg (X - Y) M
   have h2 := aFP X Y
   omega
 · have h := aBp (oneD b).neg (Y - X) M
   have h2 := aFP Y X
   omega
theorem aHG (d : D) (p : Int) (up : Bool) : bl (cutD d p up).m <= bl d.m + 1 /\ ((bl (cutD d p up).m : Nat) : Int) <= max p 0 + 1 /\ ae (cutD d p up) <= ae d + 3 * bl d.m + p.natAbs + 1 := by
 have h1 := aBO d
 unfold cutD
 split
 · rename_i h
   refine ⟨by omega, by omega, by omega⟩
 · rename_i h
   generalize hx : oneD d = x at *
   have h2 := aBp x.neg (x.m / 2 ^ (((bl x.m : Nat) : Int) - p).toNat + if up != x.neg then 1 else 0) (x.e + (((bl x.m : Nat) : Int) - p))
   have h3 := aLt (x.m / 2 ^ (((bl x.m : Nat) : Int) - p).toNat) (up != x.neg)
   have h4 := aHX x.m (((bl x.m : Nat) : Int) - p).toNat
   unfold ae at *
   refine ⟨by omega, by omega, by omega⟩
theorem aJa (d : D) : bl (aBm d).m <= bl d.m + 1 /\ ae (aBm d) <= ae d + bl d.m + 1 := by
 have h1 := aBO d
 unfold aBm
 split
 · omega
 · generalize oneD d = x at *
   have h2 := aBp x.neg (x.m / 2 ^ (-x.e).toNat + if (x.m % 2 ^ (-x.e).toNat != 0 && x.neg) then 1 else 0) 0
   have h3 := aLt (x.m / 2 ^ (-x.e).toNat) (x.m % 2 ^ (-x.e).toNat != 0 && x.neg)
   have h4 := aHX x.m (-x.e).toNat
   have h5 : (0 : Int).natAbs = 0 := rfl
   rw [h5] at h2
   omega
theorem aQk (q : Nat) (more : Bool) : bl (stk q more) <= bl q + 2 := by
 unfold stk
 have h := aLt (q * 2) more
 have h2 := aD2 q 1
 rw [Nat.pow_one] at h2
 omega
theorem aTj (a b : D) (p : Int) (up : Bool) : ((bl (aCe a b p up).m : Nat) : Int) <= max p 0 + 1 /\ ae (aCe a b p up) <= ae a + ae b + 12 * bl a.m + 12 * bl b.m + 6 * p.natAbs + 30 := by
 have ha := aBO a
 have hb := aBO b
 unfold aCe
 split
 · simp [ae, aGM]
   omega
 · generalize oneD a = x at *
   generalize oneD b = y at *
   generalize hk : max (p + 2 + ((bl y.m : Nat) : Int) - ((bl x.m : Nat) : Int)) 0 = k at *
   have hs := aQk (x.m * 2 ^ k.toNat / y.m) (x.m * 2 ^ k.toNat % y.m != 0)
   have hd := aJq (x.m * 2 ^ k.toNat) y.m
   have hl := aD2 x.m k.toNat
   have hf := aBp (x.neg != y.neg) (stk (x.m * 2 ^ k.toNat / y.m) (x.m * 2 ^ k.toNat % y.m != 0)) (x.e - y.e - k - 1)
   have hc := aHG (aAL (x.neg != y.neg) (stk (x.m * 2 ^ k.toNat / y.m) (x.m * 2 ^ k.toNat % y.m != 0)) (x.e - y.e - k - 1)) p up
   refine ⟨hc.2.1, ?_⟩
   have h2 := hc.2.2
   generalize cutD (aAL (x.neg != y.neg) (stk (x.m * 2 ^ k.toNat / y.m) (x.m * 2 ^ k.toNat % y.m != 0)) (x.e - y.e - k - 1)) p up = c at *
   generalize aAL (x.neg != y.neg) (stk (x.m * 2 ^ k.toNat / y.m) (x.m * 2 ^ k.toNat % y.m != 0)) (x.e - y.e - k - 1) = f at *
   generalize stk (x.m * 2 ^ k.toNat / y.m) (x.m * 2 ^ k.toNat % y.m != 0) = s at *
   generalize bl (x.m * 2 ^ k.toNat / y.m) = q at *
   generalize bl (x.m * 2 ^ k.toNat) = r at *
   have e1 : (x.e - y.e - k - 1).natAbs <= ae x + ae y + k.natAbs + 1 := by unfold ae; omega
   have e2 : k.natAbs <= p.natAbs + 2 + bl x.m + bl y.m := by omega
   have e3 : k.toNat = k.natAbs := by omega
   have e4 : q <= bl x.m + k.natAbs := by omega
   have e5 : bl s <= bl x.m + k.natAbs + 2 := by omega
   have e6 : bl f.m <= bl x.m + k.natAbs + 2 := by omega
   clear e3 hk hd hl hs
   omega
theorem aNg (x d : D) : minD x d = x \/ minD x d = d := by unfold minD; split <;> simp
theorem aNj (x d : D) : maxD x d = x \/ maxD x d = d := by unfold maxD; split <;> simp
theorem aNf (x d : D) : bl (minD x d).m <= max (bl x.m) (bl d.m) /\ ae (minD x d) <= max (ae x) (ae d) := by rcases aNg x d with h | h <;> rw [h] <;> omega
theorem aNi (x d : D) : bl (maxD x d).m <= max (bl x.m) (bl d.m) /\ ae (maxD x d) <= max (ae x) (ae d) := by rcases aNj x d with h | h <;> rw [h] <;> omega
theorem aWR (a b c d : D) : bl (lo4 a b c d).m <= max (max (max (bl a.m) (bl b.m)) (bl c.m)) (bl d.m) /\ ae (lo4 a b c d) <= max (max (max (ae a) (ae b)) (ae c)) (ae d) := by
 have h1 := aNf a b
 have h2 := aNf (minD a b) c
 have h3 := aNf (minD (minD a b) c) d
 unfold lo4
 omega
theorem aWU (a b c d : D) : bl (hi4 a b c d).m <= max (max (max (bl a.m) (bl b.m)) (bl c.m)) (bl d.m) /\ ae (hi4 a b c d) <= max (max (max (ae a) (ae b)) (ae c)) (ae d) := by
 have h1 := aNi a b
 have h2 := aNi (maxD a b) c
 have h3 := aNi (maxD (maxD a b) c) d
 unfold hi4
 omega
def ib (v : Iv) : Nat := max (bl v.lo.m) (bl v.hi.m)
def ie (v : Iv) : Nat := max (ae v.lo) (ae v.hi)
theorem aBe (v : Iv) : bl v.lo.m <= ib v /\ bl v.hi.m <= ib v /\ ae v.lo <= ie v /\ ae v.hi <= ie v := by unfold ib ie; omega
theorem aQ4 (a b : D) : ib ⟨a, b⟩ = max (bl a.m) (bl b.m) /\ ie ⟨a, b⟩ = max (ae a) (ae b) := ⟨rfl, rfl⟩
theorem aIb (v : Iv) (p : Int) : ib (aAD v p) <= ib v + 1 /\ ((ib (aAD v p) : Nat) : Int) <= max p 0 + 1 /\ ie (aAD v p) <= ie v + 3 * ib v + p.natAbs + 1 := by
 have h1 := aHG v.lo p false
 have h2 := aHG v.hi p true
 have h3 := aBe v
 have h4 : ib (aAD v p) = max (bl (cutD v.lo p false).m) (bl (cutD v.hi p true).m) := rfl
 have h5 : ie (aAD v p) = max (ae (cutD v.lo p false)) (ae (cutD v.hi p true)) := rfl
 omega
theorem aH9 (v : Iv) : ib (aCd v) <= ib v /\ ie (aCd v) <= ie v + ib v := by
 have h1 := aEl v.lo
 have h2 := aEl v.hi
 have h3 := aBe v
 have h4 : ib (aCd v) = max (bl (negD v.hi).m) (bl (negD v.lo).m) := rfl
 have h5 : ie (aCd v) = max (ae (negD v.hi)) (ae (negD v.lo)) := rfl
 omega
theorem aEj (d : D) : ib (aAn d) <= bl d.m /\ ie (aAn d) <= ae d + bl d.m := by
 have h := aBO d
 have h4 : ib (aAn d) = max (bl (oneD d).m) (bl (oneD d).m) := rfl
 have h5 : ie (aAn d) = max (ae (oneD d)) (ae (oneD d)) := rfl
 omega
theorem aOi (a b : Iv) (p : Int) : ((ib (aH4 a b p) : Nat) : Int) <= max p 0 + 1 /\ ie (aH4 a b p) <= 5 * ie a + 5 * ie b + 9 * ib a + 9 * ib b + p.natAbs + 5 := by
 have h1 := aEM a.lo b.lo
 have h2 := aEM a.hi b.hi
 have h3 := aIb ⟨addD a.lo b.lo, addD a.hi b.hi⟩ p
 have h4 := aQ4 (addD a.lo b.lo) (addD a.hi b.hi)
 have h5 := aBe a
 have h6 := aBe b
 unfold aH4
 omega
theorem aOq (a b : Iv) (p : Int) : ((ib (aFn a b p) : Nat) : Int) <= max p 0 + 1 /\ ie (aFn a b p) <= 5 * ie a + 5 * ie b + 9 * ib a + 14 * ib b + p.natAbs + 5 := by
 have h1 := aOi a (aCd b) p
 have h2 := aH9 b
 unfold aFn
 omega
theorem aGT (a b : Iv) (p : Int) : ((ib (aAF a b p) : Nat) : Int) <= max p 0 + 1 /\ ie (aAF a b p) <= ie a + ie b + 4 * ib a + 4 * ib b + p.natAbs + 1 := by
 have h1 := aEK a.lo b.lo
 have h2 := aEK a.lo b.hi
 have h3 := aEK a.hi b.lo
 have h4 := aEK a.hi b.hi
 have h5 := aBe a
 have h6 := aBe b
 have g1 := aWR (mulD a.lo b.lo) (mulD a.lo b.hi) (mulD a.hi b.lo) (mulD a.hi b.hi)
 have g2 := aWU (mulD a.lo b.lo) (mulD a.lo b.hi) (mulD a.hi b.lo) (mulD a.hi b.hi)
 have h7 := aIb ⟨lo4 (mulD a.lo b.lo) (mulD a.lo b.hi) (mulD a.hi b.lo) (mulD a.hi b.hi), hi4 (mulD a.lo b.lo) (mulD a.lo b.hi) (mulD a.hi b.lo) (mulD a.hi b.hi)⟩ p
 have h8 := aQ4 (lo4 (mulD a.lo b.lo) (mulD a.lo b.hi) (mulD a.hi b.lo) (mulD a.hi b.hi)) (hi4 (mulD a.lo b.lo) (mulD a.lo b.hi) (mulD a.hi b.lo) (mulD a.hi b.hi))
 rw [show aAF a b p = aAD ⟨lo4 (mulD a.lo b.lo) (mulD a.lo b.hi) (mulD a.hi b.lo) (mulD a.hi b.hi), hi4 (mulD a.lo b.lo) (mulD a.lo b.hi) (mulD a.hi b.lo) (mulD a.hi b.hi)⟩ p from rfl]
 generalize hi4 (mulD a.lo b.lo) (mulD a.lo b.hi) (mulD a.hi b.lo) (mulD a.hi b.hi) = H at *
 generalize lo4 (mulD a.lo b.lo) (mulD a.lo b.hi) (mulD a.hi b.lo) (mulD a.hi b.hi) = L at *
 have e1 : bl L.m <= ib a + ib b /\ ae L <= ie a + ie b + ib a + ib b := by clear h7 h8 g2; omega
 have e2 : bl H.m <= ib a + ib b /\ ae H <= ie a + ie b + ib a + ib b := by clear h7 h8 g1; omega
 clear h1 h2 h3 h4 g1 g2 h5 h6
 omega
end
section
set_option maxRecDepth 10000
open Go.RowKit
theorem aCM {n : Nat} (h : bl n <= 1000000000000) : Sm n := h
theorem aD4 {e : Int} (h : e.natAbs <= 1000000000000000000) : Se e := by unfold Se; omega
theorem aFl {d : D} (h : bl d.m <= 1000000000000) (h' : ae d <= 1000000000000000) : aJA d /\ aJA (oneD d) := by
 have h1 := aBO d
 exact ⟨⟨h, aD4 (by unfold ae at h'; omega)⟩, Nat.le_trans h1.1 h, aD4 (by have := h1.2; unfold ae at *; omega)⟩
theorem aMC {d : D} {p : Int} (h : bl d.m <= 900000000000) (h' : ae d <= 1000000000000000) (hp : -1000000000000 <= p /\ p <= 1000000000000) : aPP d p := by
 have h1 := aBO d
 have h2 := aLt (oneD d).m true
 obtain ⟨g1, g2⟩ := aFl (by omega) h'
 refine ⟨g1, ⟨g2.1, aCM ?_⟩, aD4 ?_, hp.1, hp.2⟩
 · simp only [if_true] at h2
   omega
 · unfold ae at *
   omega
theorem aSm {a b : D} (h : 2 * bl a.m + 2 * bl b.m + ae a + ae b <= 900000000000) : aUr a b := by
 have h1 := aBO a
 have h2 := aBO b
 have h3 := aXd a b
 have h4 := aCr (alA (oneD a) (oneD b)) (alB (oneD a) (oneD b))
 obtain ⟨g1, g2⟩ := aFl (d := a) (by omega) (by omega)
 obtain ⟨g3, g4⟩ := aFl (d := b) (by omega) (by omega)
 refine ⟨⟨g1, g3⟩, ⟨g2, g4⟩, ⟨?_, ?_⟩, ⟨aCM (by omega), aCM (by omega), aCM (by omega)⟩, aD4 ?_⟩
 all_goals
   unfold ae at *
   omega
theorem aE8 (d : D) (h : bl d.m <= 1000000000000 /\ ae d <= 1000000000000000) : AC Tryz.prog TabW 64 [dyV d] (dyV (oneD d)) /\ (bl (oneD d).m <= bl d.m /\ ae (oneD d) <= ae d + bl d.m) := by
 exact ⟨aHo d h.1 (aD4 (by have := h.2; unfold ae at this; omega)), aBO d⟩
theorem aVj (d : D) (h : bl d.m <= 1000000000000 /\ ae d <= 1000000000000000) : AC Tryz.prog TabW 161 [dyV d] (dyV (negD d)) /\ (bl (negD d).m <= bl d.m /\ ae (negD d) <= ae d + bl d.m) := by
 exact ⟨aM5 d h.1 (aD4 (by have := h.2; unfold ae at this; omega)), aEl d⟩
theorem aKM (d : D) (h : bl d.m <= 1000000000000 /\ ae d <= 1000000000000000) : AC Tryz.prog TabW 122 [dyV d] (dyV (absD d)) /\ (bl (absD d).m <= bl d.m /\ ae (absD d) <= ae d + bl d.m) := by
 exact ⟨aVn d h.1 (aD4 (by have := h.2; unfold ae at this; omega)), aJw d⟩
theorem aEB (neg : Bool) (m : Nat) (e : Int) (h : bl m <= 1000000000000 /\ -1000000000000000 <= e /\ e <= 1000000000000000) : AC Tryz.prog TabW 86 [.lit (.bool neg), .num m, .lit (.int .i64 e)] (dyV (aAL neg m e)) /\ (bl (aAL neg m e).m <= bl m /\ ae (aAL neg m e) <= e.natAbs + bl m) := by
 exact ⟨aDn neg m e h.1 (by unfold Se; omega), aBp neg m e⟩
theorem aIL (d : D) (n : Int) (h : bl d.m <= 1000000000000 /\ ae d <= 1000000000000000 /\ -1000000000000000 <= n /\ n <= 1000000000000000) : AC Tryz.prog TabW 150 [dyV d, .lit (.int .i64 n)] (dyV (aAs d n)) /\ (bl (aAs d n).m <= bl d.m /\ ae (aAs d n) <= ae d + n.natAbs + bl d.m) := by
 exact ⟨aQv d n h.1 (aD4 (by have := h.2.1; unfold ae at this; omega)), aGV d n⟩
theorem aBS (d : D) (h : bl d.m <= 1000000000000 /\ ae d <= 1000000000000000) : AC Tryz.prog TabW 50 [dyV d] (ivV (aAn d)) /\ (ib (aAn d) <= bl d.m /\ ie (aAn d) <= ae d + bl d.m) := by
 exact ⟨aQw d h.1 (aD4 (by have := h.2; unfold ae at this; omega)), aEj d⟩
theorem aVl (d : D) (p : Int) (up : Bool) (h : bl d.m <= 900000000000 /\ ae d <= 1000000000000000 /\ -1000000000000 <= p /\ p <= 1000000000000) : AC Tryz.prog TabW 129 [dyV d, .lit (.int .i64 p), .lit (.bool up)] (dyV (cutD d p up)) /\ (bl (cutD d p up).m <= bl d.m + 1 /\ ((bl (cutD d p up).m : Nat) : Int) <= max p 0 + 1 /\ ae (cutD d p up) <= ae d + 3 * bl d.m + p.natAbs + 1) := by
 exact ⟨aM6 up (aMC h.1 h.2.1 h.2.2), aHG d p up⟩
theorem aHp (a b : D) (h : 2 * bl a.m + 2 * bl b.m + ae a + ae b <= 900000000000) : AC Tryz.prog TabW 46 [dyV a, dyV b] (dyV (addD a b)) /\ (bl (addD a b).m <= 2 * bl a.m + 2 * bl b.m + ae a + ae b + 1 /\ ae (addD a b) <= 2 * ae a + 2 * ae b + 3 * bl a.m + 3 * bl b.m + 1) := by
 exact ⟨aM7 a b (aSm h), aEM a b⟩
theorem aKK (a b : D) (h : bl a.m + bl b.m <= 900000000000 /\ ae a + ae b <= 100000000000000000) : AC Tryz.prog TabW 134 [dyV a, dyV b] (dyV (mulD a b)) /\ (bl (mulD a b).m <= bl a.m + bl b.m /\ ae (mulD a b) <= ae a + ae b + bl a.m + bl b.m) := by
 exact ⟨aVk a b (by unfold Sm; omega) (by unfold Sm; omega) (Nat.le_trans (aHY a.m b.m) (by omega)) (aD4 (by have := h.2; unfold ae at this; omega)), aEK a b⟩
theorem aHn (d : D) (h : bl d.m <= 1000000000000 /\ ae d <= 1000000000000000) : AC Tryz.prog TabW 117 [dyV d] (.lit (.int .i64 (topD d))) /\ (topD d = d.e + ((bl d.m : Nat) : Int) - 1 /\ d.e.natAbs = ae d) := by
 exact ⟨aVi d (aFl h.1 h.2).1, rfl, rfl⟩
theorem aSY (v : Iv) (h : ib v <= 900000000000 /\ ie v <= 1000000000000000) : AC Tryz.prog TabW 128 [ivV v] (ivV (aCd v)) /\ (ib (aCd v) <= ib v /\ ie (aCd v) <= ie v + ib v) := by
 have h1 := aBe v
 exact ⟨aOf v (aFl (by omega) (by omega)).1 (aFl (by omega) (by omega)).1, aH9 v⟩
theorem aDm (v : Iv) (p : Int) (h : ib v <= 900000000000 /\ ie v <= 1000000000000000 /\ -1000000000000 <= p /\ p <= 1000000000000) : AC Tryz.prog TabW 97 [ivV v, .lit (.int .i64 p)] (ivV (aAD v p)) /\ (ib (aAD v p) <= ib v + 1 /\ ((ib (aAD v p) : Nat) : Int) <= max p 0 + 1 /\ ie (aAD v p) <= ie v + 3 * ib v + p.natAbs + 1) := by
 have h1 := aBe v
 exact ⟨aOg v p (aMC (by omega) (by omega) (by omega)) (aMC (by omega) (by omega) (by omega)), aIb v p⟩
theorem aS2 (a b : Iv) (p : Int) (h : 4 * ib a + 5 * ib b + ie a + ie b <= 800000000000 /\ -1000000000000 <= p /\ p <= 1000000000000) : AC Tryz.prog TabW 126 [ivV a, ivV b, .lit (.int .i64 p)] (ivV (aFn a b p)) /\ (((ib (aFn a b p) : Nat) : Int) <= max p 0 + 1 /\ ie (aFn a b p) <= 5 * ie a + 5 * ie b + 9 * ib a + 14 * ib b + p.natAbs + 5) := by
 have h1 := aBe a
 have h2 := aBe b
 have h0 := aH9 b
 have h2' := aBe (aCd b)
 have h3 := aEM a.lo (aCd b).lo
 have h4 := aEM a.hi (aCd b).hi
 exact ⟨aS3 a b p (aFl (by omega) (by omega)).1 (aFl (by omega) (by omega)).1 ⟨⟨aSm (by omega), aSm (by omega)⟩, aMC (by omega) (by omega) (by omega), aMC (by omega) (by omega) (by omega)⟩, aOq a b p⟩
end
section
set_option maxRecDepth 10000
open Go.RowKit
theorem intE (n : Int) : intD n = aAL (decide (n < 0)) n.natAbs 0 := rfl
theorem aBX (n : Int) (h : -9223372036854775808 < n /\ n <= 9223372036854775807) : AC Tryz.prog TabW 47 [.lit (.int .i64 n)] (dyV (intD n)) /\ (bl (intD n).m <= 64 /\ ae (intD n) <= 64) := by
 have hb : bl n.natAbs <= 64 := aC8 (by omega)
 have hs := aAW n
 refine ⟨?_, by omega⟩
 clear hs
 rw [intE]
 refine aAd Tryz.func47 rfl (by kernel_rfl) aAc Tryz.mixed rfl rfl (by kernel_rfl) ?_
 simp only [aAl, Tryz.ntmps47, dyV, ivV]
 repeat' first
  | refine aAa fun K g => ?_
  | refine goK (by assumption) ?_
  | ((first | refine aAk ?_ | refine aAe ?_) <;> try simp only [aAm, aAg, reduceIte, Nat.reduceEqDiff])
  | ((first
  | refine aAU rfl fun os => ?_
  | (refine cxo (aHS _ (by omega) (by omega)) ?_; first | rw [show ((0 - n % 18446744073709551616) % 18446744073709551616).toNat = n.natAbs from by omega] | rw [show (n % 18446744073709551616).toNat = n.natAbs from by omega])
  | refine cxoz (aEB _ _ _ (by omega)) (fun z => ?_)
  | simp only [endX, resX, resV, Tryz.results47]) <;> try (simp (disch := omega) only [xq, simprocAttr, dyV, ivV, aCn]))
  | (refine aAf (by first | rfl | assumption) (fun c => ?_) (fun c => ?_) <;> first | exact absurd c (by decide) | ((try rw [c]); try simp only [xn] at c))
  | (first | done | rfl
     done)
theorem aIe (d : D) : aAK d = -1 \/ aAK d = 0 \/ aAK d = 1 := by
 unfold aAK
 split
 · exact .inr (.inl rfl)
 · split
   · exact .inl rfl
   · exact .inr (.inr rfl)
theorem aOH (a b : Nat) : cmpN a b = -1 \/ cmpN a b = 0 \/ cmpN a b = 1 := by
 unfold cmpN
 split
 · exact .inl rfl
 · split
   · exact .inr (.inr rfl)
   · exact .inr (.inl rfl)
theorem aKk (a b : D) : cmpD a b = -1 \/ cmpD a b = 0 \/ cmpD a b = 1 := by
 unfold cmpD
 split
 · exact .inl rfl
 · split
   · exact .inr (.inr rfl)
   · exact .inr (.inl rfl)
theorem aIc {a b : D} (h : topD a = topD b) (ha : a.m ≠ 0) (hb : b.m ≠ 0) : (oneD a).e - (oneD b).e <= 2 * (bl a.m + bl b.m : Nat) /\ (oneD b).e - (oneD a).e <= 2 * (bl a.m + bl b.m : Nat) := by
 have h1 : (oneD a).e = a.e + (tz a.m : Nat) := by show fExp a.m a.e = _; unfold fExp; rw [if_neg ha]
 have h2 : (oneD b).e = b.e + (tz b.m : Nat) := by show fExp b.m b.e = _; unfold fExp; rw [if_neg hb]
 have h3 := aMW ha
 have h4 := aMW hb
 unfold topD at h
 omega
theorem aFz (a b : D) (h : bl a.m + bl b.m <= 400000000000 /\ ae a <= 1000000000000000 /\ ae b <= 1000000000000000) : AC Tryz.prog TabW 87 [dyV a, dyV b] (.lit (.int .i64 (cmpD a b))) := by
 rw [<- aNL]
 have hr : cmpP a b = if aAK a < aAK b then -1 else if aAK b < aAK a then 1 else if aAK a = 0 then 0 else
   if topD a ≠ topD b then (if topD a < topD b then -aAK a else aAK a) else aAK a * cmpN (alA (oneD a) (oneD b)) (alB (oneD a) (oneD b)) := rfl
 have ta := aHn a (by omega)
 have tb := aHn b (by omega)
 have sa := aKJ a
 have sb := aKJ b
 have ua := aIe a
 have o1 := aFl (d := a) (by omega) (by omega)
 have o2 := aFl (d := b) (by omega) (by omega)
 have ha := aE8 a (by omega)
 have hb := aE8 b (by omega)
 have hm : topD a = topD b -> aAK a ≠ 0 -> aAK b ≠ 0 -> AC Tryz.prog TabW 88 [dyV (oneD a), dyV (oneD b)] (.tup [.num (alA (oneD a) (oneD b)), .num (alB (oneD a) (oneD b)), .lit (.int .i64 (min (oneD a).e (oneD b).e))]) := fun ht h1 h2 => by
   have n1 : a.m ≠ 0 := fun e => h1 (by unfold aAK; rw [if_pos e])
   have n2 : b.m ≠ 0 := fun e => h2 (by unfold aAK; rw [if_pos e])
   have h3 := aIc ht n1 n2
   exact aGv (oneD a) (oneD b) o1.2.1 o2.2.1 (by omega) (by omega)
 rw [hr]
 generalize alA (oneD a) (oneD b) = X at *
 generalize alB (oneD a) (oneD b) = Y at *
 generalize min (oneD a).e (oneD b).e = M at *
 generalize oneD a = x at *
 generalize oneD b = y at *
 generalize aAK a = s at *
 generalize aAK b = t at *
 have ti := ta.2
 have tj := tb.2
 generalize topD a = i at *
 generalize topD b = j at *
 have ub := aOH X Y
 have us : -1 <= s * cmpN X Y /\ s * cmpN X Y <= 1 := by rcases ua with h | h | h <;> rcases ub with g | g | g <;> rw [h, g] <;> decide
 refine aAd Tryz.func87 rfl (by kernel_rfl) aAc Tryz.mixed rfl rfl (by kernel_rfl) ?_
 simp only [aAl, Tryz.ntmps87, dyV, ivV]
 repeat' first
  | refine aAa fun K g => ?_
  | refine goK (by assumption) ?_
  | refine aAv ?_
  | ((first | refine aAk ?_ | refine aAe ?_) <;> try simp only [aAm, aAg, reduceIte, Nat.reduceEqDiff])
  | ((first
  | refine aAU rfl fun os => ?_
  | refine aCR rfl (by kernel_rfl) fun os => ?_
  | refine cxd (sa) ?_
  | refine cxd (sb) ?_
  | refine cxd (ta.1) ?_
  | refine cxd (tb.1) ?_
  | refine cxd (ha.1) ?_
  | refine cxd (hb.1) ?_
  | refine cxd (hm (by omega) (by omega) (by omega)) ?_
  | refine cxo (aNr _ _) ?_
  | simp only [endX, resX, resV, Tryz.results87]) <;> try (simp (disch := omega) only [xq, simprocAttr, dyV, ivV, Int.zero_sub]))
  | (refine aAf (by first | rfl | assumption) (fun c => ?_) (fun c => ?_) <;> first | exact absurd c (by decide) | ((try rw [c]); try simp only [xn] at c))
  | (repeat (first | rw [if_pos (by first | assumption | omega)] | rw [if_neg (by first | assumption | omega)])
     first | done | rfl
     done)
end
section
set_option maxRecDepth 10000
open Go.RowKit
theorem aQy (d : D) (h : bl d.m <= 900000000000 /\ ae d <= 1000000000000000) : AC Tryz.prog TabW 177 [dyV d] (dyV (aBm d)) /\ (bl (aBm d).m <= bl d.m + 1 /\ ae (aBm d) <= ae d + bl d.m + 1) := by
 have hs := aJa d
 refine ⟨?_, hs⟩
 clear hs
 have h1 := aE8 d (by omega)
 have hr : aBm d = if 0 <= (oneD d).e then oneD d else aAL (oneD d).neg ((oneD d).m / 2 ^ (-(oneD d).e).toNat + (if aEL (oneD d).m (-(oneD d).e).toNat && (oneD d).neg then 1 else 0)) 0 := rfl
 rw [hr]
 generalize oneD d = x at *
 have ex : ae x = x.e.natAbs := rfl
 have b1 := aHX x.m (-x.e).toNat
 have b2 := aCr (x.m / 2 ^ (-x.e).toNat) 1
 have b3 : bl 1 = 1 := by decide
 have e1 : (1 : Int).toNat = 1 := rfl
 refine aAd Tryz.func177 rfl (by kernel_rfl) aAc Tryz.mixed rfl rfl (by kernel_rfl) ?_
 simp only [aAl, Tryz.ntmps177, dyV, ivV]
 refine aAa fun K1 g1 => ?_
 refine aAb fun os => ?_
 try simp (disch := omega) only [xq, simprocAttr, dyV, ivV, Int.zero_sub, e1]
 refine g1 _ ?_
 refine aAa fun K2 g2 => ?_
 refine aAb fun os => ?_
 try simp (disch := omega) only [xq, simprocAttr, dyV, ivV, Int.zero_sub, e1]
 refine cxoz (h1) (fun z1 => ?_)
 try simp (disch := omega) only [xq, simprocAttr, dyV, ivV, Int.zero_sub, e1]
 refine g2 _ ?_
 refine aAa fun K3 g3 => ?_
 refine aAa fun K4 g4 => ?_
 refine aAb fun os => ?_
 try simp (disch := omega) only [xq, simprocAttr, dyV, ivV, Int.zero_sub, e1]
 refine g4 _ ?_
 refine aAf (by first | rfl | assumption) (fun c1 => ?_) (fun c1 => ?_)
 ·try simp only [xn] at c1
  refine aAa fun K5 g5 => ?_
  refine aAb fun os => ?_
  try simp (disch := omega) only [xq, simprocAttr, dyV, ivV, Int.zero_sub, e1]
  refine g5 _ ?_
  refine aAe ?_
  simp only [aAm, aAg, reduceIte, Nat.reduceEqDiff]
  simp only [endX, resX, resV, Tryz.results177]
  try simp (disch := omega) only [xq, simprocAttr, dyV, ivV, Int.zero_sub, e1]
  rw [if_pos (by omega)]
 ·try simp only [xn] at c1
  refine aAk ?_
  simp only [aAm, aAg, reduceIte, Nat.reduceEqDiff]
  refine g3 _ ?_
  refine aAa fun K6 g6 => ?_
  refine aAb fun os => ?_
  try simp (disch := omega) only [xq, simprocAttr, dyV, ivV, Int.zero_sub, e1]
  refine cxo (aK7 _ _ (aCM (by omega)) (by omega) (by omega)) ?_
  try simp (disch := omega) only [xq, simprocAttr, dyV, ivV, Int.zero_sub, e1]
  refine g6 _ ?_
  refine aAa fun K7 g7 => ?_
  refine aAa fun K8 g8 => ?_
  refine aAx ?_
  try simp (disch := omega) only [xq, simprocAttr, dyV, ivV, Int.zero_sub, e1]
  refine gx (fun c2 => ?_) (fun c2 => ?_)
  ·rw [c2]
   try simp only [xn] at c2
   try simp (disch := omega) only [xq, simprocAttr, dyV, ivV, Int.zero_sub, e1]
   refine g8 _ ?_
   refine aAf (by first | rfl | assumption) (fun c3 => ?_) (fun c3 => ?_)
   ·try simp only [xn] at c3
    refine aAb fun os => ?_
    try simp (disch := omega) only [xq, simprocAttr, dyV, ivV, Int.zero_sub, e1]
    refine cxo (aHS _ (by omega) (by omega)) ?_
    try simp (disch := omega) only [xq, simprocAttr, dyV, ivV, Int.zero_sub, e1]
    refine cxo (aGB _ _ (aCM (by omega)) (aCM (by omega))) ?_
    try simp (disch := omega) only [xq, simprocAttr, dyV, ivV, Int.zero_sub, e1]
    refine g7 _ ?_
    refine aAa fun K9 g9 => ?_
    refine aAb fun os => ?_
    try simp (disch := omega) only [xq, simprocAttr, dyV, ivV, Int.zero_sub, e1]
    refine cxoz (aEB _ _ _ (by omega)) (fun z2 => ?_)
    try simp (disch := omega) only [xq, simprocAttr, dyV, ivV, Int.zero_sub, e1]
    refine g9 _ ?_
    refine aAe ?_
    simp only [endX, resX, resV, Tryz.results177]
    try simp (disch := omega) only [xq, simprocAttr, dyV, ivV, Int.zero_sub, e1]
    rw [if_neg (by omega)]
    simp [c2, c3]
   ·try simp only [xn] at c3
    refine aAk ?_
    simp only [aAm, aAg, reduceIte, Nat.reduceEqDiff]
    refine g7 _ ?_
    refine aAa fun K10 g10 => ?_
    refine aAb fun os => ?_
    try simp (disch := omega) only [xq, simprocAttr, dyV, ivV, Int.zero_sub, e1]
    refine cxoz (aEB _ _ _ (by omega)) (fun z3 => ?_)
    try simp (disch := omega) only [xq, simprocAttr, dyV, ivV, Int.zero_sub, e1]
    refine g10 _ ?_
    refine aAe ?_
    simp only [endX, resX, resV, Tryz.results177]
    try simp (disch := omega) only [xq, simprocAttr, dyV, ivV, Int.zero_sub, e1]
    rw [if_neg (by omega)]
    simp [c2, c3]
  ·rw [c2]
   try simp only [xn] at c2
   try simp (disch := omega) only [xq, simprocAttr, dyV, ivV, Int.zero_sub, e1]
   refine g8 _ ?_
   refine aAf (by first | rfl | assumption) (fun c4 => ?_) (fun c4 => ?_)
   ·exact absurd c4 (by decide)
   ·try simp only [xn] at c4
    refine aAk ?_
    simp only [aAm, aAg, reduceIte, Nat.reduceEqDiff]
    refine g7 _ ?_
    refine aAa fun K11 g11 => ?_
    refine aAb fun os => ?_
    try simp (disch := omega) only [xq, simprocAttr, dyV, ivV, Int.zero_sub, e1]
    refine cxoz (aEB _ _ _ (by omega)) (fun z4 => ?_)
    try simp (disch := omega) only [xq, simprocAttr, dyV, ivV, Int.zero_sub, e1]
    refine g11 _ ?_
    refine aAe ?_
    simp only [endX, resX, resV, Tryz.results177]
    try simp (disch := omega) only [xq, simprocAttr, dyV, ivV, Int.zero_sub, e1]
    rw [if_neg (by omega)]
    simp [c2]
end
section
set_option maxRecDepth 10000
open Go.RowKit
theorem maxE (p q : Int) : (if p < q then q else p) = max p q := by split <;> omega
theorem lenE (n : Nat) : decide ((0 : Int) < (((limbsOf n).length : Nat) : Int)) = (n != 0) := by
 by_cases h : n = 0
 · rw [h, aAZ]; rfl
 · have : 0 < (limbsOf n).length := by
     rcases Nat.eq_zero_or_pos (limbsOf n).length with h0 | h0
     · have h1 := aAi n
       rw [List.length_eq_zero_iff.1 h0] at h1
       exact absurd h1.symm (by simpa [valN] using h)
     · exact h0
   rw [show (n != 0) = true from by simpa using h]
   exact decide_eq_true (by omega)
theorem aO8 (neg : Bool) (q : Nat) (more : Bool) (e : Int) (h : bl q <= 900000000000 /\ -1000000000000000 < e /\ e <= 1000000000000000) : AC Tryz.prog TabW 176 [.lit (.bool neg), .num q, .lit (.bool more), .lit (.int .i64 e)] (dyV (aAL neg (stk q more) (e - 1))) /\ (bl (aAL neg (stk q more) (e - 1)).m <= bl q + 2 /\ ae (aAL neg (stk q more) (e - 1)) <= e.natAbs + bl q + 4) := by
 have h1 := aD2 q 1
 have h2 := aCr (q * 2 ^ 1) 1
 have h3 : bl 1 = 1 := by decide
 have h4 := aQk q more
 have h5 := aBp neg (stk q more) (e - 1)
 refine ⟨?_, by omega, by omega⟩
 clear h4 h5
 refine aAd Tryz.func176 rfl (by kernel_rfl) aAc Tryz.mixed rfl rfl (by kernel_rfl) ?_
 simp only [aAl, Tryz.ntmps176, dyV, ivV]
 refine aAa fun K1 g1 => ?_
 refine aAb fun os => ?_
 try simp (disch := omega) only [xq, simprocAttr, dyV, ivV, -Nat.reducePow]
 refine g1 _ ?_
 refine aAa fun K2 g2 => ?_
 refine aAb fun os => ?_
 try simp (disch := omega) only [xq, simprocAttr, dyV, ivV, -Nat.reducePow]
 refine cxo (aHx _ _ (aCM (by omega)) (by omega) (by omega)) ?_
 try simp (disch := omega) only [xq, simprocAttr, dyV, ivV, -Nat.reducePow]
 refine g2 _ ?_
 refine aAa fun K3 g3 => ?_
 refine aAa fun K4 g4 => ?_
 refine aAb fun os => ?_
 try simp (disch := omega) only [xq, simprocAttr, dyV, ivV, -Nat.reducePow]
 refine g4 _ ?_
 refine aAf (by first | rfl | assumption) (fun c1 => ?_) (fun c1 => ?_)
 ·try simp only [xn] at c1
  refine aAb fun os => ?_
  try simp (disch := omega) only [xq, simprocAttr, dyV, ivV, -Nat.reducePow]
  refine cxo (aHS _ (by omega) (by omega)) ?_
  try simp (disch := omega) only [xq, simprocAttr, dyV, ivV, -Nat.reducePow]
  refine cxo (aGB _ _ (aCM (by omega)) (aCM (by omega))) ?_
  try simp (disch := omega) only [xq, simprocAttr, dyV, ivV, -Nat.reducePow]
  refine g3 _ ?_
  refine aAa fun K5 g5 => ?_
  refine aAb fun os => ?_
  try simp (disch := omega) only [xq, simprocAttr, dyV, ivV, -Nat.reducePow]
  refine cxoz (aEB _ _ _ (by omega)) (fun z1 => ?_)
  try simp (disch := omega) only [xq, simprocAttr, dyV, ivV, -Nat.reducePow]
  refine g5 _ ?_
  refine aAe ?_
  simp only [endX, resX, resV, Tryz.results176]
  try simp (disch := omega) only [xq, simprocAttr, dyV, ivV, -Nat.reducePow]
  simp [stk, *]
 ·try simp only [xn] at c1
  refine aAk ?_
  simp only [aAm, aAg, reduceIte, Nat.reduceEqDiff]
  refine g3 _ ?_
  refine aAa fun K6 g6 => ?_
  refine aAb fun os => ?_
  try simp (disch := omega) only [xq, simprocAttr, dyV, ivV, -Nat.reducePow]
  refine cxoz (aEB _ _ _ (by omega)) (fun z2 => ?_)
  try simp (disch := omega) only [xq, simprocAttr, dyV, ivV, -Nat.reducePow]
  refine g6 _ ?_
  refine aAe ?_
  simp only [endX, resX, resV, Tryz.results176]
  try simp (disch := omega) only [xq, simprocAttr, dyV, ivV, -Nat.reducePow]
  simp [stk, *]
theorem aEA (a b : D) (p : Int) (up : Bool) (hb : b.m ≠ 0) (h : 2 * bl a.m + bl b.m <= 400000000000 /\ ae a <= 100000000000000 /\ ae b <= 100000000000000 /\ -100000000000 <= p /\ p <= 100000000000) : AC Tryz.prog TabW 151 [dyV a, dyV b, .lit (.int .i64 p), .lit (.bool up)] (dyV (aCe a b p up)) /\ (((bl (aCe a b p up).m : Nat) : Int) <= max p 0 + 1 /\ ae (aCe a b p up) <= ae a + ae b + 12 * bl a.m + 12 * bl b.m + 6 * p.natAbs + 30) := by
 have hz := aTj a b p up
 refine ⟨?_, hz⟩
 clear hz
 have h1 := aE8 a (by omega)
 have h2 := aE8 b (by omega)
 have nb : (oneD b).m ≠ 0 := fun e => hb ((aGY b).1 e)
 have hr : aCe a b p up = if (oneD a).m = 0 then ⟨false, 0, 0⟩ else
   cutD (aAL ((oneD a).neg != (oneD b).neg)
   (stk ((oneD a).m * 2 ^ (max (p + 2 + ((bl (oneD b).m : Nat) : Int) - ((bl (oneD a).m : Nat) : Int)) 0).toNat / (oneD b).m)
     ((oneD a).m * 2 ^ (max (p + 2 + ((bl (oneD b).m : Nat) : Int) - ((bl (oneD a).m : Nat) : Int)) 0).toNat % (oneD b).m != 0))
   ((oneD a).e - (oneD b).e - max (p + 2 + ((bl (oneD b).m : Nat) : Int) - ((bl (oneD a).m : Nat) : Int)) 0 - 1)) p up := rfl
 rw [hr]
 generalize oneD a = x at *
 generalize oneD b = y at *
 have ex : ae x = x.e.natAbs := rfl
 have ey : ae y = y.e.natAbs := rfl
 generalize hk : max (p + 2 + ((bl y.m : Nat) : Int) - ((bl x.m : Nat) : Int)) 0 = k at *
 have b1 := aD2 x.m k.toNat
 have b2 := aJq (x.m * 2 ^ k.toNat) y.m
 refine aAd Tryz.func151 rfl (by kernel_rfl) aAc Tryz.mixed rfl rfl (by kernel_rfl) ?_
 simp only [aAl, Tryz.ntmps151, dyV, ivV]
 refine aAa fun K1 g1 => ?_
 refine aAb fun os => ?_
 try simp (disch := omega) only [xq, simprocAttr, dyV, ivV, maxE, lenE, hk]
 refine g1 _ ?_
 refine aAa fun K2 g2 => ?_
 refine aAB (by kernel_rfl) fun os => ?_
 try simp (disch := omega) only [xq, simprocAttr, dyV, ivV, maxE, lenE, hk]
 refine cxdz (h1) (fun z1 => ?_)
 try simp (disch := omega) only [xq, simprocAttr, dyV, ivV, maxE, lenE, hk]
 refine cxdz (h2) (fun z2 => ?_)
 try simp (disch := omega) only [xq, simprocAttr, dyV, ivV, maxE, lenE, hk]
 refine g2 _ ?_
 refine aAa fun K3 g3 => ?_
 refine aAa fun K4 g4 => ?_
 refine aAb fun os => ?_
 try simp (disch := omega) only [xq, simprocAttr, dyV, ivV, maxE, lenE, hk]
 refine cxo (aCB _) ?_
 try simp (disch := omega) only [xq, simprocAttr, dyV, ivV, maxE, lenE, hk]
 refine g4 _ ?_
 refine aAf (by first | rfl | assumption) (fun c1 => ?_) (fun c1 => ?_)
 ·try simp only [xn] at c1
  refine aAa fun K5 g5 => ?_
  refine aAb fun os => ?_
  try simp (disch := omega) only [xq, simprocAttr, dyV, ivV, maxE, lenE, hk]
  refine g5 _ ?_
  refine aAe ?_
  simp only [aAm, aAg, reduceIte, Nat.reduceEqDiff]
  simp only [endX, resX, resV, Tryz.results151]
  try simp (disch := omega) only [xq, simprocAttr, dyV, ivV, maxE, lenE, hk]
  rw [if_pos (by simpa using c1)]
  first | done | rfl
 ·try simp only [xn] at c1
  refine aAk ?_
  simp only [aAm, aAg, reduceIte, Nat.reduceEqDiff]
  refine g3 _ ?_
  refine aAa fun K6 g6 => ?_
  refine aAB (by kernel_rfl) fun os => ?_
  try simp (disch := omega) only [xq, simprocAttr, dyV, ivV, maxE, lenE, hk]
  refine cxd (aK9 _ (aCM (by omega))) ?_
  try simp (disch := omega) only [xq, simprocAttr, dyV, ivV, maxE, lenE, hk]
  refine cxd (aK9 _ (aCM (by omega))) ?_
  try simp (disch := omega) only [xq, simprocAttr, dyV, ivV, maxE, lenE, hk]
  refine g6 _ ?_
  refine aAa fun K7 g7 => ?_
  refine aAB (by kernel_rfl) fun os => ?_
  try simp (disch := omega) only [xq, simprocAttr, dyV, ivV, maxE, lenE, hk]
  refine cxd (aHx _ _ (aCM (by omega)) (by omega) (by omega)) ?_
  try simp (disch := omega) only [xq, simprocAttr, dyV, ivV, maxE, lenE, hk]
  refine cxd (aVJ _ _ (aCM (by omega)) (aCM (by omega)) (by omega)) ?_
  try simp (disch := omega) only [xq, simprocAttr, dyV, ivV, maxE, lenE, hk]
  refine g7 _ ?_
  refine aAa fun K8 g8 => ?_
  refine aAb fun os => ?_
  try simp (disch := omega) only [xq, simprocAttr, dyV, ivV, maxE, lenE, hk]
  refine cxoz (aO8 _ _ _ _ (by omega)) (fun z3 => ?_)
  try simp (disch := omega) only [xq, simprocAttr, dyV, ivV, maxE, lenE, hk]
  refine cxoz (aVl _ _ _ (by omega)) (fun z4 => ?_)
  try simp (disch := omega) only [xq, simprocAttr, dyV, ivV, maxE, lenE, hk]
  refine g8 _ ?_
  refine aAe ?_
  simp only [endX, resX, resV, Tryz.results151]
  try simp (disch := omega) only [xq, simprocAttr, dyV, ivV, maxE, lenE, hk]
  rw [if_neg (by simpa using c1)]
  rfl
def aCq : List D -> List AV
 | [] => []
 | d :: l => .lit (.bool d.neg) :: .num d.m :: .lit (.int .i64 d.e) :: aCq l
theorem aGL : ∀ (l : List D) (i : Nat), (aCq l).drop (i * 3) = aCq (l.drop i)
 | [], i => by simp [aCq]
 | d :: l, 0 => by simp
 | d :: l, i + 1 => by
   rw [Nat.succ_mul]
   simp only [aCq, List.drop_succ_cons]
   exact aGL l i
theorem aHI : ∀ l : List D, (aCq l).length = l.length * 3
 | [] => rfl
 | d :: l => by simp only [aCq, List.length_cons, aHI l]; omega
theorem aAu (x : D) (r : List D) : ((aCq (x :: r)).take ((r.length + 1) * 3)).drop 3 = aCq r := by
 rw [List.take_of_length_le (by rw [aHI]; exact Nat.le_refl _)]
 rfl
theorem aAr (x : D) (r : List D) : ((.lit (.bool x.neg) :: .num x.m :: .lit (.int .i64 x.e) :: aCq r).take ((r.length + 1) * 3)).drop 3 = aCq r := aAu x r
def aH3 (x : D) (l : List D) : Iv := l.foldl (fun v d => ⟨minD v.lo d, maxD v.hi d⟩) ⟨x, x⟩
theorem aDc (x : D) (r : List D) (i : Nat) (d : D) (h : r[i]? = some d) : aH3 x (r.take (i + 1)) = ⟨minD (aH3 x (r.take i)).lo d, maxD (aH3 x (r.take i)).hi d⟩ := by
 unfold aH3
 rw [List.take_add_one, h]
 simp
theorem aLP (x : D) : ∀ l : List D, ((aH3 x l).lo ∈ x :: l) /\ ((aH3 x l).hi ∈ x :: l) := by
 have key : ∀ (l : List D) (v : Iv) (s : List D), v.lo ∈ s -> v.hi ∈ s -> (l.foldl (fun v d => (⟨minD v.lo d, maxD v.hi d⟩ : Iv)) v).lo ∈ s ++ l /\ (l.foldl (fun v d => (⟨minD v.lo d, maxD v.hi d⟩ : Iv)) v).hi ∈ s ++ l := by
   intro l
   induction l with
   | nil => intro v s h1 h2; simpa using ⟨h1, h2⟩
   | cons d l ih =>
     intro v s h1 h2
     have := ih ⟨minD v.lo d, maxD v.hi d⟩ (s ++ [d]) (by rcases aNg v.lo d with h | h <;> simp [h, h1]) (by rcases aNj v.hi d with h | h <;> simp [h, h2])
     simpa using this
 intro l
 have := key l ⟨x, x⟩ [x] (by simp) (by simp)
 exact ⟨by simpa [aH3] using this.1, by simpa [aH3] using this.2⟩
theorem aLs : ∀ l : List D, noPtrL (aCq l) = true
 | [] => rfl
 | d :: l => by simp only [aCq, noPtrL, noPtr, aLs l]; rfl
def DsOk (l : List D) : Prop := ∀ d ∈ l, bl d.m <= 200000000000 /\ ae d <= 1000000000000000
def aXL (x : D) (r : List D) (c0 : List AV) (ms : Nat) (σ : St) : Prop := ∃ (t : List (Nat × AV)) (rest : AMem) (i : Nat) (L H : D), σ = ⟨t, 36, (29, c0) :: (29, [.lit (.bool L.neg), .num L.m, .lit (.int .i64 L.e), .lit (.bool H.neg), .num H.m, .lit (.int .i64 H.e)]) :: rest⟩ /\ getT t 2 = .ptr 0 0 /\ getT t 3 = .ptr 1 0 /\ getT t 14 = .arr r.length (aCq r) /\ getT t 15 = .lit (.int .i64 ((r.length : Nat) : Int)) /\ getT t 16 = .lit (.int .i64 ((i : Nat) : Int)) /\ (i <= r.length) /\ ((⟨L, H⟩ : Iv) = aH3 x (r.take i)) /\ ms = r.length - i
theorem aSZ (x : D) (r : List D) (hn : r.length <= 1000) (hok : DsOk (x :: r)) : AC Tryz.prog TabW 133 [.arr (r.length + 1) (aCq (x :: r))] (ivV (aH3 x r)) := by
 refine aAd Tryz.func133 rfl (by kernel_rfl) aAc Tryz.mixed (by simp only [noPtrL, noPtr, aLs]; rfl) rfl (by kernel_rfl) ?_
 simp only [aAl, Tryz.ntmps133, dyV, ivV]
 refine aAa fun K1 g1 => ?_
 refine aAb fun os => ?_
 try simp (disch := omega) only [xq, simprocAttr, dyV, ivV, aAu, aAr, Nat.add_sub_cancel]
 refine g1 _ ?_
 refine aAa fun K2 g2 => ?_
 have ex : aCq (x :: r) = .lit (.bool x.neg) :: .num x.m :: .lit (.int .i64 x.e) :: aCq r := rfl
 have hlt : (0 : Int) < ((r.length + 1 : Nat) : Int) := by omega
 have hle : (1 : Int) <= ((r.length + 1 : Nat) : Int) := by omega
 refine aAB (by kernel_rfl) fun os => ?_
 try simp (disch := omega) only [xq, simprocAttr, dyV, ivV, aAu, aAr, Nat.add_sub_cancel, hlt, hle, ex]
 refine g2 _ ?_
 refine aAa fun K3 g3 => ?_
 refine aAa fun K4 g4 => ?_
 refine aAb fun os => ?_
 try simp (disch := omega) only [xq, simprocAttr, dyV, ivV, aAu, aAr, Nat.add_sub_cancel, hlt, hle, ex]
 refine g4 _ ?_
 refine aAv ?_
 refine aDg (aXL x r _) _ ⟨_, [], 0, x, x, rfl, (by first | rfl | assumption | (simp (disch := omega) only [xq, simprocAttr, dyV, ivV, aAu, aAr, Nat.add_sub_cancel, hlt, hle, ex] <;> rfl)), (by first | rfl | assumption | (simp (disch := omega) only [xq, simprocAttr, dyV, ivV, aAu, aAr, Nat.add_sub_cancel, hlt, hle, ex] <;> rfl)), (by first | rfl | assumption | (simp (disch := omega) only [xq, simprocAttr, dyV, ivV, aAu, aAr, Nat.add_sub_cancel, hlt, hle, ex] <;> rfl)), (by first | rfl | assumption | (simp (disch := omega) only [xq, simprocAttr, dyV, ivV, aAu, aAr, Nat.add_sub_cancel, hlt, hle, ex] <;> rfl)), (by first | rfl | assumption | (simp (disch := omega) only [xq, simprocAttr, dyV, ivV, aAu, aAr, Nat.add_sub_cancel, hlt, hle, ex] <;> rfl)), (Nat.zero_le _), rfl, rfl⟩ ?_
 rintro ms _ ⟨t, rest, i, L, H, rfl, SpanR_t2, SpanR_t3, SpanR_t14, SpanR_t15, SpanR_t16, hi, hv, rfl⟩
 refine aAa fun K5 g5 => ?_
 refine aAb fun os => ?_
 try simp (disch := omega) only [xq, simprocAttr, dyV, ivV, aAu, aAr, Nat.add_sub_cancel, hlt, hle, ex, SpanR_t2, SpanR_t3, SpanR_t14, SpanR_t15, SpanR_t16]
 refine g5 _ ?_
 refine aAa fun K6 g6 => ?_
 refine aAf (by first | rfl | assumption) (fun c1 => ?_) (fun c1 => ?_)
 ·try simp only [xn] at c1
  refine aAk ?_
  simp only [aAm, aAg, reduceIte, Nat.reduceEqDiff]
  refine g6 _ ?_
  refine aAa fun K7 g7 => ?_
  refine aAv ?_
  refine aAa fun K8 g8 => ?_
  obtain ⟨d, hd⟩ : ∃ d, r[i]? = some d := ⟨r[i], List.getElem?_eq_getElem (by omega)⟩
  have hd3 := List.drop_eq_getElem_cons (l := r) (i := i) (by omega)
  have hd4 : r[i] = d := by rw [List.getElem?_eq_getElem (by omega)] at hd; exact Option.some.inj hd
  have htl : (aCq r).drop (i * 3) = .lit (.bool d.neg) :: .num d.m :: .lit (.int .i64 d.e) :: aCq (r.drop (i + 1)) := by rw [aGL, hd3, hd4]; rfl
  have hc : 0 <= ((i : Nat) : Int) /\ ((i : Nat) : Int) < ((r.length : Nat) : Int) := by omega
  have okd := hok d (List.mem_cons_of_mem _ (List.mem_of_getElem? hd))
  have mem := aLP x (r.take i)
  rw [<- hv] at mem
  have okL := hok L (by rcases List.mem_cons.1 mem.1 with h | h; rw [show L = x from h]; exact List.mem_cons_self; exact List.mem_cons_of_mem _ (List.mem_of_mem_take h))
  have okH := hok H (by rcases List.mem_cons.1 mem.2 with h | h; rw [show H = x from h]; exact List.mem_cons_self; exact List.mem_cons_of_mem _ (List.mem_of_mem_take h))
  refine aAb fun os => ?_
  try simp (disch := omega) only [xq, simprocAttr, dyV, ivV, aAu, aAr, Nat.add_sub_cancel, hlt, hle, ex, SpanR_t2, SpanR_t3, SpanR_t14, SpanR_t15, SpanR_t16, hc, htl]
  refine g8 _ ?_
  refine aAa fun K9 g9 => ?_
  refine aAa fun K10 g10 => ?_
  refine aAb fun os => ?_
  try simp (disch := omega) only [xq, simprocAttr, dyV, ivV, aAu, aAr, Nat.add_sub_cancel, hlt, hle, ex, SpanR_t2, SpanR_t3, SpanR_t14, SpanR_t15, SpanR_t16, hc, htl]
  refine cxo (aFz _ _ (by omega)) ?_
  try simp (disch := omega) only [xq, simprocAttr, dyV, ivV, aAu, aAr, Nat.add_sub_cancel, hlt, hle, ex, SpanR_t2, SpanR_t3, SpanR_t14, SpanR_t15, SpanR_t16, hc, htl]
  refine g10 _ ?_
  refine aAf (by first | rfl | assumption) (fun c2 => ?_) (fun c2 => ?_)
  ·try simp only [xn] at c2
   have e2 : minD L d = d := if_pos c2
   refine aAb fun os => ?_
   try simp (disch := omega) only [xq, simprocAttr, dyV, ivV, aAu, aAr, Nat.add_sub_cancel, hlt, hle, ex, SpanR_t2, SpanR_t3, SpanR_t14, SpanR_t15, SpanR_t16, hc, htl]
   refine g9 _ ?_
   refine aAa fun K11 g11 => ?_
   refine aAb fun os => ?_
   try simp (disch := omega) only [xq, simprocAttr, dyV, ivV, aAu, aAr, Nat.add_sub_cancel, hlt, hle, ex, SpanR_t2, SpanR_t3, SpanR_t14, SpanR_t15, SpanR_t16, hc, htl]
   refine cxo (aFz _ _ (by omega)) ?_
   try simp (disch := omega) only [xq, simprocAttr, dyV, ivV, aAu, aAr, Nat.add_sub_cancel, hlt, hle, ex, SpanR_t2, SpanR_t3, SpanR_t14, SpanR_t15, SpanR_t16, hc, htl]
   refine g11 _ ?_
   refine aAf (by first | rfl | assumption) (fun c3 => ?_) (fun c3 => ?_)
   ·try simp only [xn] at c3
    have e3 : maxD H d = d := if_pos c3
    refine aAb fun os => ?_
    try simp (disch := omega) only [xq, simprocAttr, dyV, ivV, aAu, aAr, Nat.add_sub_cancel, hlt, hle, ex, SpanR_t2, SpanR_t3, SpanR_t14, SpanR_t15, SpanR_t16, hc, htl]
    refine g7 _ ?_
    refine aAb fun os => ?_
    try simp (disch := omega) only [xq, simprocAttr, dyV, ivV, aAu, aAr, Nat.add_sub_cancel, hlt, hle, ex, SpanR_t2, SpanR_t3, SpanR_t14, SpanR_t15, SpanR_t16, hc, htl]
    exact ⟨_, (by omega), ⟨_, _, (i + 1), _, _, rfl, (by first | rfl | assumption | (simp (disch := omega) only [xq, simprocAttr, dyV, ivV, aAu, aAr, Nat.add_sub_cancel, hlt, hle, ex, SpanR_t2, SpanR_t3, SpanR_t14, SpanR_t15, SpanR_t16, hc, htl] <;> rfl)), (by first | rfl | assumption | (simp (disch := omega) only [xq, simprocAttr, dyV, ivV, aAu, aAr, Nat.add_sub_cancel, hlt, hle, ex, SpanR_t2, SpanR_t3, SpanR_t14, SpanR_t15, SpanR_t16, hc, htl] <;> rfl)), (by first | rfl | assumption | (simp (disch := omega) only [xq, simprocAttr, dyV, ivV, aAu, aAr, Nat.add_sub_cancel, hlt, hle, ex, SpanR_t2, SpanR_t3, SpanR_t14, SpanR_t15, SpanR_t16, hc, htl] <;> rfl)), (by first | rfl | assumption | (simp (disch := omega) only [xq, simprocAttr, dyV, ivV, aAu, aAr, Nat.add_sub_cancel, hlt, hle, ex, SpanR_t2, SpanR_t3, SpanR_t14, SpanR_t15, SpanR_t16, hc, htl] <;> rfl)), (by first | rfl | assumption | (simp (disch := omega) only [xq, simprocAttr, dyV, ivV, aAu, aAr, Nat.add_sub_cancel, hlt, hle, ex, SpanR_t2, SpanR_t3, SpanR_t14, SpanR_t15, SpanR_t16, hc, htl] <;> rfl)), (by omega), (by rw [aDc x r i d hd, <- hv]; simp only [e2, e3]), rfl⟩⟩
   ·try simp only [xn] at c3
    have e3 : maxD H d = H := if_neg (by omega)
    refine aAk ?_
    simp only [aAm, aAg, reduceIte, Nat.reduceEqDiff]
    refine g7 _ ?_
    refine aAb fun os => ?_
    try simp (disch := omega) only [xq, simprocAttr, dyV, ivV, aAu, aAr, Nat.add_sub_cancel, hlt, hle, ex, SpanR_t2, SpanR_t3, SpanR_t14, SpanR_t15, SpanR_t16, hc, htl]
    exact ⟨_, (by omega), ⟨_, _, (i + 1), _, _, rfl, (by first | rfl | assumption | (simp (disch := omega) only [xq, simprocAttr, dyV, ivV, aAu, aAr, Nat.add_sub_cancel, hlt, hle, ex, SpanR_t2, SpanR_t3, SpanR_t14, SpanR_t15, SpanR_t16, hc, htl] <;> rfl)), (by first | rfl | assumption | (simp (disch := omega) only [xq, simprocAttr, dyV, ivV, aAu, aAr, Nat.add_sub_cancel, hlt, hle, ex, SpanR_t2, SpanR_t3, SpanR_t14, SpanR_t15, SpanR_t16, hc, htl] <;> rfl)), (by first | rfl | assumption | (simp (disch := omega) only [xq, simprocAttr, dyV, ivV, aAu, aAr, Nat.add_sub_cancel, hlt, hle, ex, SpanR_t2, SpanR_t3, SpanR_t14, SpanR_t15, SpanR_t16, hc, htl] <;> rfl)), (by first | rfl | assumption | (simp (disch := omega) only [xq, simprocAttr, dyV, ivV, aAu, aAr, Nat.add_sub_cancel, hlt, hle, ex, SpanR_t2, SpanR_t3, SpanR_t14, SpanR_t15, SpanR_t16, hc, htl] <;> rfl)), (by first | rfl | assumption | (simp (disch := omega) only [xq, simprocAttr, dyV, ivV, aAu, aAr, Nat.add_sub_cancel, hlt, hle, ex, SpanR_t2, SpanR_t3, SpanR_t14, SpanR_t15, SpanR_t16, hc, htl] <;> rfl)), (by omega), (by rw [aDc x r i d hd, <- hv]; simp only [e2, e3]), rfl⟩⟩
  ·try simp only [xn] at c2
   have e2 : minD L d = L := if_neg (by omega)
   refine aAk ?_
   simp only [aAm, aAg, reduceIte, Nat.reduceEqDiff]
   refine g9 _ ?_
   refine aAa fun K12 g12 => ?_
   refine aAb fun os => ?_
   try simp (disch := omega) only [xq, simprocAttr, dyV, ivV, aAu, aAr, Nat.add_sub_cancel, hlt, hle, ex, SpanR_t2, SpanR_t3, SpanR_t14, SpanR_t15, SpanR_t16, hc, htl]
   refine cxo (aFz _ _ (by omega)) ?_
   try simp (disch := omega) only [xq, simprocAttr, dyV, ivV, aAu, aAr, Nat.add_sub_cancel, hlt, hle, ex, SpanR_t2, SpanR_t3, SpanR_t14, SpanR_t15, SpanR_t16, hc, htl]
   refine g12 _ ?_
   refine aAf (by first | rfl | assumption) (fun c4 => ?_) (fun c4 => ?_)
   ·try simp only [xn] at c4
    have e3 : maxD H d = d := if_pos c4
    refine aAb fun os => ?_
    try simp (disch := omega) only [xq, simprocAttr, dyV, ivV, aAu, aAr, Nat.add_sub_cancel, hlt, hle, ex, SpanR_t2, SpanR_t3, SpanR_t14, SpanR_t15, SpanR_t16, hc, htl]
    refine g7 _ ?_
    refine aAb fun os => ?_
    try simp (disch := omega) only [xq, simprocAttr, dyV, ivV, aAu, aAr, Nat.add_sub_cancel, hlt, hle, ex, SpanR_t2, SpanR_t3, SpanR_t14, SpanR_t15, SpanR_t16, hc, htl]
    exact ⟨_, (by omega), ⟨_, _, (i + 1), _, _, rfl, (by first | rfl | assumption | (simp (disch := omega) only [xq, simprocAttr, dyV, ivV, aAu, aAr, Nat.add_sub_cancel, hlt, hle, ex, SpanR_t2, SpanR_t3, SpanR_t14, SpanR_t15, SpanR_t16, hc, htl] <;> rfl)), (by first | rfl | assumption | (simp (disch := omega) only [xq, simprocAttr, dyV, ivV, aAu, aAr, Nat.add_sub_cancel, hlt, hle, ex, SpanR_t2, SpanR_t3, SpanR_t14, SpanR_t15, SpanR_t16, hc, htl] <;> rfl)), (by first | rfl | assumption | (simp (disch := omega) only [xq, simprocAttr, dyV, ivV, aAu, aAr, Nat.add_sub_cancel, hlt, hle, ex, SpanR_t2, SpanR_t3, SpanR_t14, SpanR_t15, SpanR_t16, hc, htl] <;> rfl)), (by first | rfl | assumption | (simp (disch := omega) only [xq, simprocAttr, dyV, ivV, aAu, aAr, Nat.add_sub_cancel, hlt, hle, ex, SpanR_t2, SpanR_t3, SpanR_t14, SpanR_t15, SpanR_t16, hc, htl] <;> rfl)), (by first | rfl | assumption | (simp (disch := omega) only [xq, simprocAttr, dyV, ivV, aAu, aAr, Nat.add_sub_cancel, hlt, hle, ex, SpanR_t2, SpanR_t3, SpanR_t14, SpanR_t15, SpanR_t16, hc, htl] <;> rfl)), (by omega), (by rw [aDc x r i d hd, <- hv]; simp only [e2, e3]), rfl⟩⟩
   ·try simp only [xn] at c4
    have e3 : maxD H d = H := if_neg (by omega)
    refine aAk ?_
    simp only [aAm, aAg, reduceIte, Nat.reduceEqDiff]
    refine g7 _ ?_
    refine aAb fun os => ?_
    try simp (disch := omega) only [xq, simprocAttr, dyV, ivV, aAu, aAr, Nat.add_sub_cancel, hlt, hle, ex, SpanR_t2, SpanR_t3, SpanR_t14, SpanR_t15, SpanR_t16, hc, htl]
    exact ⟨_, (by omega), ⟨_, _, (i + 1), _, _, rfl, (by first | rfl | assumption | (simp (disch := omega) only [xq, simprocAttr, dyV, ivV, aAu, aAr, Nat.add_sub_cancel, hlt, hle, ex, SpanR_t2, SpanR_t3, SpanR_t14, SpanR_t15, SpanR_t16, hc, htl] <;> rfl)), (by first | rfl | assumption | (simp (disch := omega) only [xq, simprocAttr, dyV, ivV, aAu, aAr, Nat.add_sub_cancel, hlt, hle, ex, SpanR_t2, SpanR_t3, SpanR_t14, SpanR_t15, SpanR_t16, hc, htl] <;> rfl)), (by first | rfl | assumption | (simp (disch := omega) only [xq, simprocAttr, dyV, ivV, aAu, aAr, Nat.add_sub_cancel, hlt, hle, ex, SpanR_t2, SpanR_t3, SpanR_t14, SpanR_t15, SpanR_t16, hc, htl] <;> rfl)), (by first | rfl | assumption | (simp (disch := omega) only [xq, simprocAttr, dyV, ivV, aAu, aAr, Nat.add_sub_cancel, hlt, hle, ex, SpanR_t2, SpanR_t3, SpanR_t14, SpanR_t15, SpanR_t16, hc, htl] <;> rfl)), (by first | rfl | assumption | (simp (disch := omega) only [xq, simprocAttr, dyV, ivV, aAu, aAr, Nat.add_sub_cancel, hlt, hle, ex, SpanR_t2, SpanR_t3, SpanR_t14, SpanR_t15, SpanR_t16, hc, htl] <;> rfl)), (by omega), (by rw [aDc x r i d hd, <- hv]; simp only [e2, e3]), rfl⟩⟩
 ·try simp only [xn] at c1
  refine aDh ?_
  simp only [aAm, aAg, reduceIte, Nat.reduceEqDiff]
  refine g3 _ ?_
  refine aAa fun K13 g13 => ?_
  refine aAb fun os => ?_
  try simp (disch := omega) only [xq, simprocAttr, dyV, ivV, aAu, aAr, Nat.add_sub_cancel, hlt, hle, ex, SpanR_t2, SpanR_t3, SpanR_t14, SpanR_t15, SpanR_t16]
  refine g13 _ ?_
  refine aAe ?_
  simp only [endX, resX, resV, Tryz.results133]
  try simp (disch := omega) only [xq, simprocAttr, dyV, ivV, aAu, aAr, Nat.add_sub_cancel, hlt, hle, ex, SpanR_t2, SpanR_t3, SpanR_t14, SpanR_t15, SpanR_t16]
  rw [List.take_of_length_le (by omega)] at hv
  rw [<- hv]
end
section
set_option maxRecDepth 10000
set_option maxHeartbeats 4000000
open Go.RowKit
theorem aQ6 {x d : D} {B E : Nat} (h1 : bl x.m <= B /\ ae x <= E) (h2 : bl d.m <= B /\ ae d <= E) : bl (minD x d).m <= B /\ ae (minD x d) <= E := by rcases aNg x d with h | h <;> rw [h] <;> assumption
theorem aQ9 {x d : D} {B E : Nat} (h1 : bl x.m <= B /\ ae x <= E) (h2 : bl d.m <= B /\ ae d <= E) : bl (maxD x d).m <= B /\ ae (maxD x d) <= E := by rcases aNj x d with h | h <;> rw [h] <;> assumption
theorem aHl {a b c d : D} {B E : Nat} (h1 : bl a.m <= B /\ ae a <= E) (h2 : bl b.m <= B /\ ae b <= E) (h3 : bl c.m <= B /\ ae c <= E) (h4 : bl d.m <= B /\ ae d <= E) : (bl (lo4 a b c d).m <= B /\ ae (lo4 a b c d) <= E) /\ (bl (hi4 a b c d).m <= B /\ ae (hi4 a b c d) <= E) :=
 ⟨aQ6 (aQ6 (aQ6 h1 h2) h3) h4, aQ9 (aQ9 (aQ9 h1 h2) h3) h4⟩
theorem mk_b {a b : D} {B E : Nat} (h1 : bl a.m <= B /\ ae a <= E) (h2 : bl b.m <= B /\ ae b <= E) : ib ⟨a, b⟩ <= B /\ ie ⟨a, b⟩ <= E := ⟨Nat.max_le.2 ⟨h1.1, h2.1⟩, Nat.max_le.2 ⟨h1.2, h2.2⟩⟩
theorem ds4 {a b c d : D} (ha : bl a.m <= 200000000000 /\ ae a <= 1000000000000000) (hb : bl b.m <= 200000000000 /\ ae b <= 1000000000000000) (hc : bl c.m <= 200000000000 /\ ae c <= 1000000000000000) (hd : bl d.m <= 200000000000 /\ ae d <= 1000000000000000) : DsOk [a, b, c, d] := by
 intro x hx
 simp only [List.mem_cons, List.not_mem_nil, or_false] at hx
 rcases hx with rfl | rfl | rfl | rfl <;> assumption
theorem aQu (a b c d : D) (h : DsOk [a, b, c, d]) : AC Tryz.prog TabW 133 [.arr 4 [.lit (.bool a.neg), .num a.m, .lit (.int .i64 a.e), .lit (.bool b.neg), .num b.m, .lit (.int .i64 b.e), .lit (.bool c.neg), .num c.m, .lit (.int .i64 c.e), .lit (.bool d.neg), .num d.m, .lit (.int .i64 d.e)]] (ivV ⟨lo4 a b c d, hi4 a b c d⟩) := aSZ a [b, c, d] (by simp) h
theorem aFx (a b : Iv) (p : Int) (h : ib a + ib b <= 200000000000 /\ ie a + ie b <= 900000000000000 /\ -1000000000000 <= p /\ p <= 1000000000000) : AC Tryz.prog TabW 100 [ivV a, ivV b, .lit (.int .i64 p)] (ivV (aAF a b p)) /\ (((ib (aAF a b p) : Nat) : Int) <= max p 0 + 1 /\ ie (aAF a b p) <= ie a + ie b + 4 * ib a + 4 * ib b + p.natAbs + 1) := by
 have hz := aGT a b p
 refine ⟨?_, hz⟩
 clear hz
 have ha := aBe a
 have hb := aBe b
 have hr : aAF a b p = aAD ⟨lo4 (mulD a.lo b.lo) (mulD a.lo b.hi) (mulD a.hi b.lo) (mulD a.hi b.hi), hi4 (mulD a.lo b.lo) (mulD a.lo b.hi) (mulD a.hi b.lo) (mulD a.hi b.hi)⟩ p := rfl
 have m1 := aEK a.lo b.lo
 have m2 := aEK a.lo b.hi
 have m3 := aEK a.hi b.lo
 have m4 := aEK a.hi b.hi
 have hB : 0 <= ib a + ib b /\ 0 <= ie a + ie b := ⟨Nat.zero_le _, Nat.zero_le _⟩
 have g0 := aHl (B := ib a + ib b) (E := ie a + ie b + ib a + ib b) (a := mulD a.lo b.lo) (b := mulD a.lo b.hi) (c := mulD a.hi b.lo) (d := mulD a.hi b.hi) (by omega) (by omega) (by omega) (by omega)
 have g3 := mk_b g0.1 g0.2
 have c1 := (aKK a.lo b.lo (by omega)).1
 have c2 := (aKK a.lo b.hi (by omega)).1
 have c3 := (aKK a.hi b.lo (by omega)).1
 have c4 := (aKK a.hi b.hi (by omega)).1
 have c5 := aQu (mulD a.lo b.lo) (mulD a.lo b.hi) (mulD a.hi b.lo) (mulD a.hi b.hi) (ds4 (by omega) (by omega) (by omega) (by omega))
 have c6 := (aDm ⟨lo4 (mulD a.lo b.lo) (mulD a.lo b.hi) (mulD a.hi b.lo) (mulD a.hi b.hi), hi4 (mulD a.lo b.lo) (mulD a.lo b.hi) (mulD a.hi b.lo) (mulD a.hi b.hi)⟩ p (by clear m1 m2 m3 m4 g0; omega)).1
 rw [hr]
 clear hr m1 m2 m3 m4 g0 g3 hB
 refine aAd Tryz.func100 rfl (by kernel_rfl) aAc Tryz.mixed rfl rfl (by kernel_rfl) ?_
 simp only [aAl, Tryz.ntmps100, dyV, ivV]
 refine aAa fun K1 g1 => ?_
 refine aAb fun os => ?_
 try simp (disch := omega) only [xq, simprocAttr, dyV, ivV]
 refine g1 _ ?_
 refine aAa fun K2 g2 => ?_
 refine aAB (by kernel_rfl) fun os => ?_
 try simp (disch := omega) only [xq, simprocAttr, dyV, ivV]
 refine cxd (c1) ?_
 try simp (disch := omega) only [xq, simprocAttr, dyV, ivV]
 refine cxd (c2) ?_
 try simp (disch := omega) only [xq, simprocAttr, dyV, ivV]
 refine cxd (c3) ?_
 try simp (disch := omega) only [xq, simprocAttr, dyV, ivV]
 refine cxd (c4) ?_
 try simp (disch := omega) only [xq, simprocAttr, dyV, ivV]
 refine cxd (c5) ?_
 try simp (disch := omega) only [xq, simprocAttr, dyV, ivV]
 refine cxd (c6) ?_
 try simp (disch := omega) only [xq, simprocAttr, dyV, ivV]
 refine g2 _ ?_
 refine aAe ?_
 simp only [endX, resX, resV, Tryz.results100]
 try simp (disch := omega) only [xq, simprocAttr, dyV, ivV]
 first | done | rfl
theorem aKL (a b : Iv) (p : Int) (hl : b.lo.m ≠ 0) (hh : b.hi.m ≠ 0) (h : ib a + ib b <= 10000000000 /\ ie a + ie b <= 90000000000000 /\ 0 <= p /\ p <= 100000000000) : AC Tryz.prog TabW 124 [ivV a, ivV b, .lit (.int .i64 p)] (ivV (divI a b p)) /\ (((ib (divI a b p) : Nat) : Int) <= max p 0 + 1 /\ ie (divI a b p) <= ie a + ie b + 12 * ib a + 12 * ib b + 6 * p.natAbs + 30) := by
 have ha := aBe a
 have hb := aBe b
 have hr : divI a b p = ⟨lo4 (aCe a.lo b.lo p false) (aCe a.lo b.hi p false) (aCe a.hi b.lo p false) (aCe a.hi b.hi p false), hi4 (aCe a.lo b.lo p true) (aCe a.lo b.hi p true) (aCe a.hi b.lo p true) (aCe a.hi b.hi p true)⟩ := rfl
 have d1 := aEA a.lo b.lo p false hl (by omega)
 have d2 := aEA a.lo b.hi p false hh (by omega)
 have d3 := aEA a.hi b.lo p false hl (by omega)
 have d4 := aEA a.hi b.hi p false hh (by omega)
 have d5 := aQu (aCe a.lo b.lo p false) (aCe a.lo b.hi p false) (aCe a.hi b.lo p false) (aCe a.hi b.hi p false) (ds4 (by omega) (by omega) (by omega) (by omega))
 have u1 := aEA a.lo b.lo p true hl (by omega)
 have u2 := aEA a.lo b.hi p true hh (by omega)
 have u3 := aEA a.hi b.lo p true hl (by omega)
 have u4 := aEA a.hi b.hi p true hh (by omega)
 have u5 := aQu (aCe a.lo b.lo p true) (aCe a.lo b.hi p true) (aCe a.hi b.lo p true) (aCe a.hi b.hi p true) (ds4 (by omega) (by omega) (by omega) (by omega))
 have hz : ((ib (divI a b p) : Nat) : Int) <= max p 0 + 1 /\ ie (divI a b p) <= ie a + ie b + 12 * ib a + 12 * ib b + 6 * p.natAbs + 30 := by
   rw [hr]
   have e : max p 0 = p := by omega
   rw [e]
   have e1 : p + 1 = ((p.toNat + 1 : Nat) : Int) := by omega
   rw [e] at d1 d2 d3 d4 u1 u2 u3 u4
   have g1 := (aHl (a := aCe a.lo b.lo p false) (b := aCe a.lo b.hi p false) (c := aCe a.hi b.lo p false) (d := aCe a.hi b.hi p false) (B := p.toNat + 1) (E := ie a + ie b + 12 * ib a + 12 * ib b + 6 * p.natAbs + 30) ⟨by have := d1.2.1; omega, by have := d1.2.2; omega⟩ ⟨by have := d2.2.1; omega, by have := d2.2.2; omega⟩ ⟨by have := d3.2.1; omega, by have := d3.2.2; omega⟩ ⟨by have := d4.2.1; omega, by have := d4.2.2; omega⟩).1
   have g2 := (aHl (a := aCe a.lo b.lo p true) (b := aCe a.lo b.hi p true) (c := aCe a.hi b.lo p true) (d := aCe a.hi b.hi p true) (B := p.toNat + 1) (E := ie a + ie b + 12 * ib a + 12 * ib b + 6 * p.natAbs + 30) ⟨by have := u1.2.1; omega, by have := u1.2.2; omega⟩ ⟨by have := u2.2.1; omega, by have := u2.2.2; omega⟩ ⟨by have := u3.2.1; omega, by have := u3.2.2; omega⟩ ⟨by have := u4.2.1; omega, by have := u4.2.2; omega⟩).2
   have g3 := mk_b g1 g2
   refine ⟨?_, g3.2⟩
   rw [e1]
   exact Int.ofNat_le.2 g3.1
 refine ⟨?_, hz⟩
 clear hz
 rw [hr]
 clear hr
 replace d1 := d1.1
 replace d2 := d2.1
 replace d3 := d3.1
 replace d4 := d4.1
 replace u1 := u1.1
 replace u2 := u2.1
 replace u3 := u3.1
 replace u4 := u4.1
 generalize aCe a.lo b.lo p false = D0 at *
 generalize aCe a.lo b.hi p false = D1 at *
 generalize aCe a.hi b.lo p false = D2 at *
 generalize aCe a.hi b.hi p false = D3 at *
 generalize aCe a.lo b.lo p true = U0 at *
 generalize aCe a.lo b.hi p true = U1 at *
 generalize aCe a.hi b.lo p true = U2 at *
 generalize aCe a.hi b.hi p true = U3 at *
 refine aAd Tryz.func124 rfl (by kernel_rfl) aAc Tryz.mixed rfl rfl (by kernel_rfl) ?_
 simp only [aAl, Tryz.ntmps124, dyV, ivV]
 repeat' first
  | refine aAa fun K g => ?_
  | refine goK (by assumption) ?_
  | (refine aAe ?_; try simp only [aAm, aAg, reduceIte, Nat.reduceEqDiff])
  | ((first
  | refine aAU rfl fun os => ?_
  | refine aCR rfl (by kernel_rfl) fun os => ?_
  | refine cxd (d1) ?_
  | refine cxd (d2) ?_
  | refine cxd (d3) ?_
  | refine cxd (d4) ?_
  | refine cxd (d5) ?_
  | refine cxd (u1) ?_
  | refine cxd (u2) ?_
  | refine cxd (u3) ?_
  | refine cxd (u4) ?_
  | refine cxd (u5) ?_
  | simp only [endX, resX, resV, Tryz.results124]) <;> try (simp (disch := omega) only [xq, simprocAttr, dyV, ivV]))
  | (first | done | rfl
     done)
theorem aFy (v : Iv) (h : ib v <= 200000000000 /\ ie v <= 1000000000000000) : AC Tryz.prog TabW 98 [ivV v] (.lit (.bool (aBb v))) := by
 have hv := aBe v
 have hc := aFz v.lo v.hi (by omega)
 have f1 := aE9 v.lo
 have f2 := aE9 v.hi
 refine aAd Tryz.func98 rfl (by kernel_rfl) aAc Tryz.mixed rfl rfl (by kernel_rfl) ?_
 simp only [aAl, Tryz.ntmps98, dyV, ivV]
 repeat' first
  | refine aAa fun K g => ?_
  | refine goK (by assumption) ?_
  | (refine aAe ?_; try simp only [aAm, aAg, reduceIte, Nat.reduceEqDiff])
  | ((first
  | refine aAU rfl fun os => ?_
  | refine aB7 ?_
  | refine cxo (f1) ?_
  | refine cxo (f2) ?_
  | refine cxo (hc) ?_
  | simp only [endX, resX, resV, Tryz.results98]) <;> try (simp (disch := omega) only [xq, simprocAttr, dyV, ivV]))
  | (refine gx (fun c => ?_) (fun c => ?_) <;> first | exact absurd c (by decide) | ((try rw [c]); (try simp only [xn] at c); try (simp (disch := omega) only [xq, simprocAttr, dyV, ivV])))
  | (first | done | simp [aBb, *]
     done)
end
section
set_option maxRecDepth 10000
open Go.RowKit
def fxV (x : Fx) : AV := .agg [.num x.a, .lit (.int .u64 ((x.e : Nat) : Int))]
theorem addE (a b : Nat) : IntKind.u64.wrap (((a : Nat) : Int) + ((b : Nat) : Int)) = (((a + b) % W64 : Nat) : Int) := by rw [aCn]; unfold W64; omega
theorem mulE (a b : Nat) : IntKind.u64.wrap (((a : Nat) : Int) * ((b : Nat) : Int)) = (((a * b) % W64 : Nat) : Int) := by
 rw [aCn, <- Int.natCast_mul]
 unfold W64
 omega
theorem aAh (a d : Nat) : IntKind.u64.wrap (IntKind.u64.wrap (((a : Nat) : Int).tdiv ((d : Nat) : Int)) + 2) = (((a / d + 2) % W64 : Nat) : Int) := by
 rw [aCn, aCn, show ((a : Nat) : Int).tdiv ((d : Nat) : Int) = ((a / d : Nat) : Int) from rfl]
 unfold W64
 omega
theorem e_lt (n : Nat) : n % W64 < 18446744073709551616 := Nat.mod_lt _ (by decide)
theorem aRo (a : Nat) (d : Nat) (ha : Sm a) (h0 : 0 < d) (h1 : d < 18446744073709551616) : AC Tryz.prog TabW 182 [.num a, .lit (.int .u64 ((d : Nat) : Int))] (.tup [.num (a / d), .lit (.int .u64 ((a % d : Nat) : Int))]) := by
 refine ⟨by kernel_rfl, fun S β w vs hI hS h => ?_⟩
 simp only [RepL, Rep] at h
 obtain ⟨va, _, rfl, h2, _, _, rfl, rfl, rfl⟩ := h
 have := aML 0 va _ d w h2.1 (aGl ha) h0 h1
 rw [aAi] at this
 refine this.mono fun e w' h => ?_
 obtain ⟨v, h3, h4, h5⟩ := h
 refine ⟨_, h3, ?_, h5⟩
 have hr := aFE (β := β) hS h4
 simp only [Rep, RepL] at hr ⊢
 exact ⟨[_, _], rfl, _, _, rfl, hr, _, _, rfl, rfl, rfl⟩
theorem aRA (q : Nat) (h : q <= 100000000000) : AC Tryz.prog TabW 155 [.lit (.int .i64 ((q : Nat) : Int))] (fxV (oneF q)) /\ (bl (oneF q).a <= q + 1 /\ (oneF q).e < 18446744073709551616) := by
 have h1 := aD2 1 q
 have h2 : bl 1 = 1 := by decide
 refine ⟨?_, ⟨by show bl (2 ^ q) <= _; rw [Nat.one_mul] at h1; omega, by show 0 < _; decide⟩⟩
 refine aAd Tryz.func155 rfl (by kernel_rfl) aAc Tryz.mixed rfl rfl (by kernel_rfl) ?_
 simp only [aAl, Tryz.ntmps155, dyV, ivV, fxV]
 refine aAa fun K1 g1 => ?_
 refine aAb fun os => ?_
 try simp (disch := omega) only [xq, simprocAttr, dyV, ivV, fxV, oneF, Nat.one_mul]
 refine g1 _ ?_
 refine aAa fun K2 g2 => ?_
 refine aAb fun os => ?_
 try simp (disch := omega) only [xq, simprocAttr, dyV, ivV, fxV, oneF, Nat.one_mul]
 refine cxo (aHS _ (by omega) (by omega)) ?_
 try simp (disch := omega) only [xq, simprocAttr, dyV, ivV, fxV, oneF, Nat.one_mul]
 refine cxo (aHx _ _ (aCM (by omega)) (by omega) (by omega)) ?_
 try simp (disch := omega) only [xq, simprocAttr, dyV, ivV, fxV, oneF, Nat.one_mul]
 refine g2 _ ?_
 refine aAe ?_
 simp only [endX, resX, resV, Tryz.results155]
 try simp (disch := omega) only [xq, simprocAttr, dyV, ivV, fxV, oneF, Nat.one_mul]
 first | done | rfl
theorem aIm (x : Fx) (h : bl x.a <= 900000000000 /\ x.e < 18446744073709551616) : AC Tryz.prog TabW 181 [fxV x] (.num (x.a + x.e)) /\ (bl (x.a + x.e) <= max (bl x.a) 64 + 1) := by
 have h1 := aCr x.a x.e
 have h2 := aE0 x.e 64 (by omega)
 refine ⟨?_, by omega⟩
 refine aAd Tryz.func181 rfl (by kernel_rfl) aAc Tryz.mixed rfl rfl (by kernel_rfl) ?_
 simp only [aAl, Tryz.ntmps181, dyV, ivV, fxV]
 refine aAa fun K1 g1 => ?_
 refine aAb fun os => ?_
 try simp (disch := omega) only [xq, simprocAttr, dyV, ivV, fxV]
 refine g1 _ ?_
 refine aAa fun K2 g2 => ?_
 refine aAB (by kernel_rfl) fun os => ?_
 try simp (disch := omega) only [xq, simprocAttr, dyV, ivV, fxV]
 refine cxd (aHS _ (by omega) (by omega)) ?_
 try simp (disch := omega) only [xq, simprocAttr, dyV, ivV, fxV]
 refine cxd (aGB _ _ (aCM (by omega)) (aCM (by omega))) ?_
 try simp (disch := omega) only [xq, simprocAttr, dyV, ivV, fxV]
 refine g2 _ ?_
 refine aAe ?_
 simp only [endX, resX, resV, Tryz.results181]
 try simp (disch := omega) only [xq, simprocAttr, dyV, ivV, fxV]
 first | done | rfl
theorem aDJ (x y : Fx) (h : bl x.a <= 900000000000 /\ bl y.a <= 900000000000) : AC Tryz.prog TabW 159 [fxV x, fxV y] (fxV (addF x y)) /\ (bl (addF x y).a <= max (bl x.a) (bl y.a) + 1 /\ (addF x y).e < 18446744073709551616) := by
 refine ⟨?_, aCr x.a y.a, e_lt _⟩
 refine aAd Tryz.func159 rfl (by kernel_rfl) aAc Tryz.mixed rfl rfl (by kernel_rfl) ?_
 simp only [aAl, Tryz.ntmps159, dyV, ivV, fxV]
 refine aAa fun K1 g1 => ?_
 refine aAb fun os => ?_
 try simp (disch := omega) only [xq, simprocAttr, dyV, ivV, fxV, addE, mulE, aAh, addF]
 refine g1 _ ?_
 refine aAa fun K2 g2 => ?_
 refine aAB (by kernel_rfl) fun os => ?_
 try simp (disch := omega) only [xq, simprocAttr, dyV, ivV, fxV, addE, mulE, aAh, addF]
 refine cxd (aGB _ _ (aCM (by omega)) (aCM (by omega))) ?_
 try simp (disch := omega) only [xq, simprocAttr, dyV, ivV, fxV, addE, mulE, aAh, addF]
 refine g2 _ ?_
 refine aAe ?_
 simp only [endX, resX, resV, Tryz.results159]
 try simp (disch := omega) only [xq, simprocAttr, dyV, ivV, fxV, addE, mulE, aAh, addF]
 first | done | rfl
theorem aVO (x y : Fx) (h : bl x.a <= 900000000000 /\ bl y.a <= 900000000000 /\ y.e < 18446744073709551616) (hs : y.a + y.e <= x.a) : AC Tryz.prog TabW 197 [fxV x, fxV y] (fxV (subF x y)) /\ (bl (subF x y).a <= bl x.a /\ (subF x y).e < 18446744073709551616) := by
 refine ⟨?_, aFP _ _, e_lt _⟩
 refine aAd Tryz.func197 rfl (by kernel_rfl) aAc Tryz.mixed rfl rfl (by kernel_rfl) ?_
 simp only [aAl, Tryz.ntmps197, dyV, ivV, fxV]
 refine aAa fun K1 g1 => ?_
 refine aAb fun os => ?_
 try simp (disch := omega) only [xq, simprocAttr, dyV, ivV, fxV, addE, mulE, aAh, subF]
 refine g1 _ ?_
 refine aAa fun K2 g2 => ?_
 refine aAB (by kernel_rfl) fun os => ?_
 try simp (disch := omega) only [xq, simprocAttr, dyV, ivV, fxV, addE, mulE, aAh, subF]
 refine cxdz (aIm _ (by omega)) (fun z1 => ?_)
 try simp (disch := omega) only [xq, simprocAttr, dyV, ivV, fxV, addE, mulE, aAh, subF]
 refine cxd (aK6 _ _ (aCM (by omega)) (by omega)) ?_
 try simp (disch := omega) only [xq, simprocAttr, dyV, ivV, fxV, addE, mulE, aAh, subF]
 refine g2 _ ?_
 refine aAe ?_
 simp only [endX, resX, resV, Tryz.results197]
 try simp (disch := omega) only [xq, simprocAttr, dyV, ivV, fxV, addE, mulE, aAh, subF]
 first | done | rfl
theorem aG4 (x : Fx) (n : Nat) : AC Tryz.prog TabW 180 [fxV x, .lit (.int .u64 ((n : Nat) : Int))] (fxV (aBJ x n)) /\ (bl (aBJ x n).a = bl x.a /\ (aBJ x n).e < 18446744073709551616) := by
 refine ⟨?_, rfl, e_lt _⟩
 refine aAd Tryz.func180 rfl (by kernel_rfl) aAc Tryz.mixed rfl rfl (by kernel_rfl) ?_
 simp only [aAl, Tryz.ntmps180, dyV, ivV, fxV]
 refine aAa fun K1 g1 => ?_
 refine aAb fun os => ?_
 try simp (disch := omega) only [xq, simprocAttr, dyV, ivV, fxV, addE, mulE, aAh, aBJ]
 refine g1 _ ?_
 refine aAa fun K2 g2 => ?_
 refine aAb fun os => ?_
 try simp (disch := omega) only [xq, simprocAttr, dyV, ivV, fxV, addE, mulE, aAh, aBJ]
 refine g2 _ ?_
 refine aAe ?_
 simp only [endX, resX, resV, Tryz.results180]
 try simp (disch := omega) only [xq, simprocAttr, dyV, ivV, fxV, addE, mulE, aAh, aBJ]
 first | done | rfl
theorem aWX (n : Nat) (h : n ≠ 0) : gw (limbsOf n) 0 = n % W64 := by rw [aC7 h]; rfl
theorem aLh (a b : Nat) (h : bl b <= 900000000000) (hs : a <= b) : AC Tryz.prog TabW 178 [.num a, .num b] (fxV (aH7 a b)) /\ (bl (aH7 a b).a <= bl a /\ (aH7 a b).e < 18446744073709551616) := by
 refine ⟨?_, Nat.le_refl _, e_lt _⟩
 have hl := lenE (b - a)
 have hb : aH7 a b = ⟨a, (b - a) % W64⟩ := rfl
 rw [hb]
 refine aAd Tryz.func178 rfl (by kernel_rfl) aAc Tryz.mixed rfl rfl (by kernel_rfl) ?_
 simp only [aAl, Tryz.ntmps178, dyV, ivV, fxV]
 refine aAa fun K1 g1 => ?_
 refine aAb fun os => ?_
 try simp (disch := omega) only [xq, simprocAttr, dyV, ivV, fxV, hl]
 refine g1 _ ?_
 refine aAa fun K2 g2 => ?_
 refine aAb fun os => ?_
 try simp (disch := omega) only [xq, simprocAttr, dyV, ivV, fxV, hl]
 refine g2 _ ?_
 refine aAa fun K3 g3 => ?_
 refine aAa fun K4 g4 => ?_
 refine aAb fun os => ?_
 try simp (disch := omega) only [xq, simprocAttr, dyV, ivV, fxV, hl]
 refine cxo (aK6 _ _ (aCM (by omega)) (by omega)) ?_
 try simp (disch := omega) only [xq, simprocAttr, dyV, ivV, fxV, hl]
 refine g4 _ ?_
 refine aAa fun K5 g5 => ?_
 refine aAb fun os => ?_
 try simp (disch := omega) only [xq, simprocAttr, dyV, ivV, fxV, hl]
 refine g5 _ ?_
 refine aAf (by first | rfl | assumption) (fun c1 => ?_) (fun c1 => ?_)
 ·try simp only [xn] at c1
  have hn : b - a ≠ 0 := by simpa using c1
  have hg := aWX (b - a) hn
  have hp : (0 : Int) < (((limbsOf (b - a)).length : Nat) : Int) := by
    have := lenE (b - a)
    rw [show (b - a != 0) = true from by simpa using hn] at this
    exact of_decide_eq_true this
  have hz : (0 : Int) <= 0 := Int.le_refl 0
  refine aAb fun os => ?_
  try simp (disch := omega) only [xq, simprocAttr, dyV, ivV, fxV, hl, hg, hp]
  refine g3 _ ?_
  refine aAa fun K6 g6 => ?_
  refine aAb fun os => ?_
  try simp (disch := omega) only [xq, simprocAttr, dyV, ivV, fxV, hl, hg, hp]
  refine g6 _ ?_
  refine aAe ?_
  simp only [endX, resX, resV, Tryz.results178]
  try simp (disch := omega) only [xq, simprocAttr, dyV, ivV, fxV, hl, hg, hp]
  first | done | rfl
 ·try simp only [xn] at c1
  refine aAk ?_
  simp only [aAm, aAg, reduceIte, Nat.reduceEqDiff]
  refine g3 _ ?_
  refine aAa fun K7 g7 => ?_
  refine aAb fun os => ?_
  try simp (disch := omega) only [xq, simprocAttr, dyV, ivV, fxV, hl]
  refine g7 _ ?_
  refine aAe ?_
  simp only [endX, resX, resV, Tryz.results178]
  try simp (disch := omega) only [xq, simprocAttr, dyV, ivV, fxV, hl]
  have hn : b - a = 0 := by simpa using c1
  rw [hn]
  rfl
theorem aMm (d : D) (he : 0 <= d.e) (h : bl d.m <= 900000000000 /\ ae d <= 900000000000) : AC Tryz.prog TabW 179 [dyV d] (.num (aDa d)) /\ (bl (aDa d) <= bl d.m + ae d) := by
 have h1 := aD2 d.m d.e.toNat
 refine ⟨?_, by show bl (d.m * 2 ^ d.e.toNat) <= _; unfold ae; omega⟩
 have h2 : ae d = d.e.natAbs := rfl
 refine aAd Tryz.func179 rfl (by kernel_rfl) aAc Tryz.mixed rfl rfl (by kernel_rfl) ?_
 simp only [aAl, Tryz.ntmps179, dyV, ivV, fxV]
 refine aAa fun K1 g1 => ?_
 refine aAb fun os => ?_
 try simp (disch := omega) only [xq, simprocAttr, dyV, ivV, fxV, aDa]
 refine g1 _ ?_
 refine aAa fun K2 g2 => ?_
 refine aAb fun os => ?_
 try simp (disch := omega) only [xq, simprocAttr, dyV, ivV, fxV, aDa]
 refine cxo (aHx _ _ (aCM (by omega)) (by omega) (by omega)) ?_
 try simp (disch := omega) only [xq, simprocAttr, dyV, ivV, fxV, aDa]
 refine g2 _ ?_
 refine aAe ?_
 simp only [endX, resX, resV, Tryz.results179]
 try simp (disch := omega) only [xq, simprocAttr, dyV, ivV, fxV, aDa]
 first | done | rfl
end
section
set_option maxRecDepth 10000
open Go.RowKit
theorem aT4 {a b k : Nat} (h : a <= b) : a / k <= aFo b k := by
 unfold aFo
 have := Nat.div_le_div_right (c := k) h
 split <;> omega
theorem aR4 (v q : Nat) : aFo v (2 ^ q) = v / 2 ^ q + (if aEL v q then 1 else 0) := by
 unfold aFo aEL
 by_cases h : v % 2 ^ q = 0
 · rw [if_pos h, h]; rfl
 · rw [if_neg h]
   simp [h]
theorem aLd (x y : Fx) (q : Nat) (h : bl x.a + bl y.a <= 400000000000 /\ x.e < 18446744073709551616 /\ y.e < 18446744073709551616 /\ q <= 100000000000) : AC Tryz.prog TabW 157 [fxV x, fxV y, .lit (.int .i64 ((q : Nat) : Int))] (fxV (mulF x y q)) /\ (bl (mulF x y q).a <= bl x.a + bl y.a - q /\ (mulF x y q).e < 18446744073709551616) := by
 have b1 := aHY x.a y.a
 have b2 := aHX (x.a * y.a) q
 have b3 := aCr x.a x.e
 have b4 := aCr y.a y.e
 have b5 := aHY (x.a + x.e) (y.a + y.e)
 have b6 := aHX ((x.a + x.e) * (y.a + y.e)) q
 have b7 := aE0 x.e 64 (by omega)
 have b8 := aE0 y.e 64 (by omega)
 have b9 := aCr ((x.a + x.e) * (y.a + y.e) / 2 ^ q) 1
 have b10 : bl 1 = 1 := by decide
 have hle : x.a * y.a / 2 ^ q <= aFo ((x.a + x.e) * (y.a + y.e)) (2 ^ q) := aT4 (Nat.mul_le_mul (Nat.le_add_right _ _) (Nat.le_add_right _ _))
 refine ⟨?_, by show bl (x.a * y.a / 2 ^ q) <= _; omega, e_lt _⟩
 have hr : mulF x y q = aH7 (x.a * y.a / 2 ^ q) (aFo ((x.a + x.e) * (y.a + y.e)) (2 ^ q)) := rfl
 rw [hr]
 rw [aR4] at hle ⊢
 refine aAd Tryz.func157 rfl (by kernel_rfl) aAc Tryz.mixed rfl rfl (by kernel_rfl) ?_
 simp only [aAl, Tryz.ntmps157, dyV, ivV, fxV]
 refine aAa fun K1 g1 => ?_
 refine aAb fun os => ?_
 try simp (disch := omega) only [xq, simprocAttr, dyV, ivV, fxV]
 refine g1 _ ?_
 refine aAa fun K2 g2 => ?_
 refine aAb fun os => ?_
 try simp (disch := omega) only [xq, simprocAttr, dyV, ivV, fxV]
 refine cxo (aK8 _ _ (aCM (by omega)) (aCM (by omega))) ?_
 try simp (disch := omega) only [xq, simprocAttr, dyV, ivV, fxV]
 refine cxo (aK7 _ _ (aCM (by omega)) (by omega) (by omega)) ?_
 try simp (disch := omega) only [xq, simprocAttr, dyV, ivV, fxV]
 refine g2 _ ?_
 refine aAa fun K3 g3 => ?_
 refine aAB (by kernel_rfl) fun os => ?_
 try simp (disch := omega) only [xq, simprocAttr, dyV, ivV, fxV]
 refine cxdz (aIm _ (by omega)) (fun z1 => ?_)
 try simp (disch := omega) only [xq, simprocAttr, dyV, ivV, fxV]
 refine cxdz (aIm _ (by omega)) (fun z2 => ?_)
 try simp (disch := omega) only [xq, simprocAttr, dyV, ivV, fxV]
 refine cxd (aK8 _ _ (aCM (by omega)) (aCM (by omega))) ?_
 try simp (disch := omega) only [xq, simprocAttr, dyV, ivV, fxV]
 refine cxd (aK7 _ _ (aCM (by omega)) (by omega) (by omega)) ?_
 try simp (disch := omega) only [xq, simprocAttr, dyV, ivV, fxV]
 refine g3 _ ?_
 refine aAa fun K4 g4 => ?_
 refine aAa fun K5 g5 => ?_
 refine aAb fun os => ?_
 try simp (disch := omega) only [xq, simprocAttr, dyV, ivV, fxV]
 refine g5 _ ?_
 refine aAf (by first | rfl | assumption) (fun c1 => ?_) (fun c1 => ?_)
 ·try simp only [xn] at c1
  rw [if_pos c1] at hle
  refine aAb fun os => ?_
  try simp (disch := omega) only [xq, simprocAttr, dyV, ivV, fxV]
  refine cxo (aHS _ (by omega) (by omega)) ?_
  try simp (disch := omega) only [xq, simprocAttr, dyV, ivV, fxV]
  refine cxo (aGB _ _ (aCM (by omega)) (aCM (by omega))) ?_
  try simp (disch := omega) only [xq, simprocAttr, dyV, ivV, fxV]
  refine g4 _ ?_
  refine aAa fun K6 g6 => ?_
  refine aAb fun os => ?_
  try simp (disch := omega) only [xq, simprocAttr, dyV, ivV, fxV]
  refine cxoz (aLh _ _ (by omega) (by omega)) (fun z3 => ?_)
  try simp (disch := omega) only [xq, simprocAttr, dyV, ivV, fxV]
  refine g6 _ ?_
  refine aAe ?_
  simp only [endX, resX, resV, Tryz.results157]
  try simp (disch := omega) only [xq, simprocAttr, dyV, ivV, fxV]
  rw [if_pos c1]
 ·try simp only [xn] at c1
  rw [if_neg (by rw [c1]; decide), Nat.add_zero] at hle
  refine aAk ?_
  simp only [aAm, aAg, reduceIte, Nat.reduceEqDiff]
  refine g4 _ ?_
  refine aAa fun K7 g7 => ?_
  refine aAb fun os => ?_
  try simp (disch := omega) only [xq, simprocAttr, dyV, ivV, fxV]
  refine cxoz (aLh _ _ (by omega) (by omega)) (fun z4 => ?_)
  try simp (disch := omega) only [xq, simprocAttr, dyV, ivV, fxV]
  refine g7 _ ?_
  refine aAe ?_
  simp only [endX, resX, resV, Tryz.results157]
  try simp (disch := omega) only [xq, simprocAttr, dyV, ivV, fxV]
  rw [if_neg (by rw [c1]; decide), Nat.add_zero]
theorem aCm (x : Fx) (d : Nat) (h : bl x.a <= 900000000000) (hd : 0 < d /\ d < 18446744073709551616) : AC Tryz.prog TabW 158 [fxV x, .lit (.int .u64 ((d : Nat) : Int))] (fxV (aBx x d)) /\ (bl (aBx x d).a <= bl x.a /\ (aBx x d).e < 18446744073709551616) := by
 refine ⟨?_, aJq _ _, e_lt _⟩
 have hd0 : ¬ ((d : Nat) : Int) = 0 := by omega
 refine aAd Tryz.func158 rfl (by kernel_rfl) aAc Tryz.mixed rfl rfl (by kernel_rfl) ?_
 simp only [aAl, Tryz.ntmps158, dyV, ivV, fxV]
 refine aAa fun K1 g1 => ?_
 refine aAb fun os => ?_
 try simp (disch := omega) only [xq, simprocAttr, dyV, ivV, fxV, addE, mulE, aAh, aBx, hd0]
 refine g1 _ ?_
 refine aAa fun K2 g2 => ?_
 refine aAb fun os => ?_
 try simp (disch := omega) only [xq, simprocAttr, dyV, ivV, fxV, addE, mulE, aAh, aBx, hd0]
 refine cxo (aRo _ _ (aCM (by omega)) (by omega) (by omega)) ?_
 try simp (disch := omega) only [xq, simprocAttr, dyV, ivV, fxV, addE, mulE, aAh, aBx, hd0]
 refine g2 _ ?_
 refine aAa fun K3 g3 => ?_
 refine aAb fun os => ?_
 try simp (disch := omega) only [xq, simprocAttr, dyV, ivV, fxV, addE, mulE, aAh, aBx, hd0]
 refine g3 _ ?_
 refine aAe ?_
 simp only [endX, resX, resV, Tryz.results158]
 try simp (disch := omega) only [xq, simprocAttr, dyV, ivV, fxV, addE, mulE, aAh, aBx, hd0]
 first | done | rfl
theorem aIl (x : Fx) (q : Nat) (h : x.e < 18446744073709551616) : ib (aBt x q) <= max (bl x.a) 64 + 1 /\ ie (aBt x q) <= q + max (bl x.a) 64 + 1 := by
 have b3 := aCr x.a x.e
 have b7 := aE0 x.e 64 (by omega)
 have f1 := aBp false x.a (-(q : Int))
 have f2 := aBp false (x.a + x.e) (-(q : Int))
 have hm := aQ4 (aAL false x.a (-(q : Int))) (aAL false (x.a + x.e) (-(q : Int)))
 have hi : aBt x q = ⟨aAL false x.a (-(q : Int)), aAL false (x.a + x.e) (-(q : Int))⟩ := rfl
 rw [hi, hm.1, hm.2]
 omega
theorem aLe (x : Fx) (q : Nat) (h : bl x.a <= 800000000000 /\ x.e < 18446744073709551616 /\ q <= 100000000000) : AC Tryz.prog TabW 160 [fxV x, .lit (.int .i64 ((q : Nat) : Int))] (ivV (aBt x q)) /\ (ib (aBt x q) <= max (bl x.a) 64 + 1 /\ ie (aBt x q) <= q + max (bl x.a) 64 + 1) := by
 refine ⟨?_, aIl x q h.2.1⟩
 refine aAd Tryz.func160 rfl (by kernel_rfl) aAc Tryz.mixed rfl rfl (by kernel_rfl) ?_
 simp only [aAl, Tryz.ntmps160, dyV, ivV, fxV]
 refine aAa fun K1 g1 => ?_
 refine aAb fun os => ?_
 try simp (disch := omega) only [xq, simprocAttr, dyV, ivV, fxV, aBt, Int.zero_sub]
 refine g1 _ ?_
 refine aAa fun K2 g2 => ?_
 refine aAB (by kernel_rfl) fun os => ?_
 try simp (disch := omega) only [xq, simprocAttr, dyV, ivV, fxV, aBt, Int.zero_sub]
 refine cxdz (aEB _ _ _ (by omega)) (fun z1 => ?_)
 try simp (disch := omega) only [xq, simprocAttr, dyV, ivV, fxV, aBt, Int.zero_sub]
 refine cxdz (aIm _ (by omega)) (fun z2 => ?_)
 try simp (disch := omega) only [xq, simprocAttr, dyV, ivV, fxV, aBt, Int.zero_sub]
 refine cxdz (aEB _ _ _ (by omega)) (fun z3 => ?_)
 try simp (disch := omega) only [xq, simprocAttr, dyV, ivV, fxV, aBt, Int.zero_sub]
 refine g2 _ ?_
 refine aAe ?_
 simp only [endX, resX, resV, Tryz.results160]
 try simp (disch := omega) only [xq, simprocAttr, dyV, ivV, fxV, aBt, Int.zero_sub]
 first | done | rfl
theorem aTG (v : Iv) (q : Nat) (h : ib v <= 100000000000 /\ ie v <= 100000000000 /\ q <= 100000000000) (hs : aDa (aBm (aAs v.lo q)) <= aDa (negD (aBm (negD (aAs v.hi q))))) : AC Tryz.prog TabW 153 [ivV v, .lit (.int .i64 ((q : Nat) : Int))] (fxV (aJM v q)) /\ (bl (aJM v q).a <= 4 * ib v + ie v + q + 4 /\ (aJM v q).e < 18446744073709551616) := by
 have s1 := aGV v.lo q
 have s2 := aJa (aAs v.lo q)
 have s3 := aGV v.hi q
 have s4 := aEl (aAs v.hi q)
 have s5 := aJa (negD (aAs v.hi q))
 have s6 := aEl (aBm (negD (aAs v.hi q)))
 have hv := aBe v
 have n1 := (aHC (aAs v.lo q)).2.1
 have n2 : 0 <= (negD (aBm (negD (aAs v.hi q)))).e := aRB (aHC (negD (aAs v.hi q))).2.1
 have w1 := aMm (aBm (aAs v.lo q)) n1 (by omega)
 have w2 := aMm (negD (aBm (negD (aAs v.hi q)))) n2 (by omega)
 have b := aLh _ _ (by have := w2.2; omega) hs
 have hr : aJM v q = aH7 (aDa (aBm (aAs v.lo q))) (aDa (negD (aBm (negD (aAs v.hi q))))) := rfl
 refine ⟨?_, by have := b.2; have := w1.2; rw [hr]; omega, e_lt _⟩
 rw [hr]
 refine aAd Tryz.func153 rfl (by kernel_rfl) aAc Tryz.mixed rfl rfl (by kernel_rfl) ?_
 simp only [aAl, Tryz.ntmps153, dyV, ivV, fxV]
 repeat' first
  | refine aAa fun K g => ?_
  | refine goK (by assumption) ?_
  | (refine aAe ?_; try simp only [aAm, aAg, reduceIte, Nat.reduceEqDiff])
  | ((first
  | refine aAU rfl fun os => ?_
  | refine aCR rfl (by kernel_rfl) fun os => ?_
  | refine cxoz (aIL _ _ (by omega)) (fun z => ?_)
  | refine cxoz (aQy _ (by omega)) (fun z => ?_)
  | refine cxoz (aVj _ (by omega)) (fun z => ?_)
  | refine cxd (w1.1) ?_
  | refine cxd (w2.1) ?_
  | refine cxd (b.1) ?_
  | simp only [endX, resX, resV, Tryz.results153]) <;> try (simp (disch := omega) only [xq, simprocAttr, dyV, ivV, fxV]))
  | (first | done | rfl
     done)
end
section
set_option maxRecDepth 10000
set_option maxHeartbeats 4000000
open Go.RowKit
theorem xm4 : (∀ (l : AMem) (x0 x1 x2 : TypeId × List AV), (l ++ [x0] ++ [x1] ++ [x2])[l.length]? = some x0) /\
   (∀ (l : AMem) (x0 x1 x2 z : TypeId × List AV), (l ++ [x0] ++ [x1] ++ [x2]).set (l.length) z = l ++ [z] ++ [x1] ++ [x2]) /\
   (∀ (l : AMem) (x0 x1 x2 : TypeId × List AV), (l ++ [x0] ++ [x1] ++ [x2])[l.length + 1]? = some x1) /\
   (∀ (l : AMem) (x0 x1 x2 z : TypeId × List AV), (l ++ [x0] ++ [x1] ++ [x2]).set (l.length + 1) z = l ++ [x0] ++ [z] ++ [x2]) /\
   (∀ (l : AMem) (x0 x1 x2 : TypeId × List AV), (l ++ [x0] ++ [x1] ++ [x2])[l.length + 2]? = some x2) /\
   (∀ (l : AMem) (x0 x1 x2 z : TypeId × List AV), (l ++ [x0] ++ [x1] ++ [x2]).set (l.length + 2) z = l ++ [x0] ++ [x1] ++ [z]) /\
   (∀ (l : AMem) (x0 x1 x2 x3 : TypeId × List AV), (l ++ [x0] ++ [x1] ++ [x2] ++ [x3])[l.length]? = some x0) /\
   (∀ (l : AMem) (x0 x1 x2 x3 z : TypeId × List AV), (l ++ [x0] ++ [x1] ++ [x2] ++ [x3]).set (l.length) z = l ++ [z] ++ [x1] ++ [x2] ++ [x3]) /\
   (∀ (l : AMem) (x0 x1 x2 x3 : TypeId × List AV), (l ++ [x0] ++ [x1] ++ [x2] ++ [x3])[l.length + 1]? = some x1) /\
   (∀ (l : AMem) (x0 x1 x2 x3 z : TypeId × List AV), (l ++ [x0] ++ [x1] ++ [x2] ++ [x3]).set (l.length + 1) z = l ++ [x0] ++ [z] ++ [x2] ++ [x3]) /\
   (∀ (l : AMem) (x0 x1 x2 x3 : TypeId × List AV), (l ++ [x0] ++ [x1] ++ [x2] ++ [x3])[l.length + 2]? = some x2) /\
   (∀ (l : AMem) (x0 x1 x2 x3 z : TypeId × List AV), (l ++ [x0] ++ [x1] ++ [x2] ++ [x3]).set (l.length + 2) z = l ++ [x0] ++ [x1] ++ [z] ++ [x3]) /\
   (∀ (l : AMem) (x0 x1 x2 x3 : TypeId × List AV), (l ++ [x0] ++ [x1] ++ [x2] ++ [x3])[l.length + 3]? = some x3) /\
   (∀ (l : AMem) (x0 x1 x2 x3 z : TypeId × List AV), (l ++ [x0] ++ [x1] ++ [x2] ++ [x3]).set (l.length + 3) z = l ++ [x0] ++ [x1] ++ [x2] ++ [z]) := by
 refine ⟨?_, ?_, ?_, ?_, ?_, ?_, ?_, ?_, ?_, ?_, ?_, ?_, ?_, ?_⟩
 all_goals intros
 all_goals simp [List.getElem?_append_right]
theorem aHe {a k w : Nat} (h : a * 2 ^ k <= 2 ^ w) : bl a <= w + 1 := aC8 (by
 have h1 : a <= a * 2 ^ k := Nat.le_mul_of_pos_right _ (Nat.pow_pos (by decide))
 have h2 : 2 ^ w < 2 ^ (w + 1) := Nat.pow_lt_pow_right (by decide) (by omega)
 omega)
theorem aLk {T : Nat -> Fx} {B : Nat} (h : ∀ j, bl (T j).a <= B) : ∀ k, bl (evF T k).a <= B + k /\ bl (odF T k).a <= B + k /\ (evF T k).e < 18446744073709551616 /\ (odF T k).e < 18446744073709551616
 | 0 => by simp [evF, odF, aGM]
 | k + 1 => by
   obtain ⟨h1, h2, h3, h4⟩ := aLk h k
   have hk := h k
   simp only [evF, odF]
   split
   · have := aCr (evF T k).a (T k).a
     exact ⟨by show bl ((evF T k).a + (T k).a) <= _; omega, by omega, e_lt _, h4⟩
   · have := aCr (odF T k).a (T k).a
     exact ⟨by omega, by show bl ((odF T k).a + (T k).a) <= _; omega, h3, e_lt _⟩
theorem aQg {T : Nat -> Fx} {B K : Nat} (h : ∀ j, bl (T j).a <= B) : bl (sumF T K).a <= B + K + 1 /\ (sumF T K).e < 18446744073709551616 := by
 obtain ⟨h1, h2, _, _⟩ := aLk h K
 have := aCr (evF T K).a (odF T K).a
 exact ⟨by show bl ((evF T K).a + (odF T K).a) <= _; omega, e_lt _⟩
theorem aRq {n w : Nat} (hn : 3 <= n) (k : Nat) : (bl (invP n w k).a <= w + 1 /\ (invP n w k).e <= 3) /\ bl (invT n w k).a <= w + 1 /\ (invT n w k).e <= 3 :=
 ⟨⟨aHe (aEW hn k).2.1, (aEW (w := w) hn k).2.2⟩, aHe (aF7 hn k).2.1, (aF7 (w := w) hn k).2.2⟩
theorem aNt {n times w : Nat} (hn : 3 <= n) (ht : times < 18446744073709551616) : bl (aAA n times w).a <= 2 * w + 68 /\ (aAA n times w).e < 18446744073709551616 := by
 have h1 := aQg (T := invT n w) (B := w + 1) (K := invK n w) (fun j => (aRq hn j).2.1)
 have h2 := aHY (sumF (invT n w) (invK n w)).a times
 have h3 := aE0 times 64 (by omega)
 have h4 := (aHz (w := w) hn).2.2.1
 exact ⟨by show bl ((sumF (invT n w) (invK n w)).a * times) <= _; omega, e_lt _⟩
theorem len0 (n : Nat) : (0 < (((limbsOf n).length : Nat) : Int)) <-> n ≠ 0 := by
 have := lenE n
 by_cases h : n = 0
 · rw [h, aAZ]; simp
 · rw [show (n != 0) = true from by simpa using h] at this
   exact ⟨fun _ => h, fun _ => of_decide_eq_true this⟩
def InvR (n w : Nat) (c3 : List AV) (ms : Nat) (σ : St) : Prop := ∃ (t : List (Nat × AV)) (rest : AMem) (k : Nat) (p ev od tm : Fx), σ = ⟨t, 47, (146, [.num 0, .lit (.int .u64 0)]) :: (146, [.num p.a, .lit (.int .u64 ((p.e : Nat) : Int))]) :: (23, [.lit (.int .u64 ((n * n : Nat) : Int))]) :: (146, c3) :: (146, [.num 0, .lit (.int .u64 0)]) :: (146, [.num 0, .lit (.int .u64 0)]) :: (171, [.num ev.a, .lit (.int .u64 ((ev.e : Nat) : Int)), .num od.a, .lit (.int .u64 ((od.e : Nat) : Int))]) :: (146, [.num tm.a, .lit (.int .u64 ((tm.e : Nat) : Int))]) :: rest⟩ /\ getT t 1 = .clo 200 [.ptr 1 0, .ptr 2 0] /\ getT t 4 = .ptr 4 0 /\ getT t 5 = .ptr 5 0 /\ getT t 6 = .ptr 6 0 /\ getT t 7 = .ptr 7 0 /\ getT t 8 = .lit (.int .i64 ((k : Nat) : Int)) /\ (k <= invK n w) /\ (p = invP n w k) /\ (ev = evF (invT n w) k) /\ (od = odF (invT n w) k) /\ (tm = invT n w k) /\ ms = invK n w - k
theorem aDN (n times w : Nat) (hn : 3 <= n /\ n <= 4294967295) (ht : times < 18446744073709551616) (hw : w <= 1000000) : AC Tryz.prog TabW 196 [.lit (.int .u64 ((n : Nat) : Int)), .lit (.int .u64 ((times : Nat) : Int)), .lit (.bool false), .lit (.int .i64 ((w : Nat) : Int))] (fxV (aAA n times w)) /\ (bl (aAA n times w).a <= 2 * w + 68 /\ (aAA n times w).e < 18446744073709551616) := by
 have hz := aNt (w := w) hn.1 ht
 refine ⟨?_, hz⟩
 clear hz
 have hsq : n * n % W64 = n * n := Nat.mod_eq_of_lt (Nat.lt_of_le_of_lt (Nat.mul_le_mul hn.2 hn.2) (by unfold W64; decide))
 have hsq2 : n * n < 18446744073709551616 := Nat.lt_of_le_of_lt (Nat.mul_le_mul hn.2 hn.2) (by decide)
 have hsq3 : 0 < n * n := Nat.mul_pos (by omega) (by omega)
 obtain ⟨kf1, kf2, kf3, kf4⟩ := aHz (w := w) hn.1
 have esz := fun k => aLk (T := invT n w) (B := w + 1) (fun j => (aRq hn.1 j).2.1) k
 have isz := fun k => aRq (w := w) hn.1 k
 have bt := aE0 times 64 (by omega)
 refine aAd Tryz.func196 rfl (by kernel_rfl) aAc Tryz.mixed rfl rfl (by kernel_rfl) ?_
 simp only [aAl, Tryz.ntmps196, dyV, ivV, fxV]
 refine aAa fun K1 g1 => ?_
 refine aAb fun os => ?_
 try simp (disch := omega) only [xq, simprocAttr, dyV, ivV, fxV, addE, mulE, aAh, hsq, xm4]
 refine g1 _ ?_
 refine aAa fun K2 g2 => ?_
 refine aAb fun os => ?_
 try simp (disch := omega) only [xq, simprocAttr, dyV, ivV, fxV, addE, mulE, aAh, hsq, xm4]
 refine cxoz (aRA _ (by omega)) (fun z1 => ?_)
 try simp (disch := omega) only [xq, simprocAttr, dyV, ivV, fxV, addE, mulE, aAh, hsq, xm4]
 refine cxoz (aCm _ _ (by omega) (by omega)) (fun z2 => ?_)
 try simp (disch := omega) only [xq, simprocAttr, dyV, ivV, fxV, addE, mulE, aAh, hsq, xm4]
 refine g2 _ ?_
 refine aAa fun K3 g3 => ?_
 refine aAb fun os => ?_
 try simp (disch := omega) only [xq, simprocAttr, dyV, ivV, fxV, addE, mulE, aAh, hsq, xm4]
 refine g3 _ ?_
 refine aAa fun K4 g4 => ?_
 refine aAb fun os => ?_
 try simp (disch := omega) only [xq, simprocAttr, dyV, ivV, fxV, addE, mulE, aAh, hsq, xm4]
 refine cxin Tryz.func154 rfl (by kernel_rfl) aAc Tryz.mixed (by kernel_rfl) ?_
 simp only [aAl, Tryz.ntmps154, dyV, ivV, fxV]
 refine aAa fun K5 g5 => ?_
 refine aAb fun os => ?_
 try simp (disch := omega) only [xq, simprocAttr, dyV, ivV, fxV, addE, mulE, aAh, hsq, xm4]
 refine g5 _ ?_
 refine aAa fun K6 g6 => ?_
 refine aAb fun os => ?_
 try simp (disch := omega) only [xq, simprocAttr, dyV, ivV, fxV, addE, mulE, aAh, hsq, xm4]
 refine g6 _ ?_
 refine aAa fun K7 g7 => ?_
 refine aAb fun os => ?_
 try simp (disch := omega) only [xq, simprocAttr, dyV, ivV, fxV, addE, mulE, aAh, hsq, xm4]
 refine g7 _ ?_
 refine aAa fun K8 g8 => ?_
 refine aAa fun K9 g9 => ?_
 refine aAb fun os => ?_
 try simp (disch := omega) only [xq, simprocAttr, dyV, ivV, fxV, addE, mulE, aAh, hsq, xm4]
 refine g9 _ ?_
 refine aAv ?_
 refine aDg (InvR n w _) _ ⟨_, [], 0, _, ⟨0, 0⟩, ⟨0, 0⟩, _, rfl, (by first | rfl | assumption | (simp (disch := omega) only [xq, simprocAttr, dyV, ivV, fxV, addE, mulE, aAh, hsq, xm4] <;> rfl)), (by first | rfl | assumption | (simp (disch := omega) only [xq, simprocAttr, dyV, ivV, fxV, addE, mulE, aAh, hsq, xm4] <;> rfl)), (by first | rfl | assumption | (simp (disch := omega) only [xq, simprocAttr, dyV, ivV, fxV, addE, mulE, aAh, hsq, xm4] <;> rfl)), (by first | rfl | assumption | (simp (disch := omega) only [xq, simprocAttr, dyV, ivV, fxV, addE, mulE, aAh, hsq, xm4] <;> rfl)), (by first | rfl | assumption | (simp (disch := omega) only [xq, simprocAttr, dyV, ivV, fxV, addE, mulE, aAh, hsq, xm4] <;> rfl)), (by first | rfl | assumption | (simp (disch := omega) only [xq, simprocAttr, dyV, ivV, fxV, addE, mulE, aAh, hsq, xm4] <;> rfl)), (Nat.zero_le _), rfl, rfl, rfl, rfl, rfl⟩ ?_
 rintro ms _ ⟨t, rest, k, p, ev, od, tm, rfl, InvR_t1, InvR_t4, InvR_t5, InvR_t6, InvR_t7, InvR_t8, hk, hp, hev, hod, htm, rfl⟩
 refine aAa fun K10 g10 => ?_
 refine aAa fun K11 g11 => ?_
 refine aAx ?_
 try simp (disch := omega) only [xq, simprocAttr, dyV, ivV, fxV, addE, mulE, aAh, hsq, xm4, InvR_t1, InvR_t4, InvR_t5, InvR_t6, InvR_t7, InvR_t8]
 refine gx (fun c1 => ?_) (fun c1 => ?_)
 ·rw [c1]
  try simp only [xn] at c1
  try simp (disch := omega) only [xq, simprocAttr, dyV, ivV, fxV, addE, mulE, aAh, hsq, xm4, InvR_t1, InvR_t4, InvR_t5, InvR_t6, InvR_t7, InvR_t8]
  refine g11 _ ?_
  refine aAf (by first | rfl | assumption) (fun c2 => ?_) (fun c2 => ?_)
  ·try simp only [xn] at c2
   refine aAk ?_
   simp only [aAm, aAg, reduceIte, Nat.reduceEqDiff]
   refine g10 _ ?_
   refine aAa fun K12 g12 => ?_
   refine aAv ?_
   refine aAa fun K13 g13 => ?_
   obtain ⟨i1, i2⟩ := isz k
   obtain ⟨v1, v2, v3, v4⟩ := esz k
   rw [<- hp] at i1
   rw [<- htm] at i2
   rw [<- hev] at v1 v3
   rw [<- hod] at v2 v4
   have hT : invT n w (k + 1) = aBx (aBx (invP n w k) (n * n)) (2 * (k + 1) + 1) := if_neg (by omega)
   have hcont : tm.a ≠ 0 \/ k = 0 := by first | exact .inr (by omega) | exact .inl ((len0 _).1 c1)
   have hkK : k < invK n w := by
     rcases Nat.lt_or_ge k (invK n w) with h | h
     · exact h
     · exfalso
       obtain rfl : k = invK n w := by omega
       rw [htm] at hcont
       omega
   rcases (show (((k : Nat) : Int).tmod 2 = 0 /\ k % 2 = 0) \/ (((k : Nat) : Int).tmod 2 = 1 /\ k % 2 = 1) from by rw [Int.tmod_eq_emod_of_nonneg (by omega)]; omega) with ⟨hm, hk2⟩ | ⟨hm, hk2⟩
   ·refine aAB (by kernel_rfl) fun os => ?_
    try simp (disch := omega) only [xq, simprocAttr, dyV, ivV, fxV, addE, mulE, aAh, hsq, xm4, InvR_t1, InvR_t4, InvR_t5, InvR_t6, InvR_t7, InvR_t8, hm]
    refine cxdz (aDJ _ _ (by omega)) (fun z3 => ?_)
    try simp (disch := omega) only [xq, simprocAttr, dyV, ivV, fxV, addE, mulE, aAh, hsq, xm4, InvR_t1, InvR_t4, InvR_t5, InvR_t6, InvR_t7, InvR_t8, hm]
    refine g13 _ ?_
    refine aAb fun os => ?_
    try simp (disch := omega) only [xq, simprocAttr, dyV, ivV, fxV, addE, mulE, aAh, hsq, xm4, InvR_t1, InvR_t4, InvR_t5, InvR_t6, InvR_t7, InvR_t8, hm]
    refine cxin Tryz.func200 rfl (by kernel_rfl) aAc Tryz.mixed (by kernel_rfl) ?_
    simp only [aAl, Tryz.ntmps200, dyV, ivV, fxV]
    refine aAa fun K14 g14 => ?_
    refine aAb fun os => ?_
    try simp (disch := omega) only [xq, simprocAttr, dyV, ivV, fxV, addE, mulE, aAh, hsq, xm4, InvR_t1, InvR_t4, InvR_t5, InvR_t6, InvR_t7, InvR_t8, hm]
    refine g14 _ ?_
    refine aAa fun K15 g15 => ?_
    refine aAb fun os => ?_
    try simp (disch := omega) only [xq, simprocAttr, dyV, ivV, fxV, addE, mulE, aAh, hsq, xm4, InvR_t1, InvR_t4, InvR_t5, InvR_t6, InvR_t7, InvR_t8, hm]
    refine cxoz (aCm _ (n * n) (by omega) ⟨hsq3, hsq2⟩) (fun z4 => ?_)
    try simp (disch := omega) only [xq, simprocAttr, dyV, ivV, fxV, addE, mulE, aAh, hsq, xm4, InvR_t1, InvR_t4, InvR_t5, InvR_t6, InvR_t7, InvR_t8, hm]
    refine g15 _ ?_
    refine aAa fun K16 g16 => ?_
    refine aAb fun os => ?_
    try simp (disch := omega) only [xq, simprocAttr, dyV, ivV, fxV, addE, mulE, aAh, hsq, xm4, InvR_t1, InvR_t4, InvR_t5, InvR_t6, InvR_t7, InvR_t8, hm]
    rw [show IntKind.u64.wrap (2 * (((k : Nat) : Int) + 1) + 1) = ((2 * (k + 1) + 1 : Nat) : Int) from by rw [aCn]; omega]
    refine cxoz (aCm _ _ (by omega) (by omega)) (fun z5 => ?_)
    try simp (disch := omega) only [xq, simprocAttr, dyV, ivV, fxV, addE, mulE, aAh, hsq, xm4, InvR_t1, InvR_t4, InvR_t5, InvR_t6, InvR_t7, InvR_t8, hm]
    refine g16 _ ?_
    refine aAe ?_
    refine aCU (by simp only [resX, resV, Tryz.results200]; simp (disch := omega) only [xq, simprocAttr, dyV, ivV, fxV, addE, mulE, aAh, hsq, xm4, InvR_t1, InvR_t4, InvR_t5, InvR_t6, InvR_t7, InvR_t8, hm]; rfl) ?_
    simp only [opsY]
    try simp (disch := omega) only [xq, simprocAttr, dyV, ivV, fxV, addE, mulE, aAh, hsq, xm4, InvR_t1, InvR_t4, InvR_t5, InvR_t6, InvR_t7, InvR_t8, hm]
    refine g12 _ ?_
    refine aAb fun os => ?_
    try simp (disch := omega) only [xq, simprocAttr, dyV, ivV, fxV, addE, mulE, aAh, hsq, xm4, InvR_t1, InvR_t4, InvR_t5, InvR_t6, InvR_t7, InvR_t8, hm]
    exact ⟨_, (by omega), ⟨_, _, (k + 1), _, _, _, _, rfl, (by first | rfl | assumption | (simp (disch := omega) only [xq, simprocAttr, dyV, ivV, fxV, addE, mulE, aAh, hsq, xm4, InvR_t1, InvR_t4, InvR_t5, InvR_t6, InvR_t7, InvR_t8, hm] <;> rfl)), (by first | rfl | assumption | (simp (disch := omega) only [xq, simprocAttr, dyV, ivV, fxV, addE, mulE, aAh, hsq, xm4, InvR_t1, InvR_t4, InvR_t5, InvR_t6, InvR_t7, InvR_t8, hm] <;> rfl)), (by first | rfl | assumption | (simp (disch := omega) only [xq, simprocAttr, dyV, ivV, fxV, addE, mulE, aAh, hsq, xm4, InvR_t1, InvR_t4, InvR_t5, InvR_t6, InvR_t7, InvR_t8, hm] <;> rfl)), (by first | rfl | assumption | (simp (disch := omega) only [xq, simprocAttr, dyV, ivV, fxV, addE, mulE, aAh, hsq, xm4, InvR_t1, InvR_t4, InvR_t5, InvR_t6, InvR_t7, InvR_t8, hm] <;> rfl)), (by first | rfl | assumption | (simp (disch := omega) only [xq, simprocAttr, dyV, ivV, fxV, addE, mulE, aAh, hsq, xm4, InvR_t1, InvR_t4, InvR_t5, InvR_t6, InvR_t7, InvR_t8, hm] <;> rfl)), (by first | rfl | assumption | (simp (disch := omega) only [xq, simprocAttr, dyV, ivV, fxV, addE, mulE, aAh, hsq, xm4, InvR_t1, InvR_t4, InvR_t5, InvR_t6, InvR_t7, InvR_t8, hm] <;> rfl)), (by omega), (by rw [hp]; rfl), (by simp only [evF, hk2, hev, htm, reduceIte, Nat.reduceEqDiff]), (by simp only [odF, hk2, hod, htm, reduceIte, Nat.reduceEqDiff]), (by rw [hp]; exact hT.symm), rfl⟩⟩
   ·refine aAB (by kernel_rfl) fun os => ?_
    try simp (disch := omega) only [xq, simprocAttr, dyV, ivV, fxV, addE, mulE, aAh, hsq, xm4, InvR_t1, InvR_t4, InvR_t5, InvR_t6, InvR_t7, InvR_t8, hm]
    refine cxdz (aDJ _ _ (by omega)) (fun z6 => ?_)
    try simp (disch := omega) only [xq, simprocAttr, dyV, ivV, fxV, addE, mulE, aAh, hsq, xm4, InvR_t1, InvR_t4, InvR_t5, InvR_t6, InvR_t7, InvR_t8, hm]
    refine g13 _ ?_
    refine aAb fun os => ?_
    try simp (disch := omega) only [xq, simprocAttr, dyV, ivV, fxV, addE, mulE, aAh, hsq, xm4, InvR_t1, InvR_t4, InvR_t5, InvR_t6, InvR_t7, InvR_t8, hm]
    refine cxin Tryz.func200 rfl (by kernel_rfl) aAc Tryz.mixed (by kernel_rfl) ?_
    simp only [aAl, Tryz.ntmps200, dyV, ivV, fxV]
    refine aAa fun K17 g17 => ?_
    refine aAb fun os => ?_
    try simp (disch := omega) only [xq, simprocAttr, dyV, ivV, fxV, addE, mulE, aAh, hsq, xm4, InvR_t1, InvR_t4, InvR_t5, InvR_t6, InvR_t7, InvR_t8, hm]
    refine g17 _ ?_
    refine aAa fun K18 g18 => ?_
    refine aAb fun os => ?_
    try simp (disch := omega) only [xq, simprocAttr, dyV, ivV, fxV, addE, mulE, aAh, hsq, xm4, InvR_t1, InvR_t4, InvR_t5, InvR_t6, InvR_t7, InvR_t8, hm]
    refine cxoz (aCm _ (n * n) (by omega) ⟨hsq3, hsq2⟩) (fun z7 => ?_)
    try simp (disch := omega) only [xq, simprocAttr, dyV, ivV, fxV, addE, mulE, aAh, hsq, xm4, InvR_t1, InvR_t4, InvR_t5, InvR_t6, InvR_t7, InvR_t8, hm]
    refine g18 _ ?_
    refine aAa fun K19 g19 => ?_
    refine aAb fun os => ?_
    try simp (disch := omega) only [xq, simprocAttr, dyV, ivV, fxV, addE, mulE, aAh, hsq, xm4, InvR_t1, InvR_t4, InvR_t5, InvR_t6, InvR_t7, InvR_t8, hm]
    rw [show IntKind.u64.wrap (2 * (((k : Nat) : Int) + 1) + 1) = ((2 * (k + 1) + 1 : Nat) : Int) from by rw [aCn]; omega]
    refine cxoz (aCm _ _ (by omega) (by omega)) (fun z8 => ?_)
    try simp (disch := omega) only [xq, simprocAttr, dyV, ivV, fxV, addE, mulE, aAh, hsq, xm4, InvR_t1, InvR_t4, InvR_t5, InvR_t6, InvR_t7, InvR_t8, hm]
    refine g19 _ ?_
    refine aAe ?_
    refine aCU (by simp only [resX, resV, Tryz.results200]; simp (disch := omega) only [xq, simprocAttr, dyV, ivV, fxV, addE, mulE, aAh, hsq, xm4, InvR_t1, InvR_t4, InvR_t5, InvR_t6, InvR_t7, InvR_t8, hm]; rfl) ?_
    simp only [opsY]
    try simp (disch := omega) only [xq, simprocAttr, dyV, ivV, fxV, addE, mulE, aAh, hsq, xm4, InvR_t1, InvR_t4, InvR_t5, InvR_t6, InvR_t7, InvR_t8, hm]
    refine g12 _ ?_
    refine aAb fun os => ?_
    try simp (disch := omega) only [xq, simprocAttr, dyV, ivV, fxV, addE, mulE, aAh, hsq, xm4, InvR_t1, InvR_t4, InvR_t5, InvR_t6, InvR_t7, InvR_t8, hm]
    exact ⟨_, (by omega), ⟨_, _, (k + 1), _, _, _, _, rfl, (by first | rfl | assumption | (simp (disch := omega) only [xq, simprocAttr, dyV, ivV, fxV, addE, mulE, aAh, hsq, xm4, InvR_t1, InvR_t4, InvR_t5, InvR_t6, InvR_t7, InvR_t8, hm] <;> rfl)), (by first | rfl | assumption | (simp (disch := omega) only [xq, simprocAttr, dyV, ivV, fxV, addE, mulE, aAh, hsq, xm4, InvR_t1, InvR_t4, InvR_t5, InvR_t6, InvR_t7, InvR_t8, hm] <;> rfl)), (by first | rfl | assumption | (simp (disch := omega) only [xq, simprocAttr, dyV, ivV, fxV, addE, mulE, aAh, hsq, xm4, InvR_t1, InvR_t4, InvR_t5, InvR_t6, InvR_t7, InvR_t8, hm] <;> rfl)), (by first | rfl | assumption | (simp (disch := omega) only [xq, simprocAttr, dyV, ivV, fxV, addE, mulE, aAh, hsq, xm4, InvR_t1, InvR_t4, InvR_t5, InvR_t6, InvR_t7, InvR_t8, hm] <;> rfl)), (by first | rfl | assumption | (simp (disch := omega) only [xq, simprocAttr, dyV, ivV, fxV, addE, mulE, aAh, hsq, xm4, InvR_t1, InvR_t4, InvR_t5, InvR_t6, InvR_t7, InvR_t8, hm] <;> rfl)), (by first | rfl | assumption | (simp (disch := omega) only [xq, simprocAttr, dyV, ivV, fxV, addE, mulE, aAh, hsq, xm4, InvR_t1, InvR_t4, InvR_t5, InvR_t6, InvR_t7, InvR_t8, hm] <;> rfl)), (by omega), (by rw [hp]; rfl), (by simp only [evF, hk2, hev, htm, reduceIte, Nat.reduceEqDiff]), (by simp only [odF, hk2, hod, htm, reduceIte, Nat.reduceEqDiff]), (by rw [hp]; exact hT.symm), rfl⟩⟩
  ·try simp only [xn] at c2
   refine aDh ?_
   simp only [aAm, aAg, reduceIte, Nat.reduceEqDiff]
   refine g8 _ ?_
   refine aAa fun K20 g20 => ?_
   obtain ⟨_, i2⟩ := isz k
   rw [<- htm] at i2
   have w4 : IntKind.u64.wrap (((tm.e : Nat) : Int) + 4) = ((tm.e + 4 : Nat) : Int) := by rw [aCn]; omega
   have fin : k = invK n w := by
     apply Classical.byContradiction
     intro hne
     exact kf4 k (by omega) (by omega) (by rw [<- htm]; have := (len0 tm.a).2; omega)
   obtain ⟨v1, v2, v3, v4⟩ := esz k
   rw [<- hev] at v1 v3
   rw [<- hod] at v2 v4
   refine aAB (by kernel_rfl) fun os => ?_
   try simp (disch := omega) only [xq, simprocAttr, dyV, ivV, fxV, addE, mulE, aAh, hsq, xm4, InvR_t1, InvR_t4, InvR_t5, InvR_t6, InvR_t7, InvR_t8, w4]
   refine cxdz (aG4 _ _) (fun z9 => ?_)
   try simp (disch := omega) only [xq, simprocAttr, dyV, ivV, fxV, addE, mulE, aAh, hsq, xm4, InvR_t1, InvR_t4, InvR_t5, InvR_t6, InvR_t7, InvR_t8, w4]
   refine cxdz (aG4 _ _) (fun z10 => ?_)
   try simp (disch := omega) only [xq, simprocAttr, dyV, ivV, fxV, addE, mulE, aAh, hsq, xm4, InvR_t1, InvR_t4, InvR_t5, InvR_t6, InvR_t7, InvR_t8, w4]
   refine g20 _ ?_
   refine aAe ?_
   refine aCU (by simp only [resX, resV, Tryz.results154]; simp (disch := omega) only [xq, simprocAttr, dyV, ivV, fxV, addE, mulE, aAh, hsq, xm4, InvR_t1, InvR_t4, InvR_t5, InvR_t6, InvR_t7, InvR_t8, w4]; rfl) ?_
   simp only [opsY]
   try simp (disch := omega) only [xq, simprocAttr, dyV, ivV, fxV, addE, mulE, aAh, hsq, xm4, InvR_t1, InvR_t4, InvR_t5, InvR_t6, InvR_t7, InvR_t8, w4]
   refine g4 _ ?_
   refine aAa fun K21 g21 => ?_
   refine aAb fun os => ?_
   try simp (disch := omega) only [xq, simprocAttr, dyV, ivV, fxV, addE, mulE, aAh, hsq, xm4, InvR_t1, InvR_t4, InvR_t5, InvR_t6, InvR_t7, InvR_t8, w4]
   refine cxoz (aDJ _ _ (by omega)) (fun z11 => ?_)
   try simp (disch := omega) only [xq, simprocAttr, dyV, ivV, fxV, addE, mulE, aAh, hsq, xm4, InvR_t1, InvR_t4, InvR_t5, InvR_t6, InvR_t7, InvR_t8, w4]
   refine g21 _ ?_
   refine aAa fun K22 g22 => ?_
   refine aAa fun K23 g23 => ?_
   refine aAb fun os => ?_
   try simp (disch := omega) only [xq, simprocAttr, dyV, ivV, fxV, addE, mulE, aAh, hsq, xm4, InvR_t1, InvR_t4, InvR_t5, InvR_t6, InvR_t7, InvR_t8, w4]
   refine g23 _ ?_
   refine aAf (by first | rfl | assumption) (fun c3 => ?_) (fun c3 => ?_)
   ·exact absurd c3 (by decide)
   ·try simp only [xn] at c3
    refine aAk ?_
    simp only [aAm, aAg, reduceIte, Nat.reduceEqDiff]
    refine g22 _ ?_
    refine aAa fun K24 g24 => ?_
    refine aAB (by kernel_rfl) fun os => ?_
    try simp (disch := omega) only [xq, simprocAttr, dyV, ivV, fxV, addE, mulE, aAh, hsq, xm4, InvR_t1, InvR_t4, InvR_t5, InvR_t6, InvR_t7, InvR_t8, w4]
    refine cxd (aHS _ (by omega) (by omega)) ?_
    try simp (disch := omega) only [xq, simprocAttr, dyV, ivV, fxV, addE, mulE, aAh, hsq, xm4, InvR_t1, InvR_t4, InvR_t5, InvR_t6, InvR_t7, InvR_t8, w4]
    refine cxd (aK8 _ _ (aCM (by omega)) (aCM (by omega))) ?_
    try simp (disch := omega) only [xq, simprocAttr, dyV, ivV, fxV, addE, mulE, aAh, hsq, xm4, InvR_t1, InvR_t4, InvR_t5, InvR_t6, InvR_t7, InvR_t8, w4]
    refine g24 _ ?_
    refine aAe ?_
    simp only [endX, resX, resV, Tryz.results196]
    try simp (disch := omega) only [xq, simprocAttr, dyV, ivV, fxV, addE, mulE, aAh, hsq, xm4, InvR_t1, InvR_t4, InvR_t5, InvR_t6, InvR_t7, InvR_t8, w4]
    rw [hev, hod, htm, fin]
    rfl
 ·rw [c1]
  try simp only [xn] at c1
  try simp (disch := omega) only [xq, simprocAttr, dyV, ivV, fxV, addE, mulE, aAh, hsq, xm4, InvR_t1, InvR_t4, InvR_t5, InvR_t6, InvR_t7, InvR_t8]
  refine g11 _ ?_
  refine aAf (by first | rfl | assumption) (fun c4 => ?_) (fun c4 => ?_)
  ·try simp only [xn] at c4
   refine aAk ?_
   simp only [aAm, aAg, reduceIte, Nat.reduceEqDiff]
   refine g10 _ ?_
   refine aAa fun K25 g25 => ?_
   refine aAv ?_
   refine aAa fun K26 g26 => ?_
   obtain ⟨i1, i2⟩ := isz k
   obtain ⟨v1, v2, v3, v4⟩ := esz k
   rw [<- hp] at i1
   rw [<- htm] at i2
   rw [<- hev] at v1 v3
   rw [<- hod] at v2 v4
   have hT : invT n w (k + 1) = aBx (aBx (invP n w k) (n * n)) (2 * (k + 1) + 1) := if_neg (by omega)
   have hcont : tm.a ≠ 0 \/ k = 0 := by first | exact .inr (by omega) | exact .inl ((len0 _).1 c1)
   have hkK : k < invK n w := by
     rcases Nat.lt_or_ge k (invK n w) with h | h
     · exact h
     · exfalso
       obtain rfl : k = invK n w := by omega
       rw [htm] at hcont
       omega
   rcases (show (((k : Nat) : Int).tmod 2 = 0 /\ k % 2 = 0) \/ (((k : Nat) : Int).tmod 2 = 1 /\ k % 2 = 1) from by rw [Int.tmod_eq_emod_of_nonneg (by omega)]; omega) with ⟨hm, hk2⟩ | ⟨hm, hk2⟩
   ·refine aAB (by kernel_rfl) fun os => ?_
    try simp (disch := omega) only [xq, simprocAttr, dyV, ivV, fxV, addE, mulE, aAh, hsq, xm4, InvR_t1, InvR_t4, InvR_t5, InvR_t6, InvR_t7, InvR_t8, hm]
    refine cxdz (aDJ _ _ (by omega)) (fun z12 => ?_)
    try simp (disch := omega) only [xq, simprocAttr, dyV, ivV, fxV, addE, mulE, aAh, hsq, xm4, InvR_t1, InvR_t4, InvR_t5, InvR_t6, InvR_t7, InvR_t8, hm]
    refine g26 _ ?_
    refine aAb fun os => ?_
    try simp (disch := omega) only [xq, simprocAttr, dyV, ivV, fxV, addE, mulE, aAh, hsq, xm4, InvR_t1, InvR_t4, InvR_t5, InvR_t6, InvR_t7, InvR_t8, hm]
    refine cxin Tryz.func200 rfl (by kernel_rfl) aAc Tryz.mixed (by kernel_rfl) ?_
    simp only [aAl, Tryz.ntmps200, dyV, ivV, fxV]
    refine aAa fun K27 g27 => ?_
    refine aAb fun os => ?_
    try simp (disch := omega) only [xq, simprocAttr, dyV, ivV, fxV, addE, mulE, aAh, hsq, xm4, InvR_t1, InvR_t4, InvR_t5, InvR_t6, InvR_t7, InvR_t8, hm]
    refine g27 _ ?_
    refine aAa fun K28 g28 => ?_
    refine aAb fun os => ?_
    try simp (disch := omega) only [xq, simprocAttr, dyV, ivV, fxV, addE, mulE, aAh, hsq, xm4, InvR_t1, InvR_t4, InvR_t5, InvR_t6, InvR_t7, InvR_t8, hm]
    refine cxoz (aCm _ (n * n) (by omega) ⟨hsq3, hsq2⟩) (fun z13 => ?_)
    try simp (disch := omega) only [xq, simprocAttr, dyV, ivV, fxV, addE, mulE, aAh, hsq, xm4, InvR_t1, InvR_t4, InvR_t5, InvR_t6, InvR_t7, InvR_t8, hm]
    refine g28 _ ?_
    refine aAa fun K29 g29 => ?_
    refine aAb fun os => ?_
    try simp (disch := omega) only [xq, simprocAttr, dyV, ivV, fxV, addE, mulE, aAh, hsq, xm4, InvR_t1, InvR_t4, InvR_t5, InvR_t6, InvR_t7, InvR_t8, hm]
    rw [show IntKind.u64.wrap (2 * (((k : Nat) : Int) + 1) + 1) = ((2 * (k + 1) + 1 : Nat) : Int) from by rw [aCn]; omega]
    refine cxoz (aCm _ _ (by omega) (by omega)) (fun z14 => ?_)
    try simp (disch := omega) only [xq, simprocAttr, dyV, ivV, fxV, addE, mulE, aAh, hsq, xm4, InvR_t1, InvR_t4, InvR_t5, InvR_t6, InvR_t7, InvR_t8, hm]
    refine g29 _ ?_
    refine aAe ?_
    refine aCU (by simp only [resX, resV, Tryz.results200]; simp (disch := omega) only [xq, simprocAttr, dyV, ivV, fxV, addE, mulE, aAh, hsq, xm4, InvR_t1, InvR_t4, InvR_t5, InvR_t6, InvR_t7, InvR_t8, hm]; rfl) ?_
    simp only [opsY]
    try simp (disch := omega) only [xq, simprocAttr, dyV, ivV, fxV, addE, mulE, aAh, hsq, xm4, InvR_t1, InvR_t4, InvR_t5, InvR_t6, InvR_t7, InvR_t8, hm]
    refine g25 _ ?_
    refine aAb fun os => ?_
    try simp (disch := omega) only [xq, simprocAttr, dyV, ivV, fxV, addE, mulE, aAh, hsq, xm4, InvR_t1, InvR_t4, InvR_t5, InvR_t6, InvR_t7, InvR_t8, hm]
    exact ⟨_, (by omega), ⟨_, _, (k + 1), _, _, _, _, rfl, (by first | rfl | assumption | (simp (disch := omega) only [xq, simprocAttr, dyV, ivV, fxV, addE, mulE, aAh, hsq, xm4, InvR_t1, InvR_t4, InvR_t5, InvR_t6, InvR_t7, InvR_t8, hm] <;> rfl)), (by first | rfl | assumption | (simp (disch := omega) only [xq, simprocAttr, dyV, ivV, fxV, addE, mulE, aAh, hsq, xm4, InvR_t1, InvR_t4, InvR_t5, InvR_t6, InvR_t7, InvR_t8, hm] <;> rfl)), (by first | rfl | assumption | (simp (disch := omega) only [xq, simprocAttr, dyV, ivV, fxV, addE, mulE, aAh, hsq, xm4, InvR_t1, InvR_t4, InvR_t5, InvR_t6, InvR_t7, InvR_t8, hm] <;> rfl)), (by first | rfl | assumption | (simp (disch := omega) only [xq, simprocAttr, dyV, ivV, fxV, addE, mulE, aAh, hsq, xm4, InvR_t1, InvR_t4, InvR_t5, InvR_t6, InvR_t7, InvR_t8, hm] <;> rfl)), (by first | rfl | assumption | (simp (disch := omega) only [xq, simprocAttr, dyV, ivV, fxV, addE, mulE, aAh, hsq, xm4, InvR_t1, InvR_t4, InvR_t5, InvR_t6, InvR_t7, InvR_t8, hm] <;> rfl)), (by first | rfl | assumption | (simp (disch := omega) only [xq, simprocAttr, dyV, ivV, fxV, addE, mulE, aAh, hsq, xm4, InvR_t1, InvR_t4, InvR_t5, InvR_t6, InvR_t7, InvR_t8, hm] <;> rfl)), (by omega), (by rw [hp]; rfl), (by simp only [evF, hk2, hev, htm, reduceIte, Nat.reduceEqDiff]), (by simp only [odF, hk2, hod, htm, reduceIte, Nat.reduceEqDiff]), (by rw [hp]; exact hT.symm), rfl⟩⟩
   ·refine aAB (by kernel_rfl) fun os => ?_
    try simp (disch := omega) only [xq, simprocAttr, dyV, ivV, fxV, addE, mulE, aAh, hsq, xm4, InvR_t1, InvR_t4, InvR_t5, InvR_t6, InvR_t7, InvR_t8, hm]
    refine cxdz (aDJ _ _ (by omega)) (fun z15 => ?_)
    try simp (disch := omega) only [xq, simprocAttr, dyV, ivV, fxV, addE, mulE, aAh, hsq, xm4, InvR_t1, InvR_t4, InvR_t5, InvR_t6, InvR_t7, InvR_t8, hm]
    refine g26 _ ?_
    refine aAb fun os => ?_
    try simp (disch := omega) only [xq, simprocAttr, dyV, ivV, fxV, addE, mulE, aAh, hsq, xm4, InvR_t1, InvR_t4, InvR_t5, InvR_t6, InvR_t7, InvR_t8, hm]
    refine cxin Tryz.func200 rfl (by kernel_rfl) aAc Tryz.mixed (by kernel_rfl) ?_
    simp only [aAl, Tryz.ntmps200, dyV, ivV, fxV]
    refine aAa fun K30 g30 => ?_
    refine aAb fun os => ?_
    try simp (disch := omega) only [xq, simprocAttr, dyV, ivV, fxV, addE, mulE, aAh, hsq, xm4, InvR_t1, InvR_t4, InvR_t5, InvR_t6, InvR_t7, InvR_t8, hm]
    refine g30 _ ?_
    refine aAa fun K31 g31 => ?_
    refine aAb fun os => ?_
    try simp (disch := omega) only [xq, simprocAttr, dyV, ivV, fxV, addE, mulE, aAh, hsq, xm4, InvR_t1, InvR_t4, InvR_t5, InvR_t6, InvR_t7, InvR_t8, hm]
    refine cxoz (aCm _ (n * n) (by omega) ⟨hsq3, hsq2⟩) (fun z16 => ?_)
    try simp (disch := omega) only [xq, simprocAttr, dyV, ivV, fxV, addE, mulE, aAh, hsq, xm4, InvR_t1, InvR_t4, InvR_t5, InvR_t6, InvR_t7, InvR_t8, hm]
    refine g31 _ ?_
    refine aAa fun K32 g32 => ?_
    refine aAb fun os => ?_
    try simp (disch := omega) only [xq, simprocAttr, dyV, ivV, fxV, addE, mulE, aAh, hsq, xm4, InvR_t1, InvR_t4, InvR_t5, InvR_t6, InvR_t7, InvR_t8, hm]
    rw [show IntKind.u64.wrap (2 * (((k : Nat) : Int) + 1) + 1) = ((2 * (k + 1) + 1 : Nat) : Int) from by rw [aCn]; omega]
    refine cxoz (aCm _ _ (by omega) (by omega)) (fun z17 => ?_)
    try simp (disch := omega) only [xq, simprocAttr, dyV, ivV, fxV, addE, mulE, aAh, hsq, xm4, InvR_t1, InvR_t4, InvR_t5, InvR_t6, InvR_t7, InvR_t8, hm]
    refine g32 _ ?_
    refine aAe ?_
    refine aCU (by simp only [resX, resV, Tryz.results200]; simp (disch := omega) only [xq, simprocAttr, dyV, ivV, fxV, addE, mulE, aAh, hsq, xm4, InvR_t1, InvR_t4, InvR_t5, InvR_t6, InvR_t7, InvR_t8, hm]; rfl) ?_
    simp only [opsY]
    try simp (disch := omega) only [xq, simprocAttr, dyV, ivV, fxV, addE, mulE, aAh, hsq, xm4, InvR_t1, InvR_t4, InvR_t5, InvR_t6, InvR_t7, InvR_t8, hm]
    refine g25 _ ?_
    refine aAb fun os => ?_
    try simp (disch := omega) only [xq, simprocAttr, dyV, ivV, fxV, addE, mulE, aAh, hsq, xm4, InvR_t1, InvR_t4, InvR_t5, InvR_t6, InvR_t7, InvR_t8, hm]
    exact ⟨_, (by omega), ⟨_, _, (k + 1), _, _, _, _, rfl, (by first | rfl | assumption | (simp (disch := omega) only [xq, simprocAttr, dyV, ivV, fxV, addE, mulE, aAh, hsq, xm4, InvR_t1, InvR_t4, InvR_t5, InvR_t6, InvR_t7, InvR_t8, hm] <;> rfl)), (by first | rfl | assumption | (simp (disch := omega) only [xq, simprocAttr, dyV, ivV, fxV, addE, mulE, aAh, hsq, xm4, InvR_t1, InvR_t4, InvR_t5, InvR_t6, InvR_t7, InvR_t8, hm] <;> rfl)), (by first | rfl | assumption | (simp (disch := omega) only [xq, simprocAttr, dyV, ivV, fxV, addE, mulE, aAh, hsq, xm4, InvR_t1, InvR_t4, InvR_t5, InvR_t6, InvR_t7, InvR_t8, hm] <;> rfl)), (by first | rfl | assumption | (simp (disch := omega) only [xq, simprocAttr, dyV, ivV, fxV, addE, mulE, aAh, hsq, xm4, InvR_t1, InvR_t4, InvR_t5, InvR_t6, InvR_t7, InvR_t8, hm] <;> rfl)), (by first | rfl | assumption | (simp (disch := omega) only [xq, simprocAttr, dyV, ivV, fxV, addE, mulE, aAh, hsq, xm4, InvR_t1, InvR_t4, InvR_t5, InvR_t6, InvR_t7, InvR_t8, hm] <;> rfl)), (by first | rfl | assumption | (simp (disch := omega) only [xq, simprocAttr, dyV, ivV, fxV, addE, mulE, aAh, hsq, xm4, InvR_t1, InvR_t4, InvR_t5, InvR_t6, InvR_t7, InvR_t8, hm] <;> rfl)), (by omega), (by rw [hp]; rfl), (by simp only [evF, hk2, hev, htm, reduceIte, Nat.reduceEqDiff]), (by simp only [odF, hk2, hod, htm, reduceIte, Nat.reduceEqDiff]), (by rw [hp]; exact hT.symm), rfl⟩⟩
  ·exact absurd c4 (by decide)
end
end Go.Proofs.YtgdkokgeldnliaaGreatDoor
