/- Contracts of functions and plain lemmas that the laws of this seat lean on. -/
import Derived.Test.YtgdkokgeldnliaaGreatDoorKEfab
import Derived.Test.YtgdkokgeldnliaaGreatDoorKEfac
import Derived.Test.YtgdkokgeldnliaaGreatDoorKEfae
import Derived.Test.YtgdkokgeldnliaaGreatDoorKEfaf
import Derived.Test.YtgdkokgeldnliaaGreatDoorKEfag
import Derived.Test.YtgdkokgeldnliaaGreatDoorKEfah
import Derived.Test.YtgdkokgeldnliaaGreatDoorKEfai
import Derived.Test.YtgdkokgeldnliaaGreatDoorKEfaj
import Derived.Test.YtgdkokgeldnliaaGreatDoorKEfak
import Derived.Test.YtgdkokgeldnliaaGreatDoorKEfan
import Derived.Test.YtgdkokgeldnliaaGreatDoorKEfaq
import Derived.Test.YtgdkokgeldnliaaGreatDoorRows
import Derived.WalkKit
import Derived.WalkSpells
import Derived.WalkLawsBesides
import Derived.Lib.Hide
import Derived.Deep.QuietTactic
import Derived.BigQuiet
import Derived.Test.YtgdkokgeldnliaaGreatDoorShelf
import Derived.Lib.BitFns
import Derived.Lib.ItoaNum
import Derived.Lib.TrailingZeros
import Derived.Deep.DeepCutAuto
import Derived.Deep.CutBlock
import Derived.Laws.AppendOwn
import Derived.Laws.AppendOwnNone
import Derived.Laws.CopyOwn
import Derived.StillTail
import Derived.Below
import Derived.Deep.MidRow
import Derived.Laws.Tables
import Derived.Laws.CopyRow
import Derived.IntWalk
import Derived.RegionTactic
namespace Go.Proofs.YtgdkokgeldnliaaGreatDoor
set_option linter.unusedSimpArgs false
set_option linter.unusedVariables false
set_option linter.unusedSectionVars false
set_option linter.constructorNameAsVariable false
set_option linter.unnecessarySimpa false
section
theorem aTw {n w : Nat} (hn : n = 2 \/ n = 10) (h1 : 16 <= w) (h2 : w <= 10000) : 0 < (lnVQ n w).lo.v /\ (lnVQ n w).lo.v <= (lnVQ n w).hi.v /\ (lnVQ n w).hi.v <= lnB n + 1 / 10000 := by
 have hr : (0 : Rat) < (n : Rat) := by rcases hn with rfl | rfl <;> decide +kernel
 obtain ⟨g1, g2⟩ := aUE hn
 obtain ⟨a1, a2⟩ := aK5 (w := w) hn (by omega)
 have hA : 1 / 2 <= lnA n := by rcases hn with rfl | rfl <;> decide +kernel
 have k1 := aFF hr a1 g2
 have k2 := aFF hr g1 a2
 have k3 := aFF hr a1 a2
 unfold lnVQ at *
 have he : (if n = 2 then ln2Q (w + 32) else aFG (w + 32)).e <= 8 * (3 * (w + 32) + 20) := by
   rcases hn with rfl | rfl
   · have := (aHu (w := w + 32) (by omega) (by omega)).2
     rw [if_pos rfl]; omega
   · have := (aI3 (w := w + 32) (by omega) (by omega)).2
     rw [if_neg (by decide)]; omega
 generalize (if n = 2 then ln2Q (w + 32) else aFG (w + 32)) = x at *
 have hw1 := aHy x (w + 32)
 have he2 : (x.e : Rat) * p2 (-((w + 32 : Nat) : Int)) <= 1 / 10000 := by
   have h3 : (x.e : Rat) <= ((262144 : Nat) : Rat) := Rat.natCast_le_natCast.2 (by omega)
   have h4 := (aCi 18 (k := 262144) rfl).1
   rw [<- h4] at h3
   have := Rat.mul_le_mul_of_nonneg_right h3 (Rat.le_of_lt (aAz (-((w + 32 : Nat) : Int))))
   rw [<- aA9] at this
   have h5 := aA7 (show ((18 : Nat) : Int) + -((w + 32 : Nat) : Int) <= -((14 : Nat) : Int) by omega)
   have h6 := (aCi 14 (k := 16384) rfl).2
   have h7 : ((16384 : Nat) : Rat) = 16384 := rfl
   rw [h7] at h6
   grind
 exact ⟨by grind, k3, by grind⟩
theorem aOE {d : D} (h : d.v = 0) {p : Int} (hp : 1 <= p) (up : Bool) : (cutD d p up).v = 0 := by
 have c := aDM d hp up
 rw [h] at c
 obtain ⟨a, b⟩ := (aBU c).1 Rat.le_refl
 apply Rat.le_antisymm <;> grind
theorem aO0 {a b : Iv} {p : Int} (hp : 1 <= p) (h1 : a.lo.v = 0) (h2 : a.hi.v = 0) : (aAF a b p).lo.v = 0 /\ (aAF a b p).hi.v = 0 := by
 obtain ⟨_, _, _, _, l5⟩ := aMb (mulD a.lo b.lo) (mulD a.lo b.hi) (mulD a.hi b.lo) (mulD a.hi b.hi)
 obtain ⟨_, _, _, _, h5⟩ := aMh (mulD a.lo b.lo) (mulD a.lo b.hi) (mulD a.hi b.lo) (mulD a.hi b.hi)
 unfold aAF aAD
 constructor
 · refine aOE ?_ hp _
   rcases l5 with h | h | h | h <;> rw [h, aGA] <;> grind
 · refine aOE ?_ hp _
   rcases h5 with h | h | h | h <;> rw [h, aGA] <;> grind
theorem aO6 {n q : Nat} {t : D} (hn : n = 0 \/ n = 2 \/ n = 10) (hq : 70 <= q) (hq2 : q <= 10000) (hin : t.av <= (aAo n : Rat)) :
   (aAw n t q).lo.av <= 11109 /\ (aAw n t q).hi.av <= 11109 := by
 obtain ⟨r1, _, _⟩ := aIK hn
 have hav := aBh t
 obtain ⟨pv1, pv2⟩ := aNe t
 by_cases h0 : n = 0
 · subst h0
   have e : aAw 0 t q = aAn t := rfl
   have e2 : (aAo 0 : Rat) = 11000 := rfl
   rw [e, aBh, aBh, pv1, pv2, <- hav]
   rw [e2] at hin
   exact ⟨by grind, by grind⟩
 · have hn2 : n = 2 \/ n = 10 := by omega
   have e : aAw n t q = aAF (aAn t) (lnVQ n q) q := by unfold aAw; rw [if_neg h0]
   have eC : lnC n = lnB n := by unfold lnC; rw [if_neg h0]
   obtain ⟨b1, b2, b3⟩ := aTw (w := q) hn2 (by omega) hq2
   obtain ⟨e1, e2⟩ := aEq (w := q) (by omega)
   have hr : (aAo n : Rat) <= 16000 := by rcases hn2 with rfl | rfl <;> decide +kernel
   rw [e]
   generalize lnVQ n q = L at *
   rw [eC] at r1
   have hb : ∀ x y : Rat, 0 <= x -> x <= (aAo n : Rat) -> 0 <= y -> y <= L.hi.v -> x * y * (1 + p2 (1 - (q : Int))) <= 11109 := fun x y h1 h2 h3 h4 => by
     have k1 := aAO h2 (Rat.le_trans h4 b3) h3 (by grind)
     have k2 : (aAo n : Rat) * (lnB n + 1 / 10000) <= 11092 + 16000 * (1 / 10000) := by grind
     have k3 := aAO (Rat.le_trans k1 k2) (show 1 + p2 (1 - (q : Int)) <= 1 + 1 / 32768 by grind) (by grind) (by grind)
     grind
   by_cases hs : t.v = 0
   · obtain ⟨z1, z2⟩ := aO0 (a := aAn t) (b := L) (p := (q : Int)) (by omega) (by rw [pv1]; exact hs) (by rw [pv2]; exact hs)
     rw [aBh, aBh, z1, z2]
     exact ⟨by decide +kernel, by decide +kernel⟩
   · by_cases hp : 0 < t.v
     · obtain ⟨t1, t2, t3, t4⟩ := aDj (a := aAn t) (b := L) (p := (q : Int)) (by omega) (by rw [pv1]; exact hp) b1 (by rw [pv1, pv2]; exact Rat.le_refl) b2
       rw [pv1] at t1 t2
       rw [pv2] at t3 t4
       rw [if_neg (by grind)] at hav
       have h1 := hb t.v L.hi.v (by grind) (by grind) (by grind) Rat.le_refl
       have hl : 0 <= t.v * L.lo.v := Rat.mul_nonneg (by grind) (by grind)
       have h2 := Rat.mul_nonneg hl (show 0 <= 1 - p2 (1 - (q : Int)) by grind)
       have h3 := Rat.mul_le_mul_of_nonneg_left b2 (show 0 <= t.v by grind)
       rw [aBh, aBh, if_neg (by grind), if_neg (by grind)]
       have h4 : 0 <= t.v * L.hi.v * p2 (1 - (q : Int)) := Rat.mul_nonneg (by grind) (by grind)
       exact ⟨by grind, by grind⟩
     · obtain ⟨t1, t2, t3, t4⟩ := aLJ (a := aAn t) (b := L) (p := (q : Int)) (by omega) (by rw [pv2]; grind) b1 (by rw [pv1, pv2]; exact Rat.le_refl) b2
       rw [pv1] at t1 t2
       rw [pv2] at t3 t4
       rw [if_pos (by grind)] at hav
       have h1 := hb (-t.v) L.hi.v (by grind) (by grind) (by grind) Rat.le_refl
       have hl : 0 <= -t.v * L.lo.v := Rat.mul_nonneg (by grind) (by grind)
       have h2 := Rat.mul_nonneg hl (show 0 <= 1 - p2 (1 - (q : Int)) by grind)
       have h3 := Rat.mul_le_mul_of_nonneg_left b2 (show 0 <= -t.v by grind)
       have h4 : 0 <= -t.v * L.hi.v * p2 (1 - (q : Int)) := Rat.mul_nonneg (by grind) (by grind)
       have h5 : (aAF (aAn t) L (q : Int)).lo.v <= (aAF (aAn t) L (q : Int)).hi.v := by grind
       have h6 : (aAF (aAn t) L (q : Int)).hi.v <= 0 := by grind
       rw [aBh, aBh]
       constructor <;> split <;> grind
theorem aCs {n q : Nat} {t : D} (hn : n = 0 \/ n = 2 \/ n = 10) (hq : 70 <= q) (hq2 : q <= 10000) (hin : t.av <= (aAo n : Rat)) :
   (topD (aAw n t q).lo <= 13 \/ (aAw n t q).lo.m = 0) /\ (topD (aAw n t q).hi <= 13 \/ (aAw n t q).hi.m = 0) := by
 obtain ⟨h1, h2⟩ := aO6 (t := t) hn hq hq2 hin
 constructor
 · by_cases h0 : (aAw n t q).lo.m = 0
   · exact .inr h0
   · exact .inl (aGS h1 h0)
 · by_cases h0 : (aAw n t q).hi.m = 0
   · exact .inr h0
   · exact .inl (aGS h2 h0)
end
section
set_option maxRecDepth 10000
set_option maxHeartbeats 4000000
open Go.RowKit
theorem aFB  : AC Tryz.prog TabW 56 [.lit (.int .i64 0)] (dyV (intD (aAo 0 : Int))) := by
 have h1 := aB4 11000 (by omega)
 refine aAd Tryz.func56 rfl (by kernel_rfl) aAc Tryz.mixed rfl rfl (by kernel_rfl) ?_
 simp only [aAl, Tryz.ntmps56, dyV, ivV, fxV, fxV]
 refine aAa fun K1 g1 => ?_
 refine aAb fun os => ?_
 try simp (disch := omega) only [xq, simprocAttr, dyV, ivV, fxV, fxV]
 refine g1 _ ?_
 refine aAa fun K2 g2 => ?_
 refine aAa fun K3 g3 => ?_
 refine aAb fun os => ?_
 try simp (disch := omega) only [xq, simprocAttr, dyV, ivV, fxV, fxV]
 refine g3 _ ?_
 refine aAv ?_
 refine aAa fun K4 g4 => ?_
 refine aAb fun os => ?_
 try simp (disch := omega) only [xq, simprocAttr, dyV, ivV, fxV, fxV]
 refine g4 _ ?_
 refine aAf (by first | rfl | assumption) (fun c1 => ?_) (fun c1 => ?_)
 ·exact absurd c1 (by decide)
 ·try simp only [xn] at c1
  refine aAa fun K5 g5 => ?_
  refine aAb fun os => ?_
  try simp (disch := omega) only [xq, simprocAttr, dyV, ivV, fxV, fxV]
  refine g5 _ ?_
  refine aAf (by first | rfl | assumption) (fun c2 => ?_) (fun c2 => ?_)
  ·exact absurd c2 (by decide)
  ·try simp only [xn] at c2
   refine aAk ?_
   simp only [aAm, aAg, reduceIte, Nat.reduceEqDiff]
   refine g2 _ ?_
   refine aAa fun K6 g6 => ?_
   refine aAb fun os => ?_
   try simp (disch := omega) only [xq, simprocAttr, dyV, ivV, fxV, fxV]
   refine cxo (h1.1) ?_
   try simp (disch := omega) only [xq, simprocAttr, dyV, ivV, fxV, fxV]
   refine g6 _ ?_
   refine aAe ?_
   simp only [endX, resX, resV, Tryz.results56]
   try simp (disch := omega) only [xq, simprocAttr, dyV, ivV, fxV, fxV]
   first | done | rfl
theorem aFd (t : D) (q : Nat) (h : bl t.m <= 66000 /\ ae t <= 40000 /\ 8 <= q /\ q <= 5000) : AC Tryz.prog TabW 101 [.lit (.int .i64 0), dyV t, .lit (.int .i64 ((q : Nat) : Int))] (ivV (aAw 0 t q)) /\ (ib (aAw 0 t q) <= 66000 /\ ie (aAw 0 t q) <= 600000) := by
 have h1 := aEZ t (by omega)
 have hr : aAw 0 t q = aAn t := rfl
 rw [hr]
 clear hr
 refine ⟨?_, by omega⟩
 refine aAd Tryz.func101 rfl (by kernel_rfl) aAc Tryz.mixed rfl rfl (by kernel_rfl) ?_
 simp only [aAl, Tryz.ntmps101, dyV, ivV, fxV, fxV]
 refine aAa fun K1 g1 => ?_
 refine aAb fun os => ?_
 try simp (disch := omega) only [xq, simprocAttr, dyV, ivV, fxV, fxV]
 refine g1 _ ?_
 refine aAa fun K2 g2 => ?_
 refine aAa fun K3 g3 => ?_
 refine aAb fun os => ?_
 try simp (disch := omega) only [xq, simprocAttr, dyV, ivV, fxV, fxV]
 refine g3 _ ?_
 refine aAv ?_
 refine aAa fun K4 g4 => ?_
 refine aAb fun os => ?_
 try simp (disch := omega) only [xq, simprocAttr, dyV, ivV, fxV, fxV]
 refine g4 _ ?_
 refine aAf (by first | rfl | assumption) (fun c1 => ?_) (fun c1 => ?_)
 ·exact absurd c1 (by decide)
 ·try simp only [xn] at c1
  refine aAa fun K5 g5 => ?_
  refine aAb fun os => ?_
  try simp (disch := omega) only [xq, simprocAttr, dyV, ivV, fxV, fxV]
  refine g5 _ ?_
  refine aAf (by first | rfl | assumption) (fun c2 => ?_) (fun c2 => ?_)
  ·exact absurd c2 (by decide)
  ·try simp only [xn] at c2
   refine aAk ?_
   simp only [aAm, aAg, reduceIte, Nat.reduceEqDiff]
   refine g2 _ ?_
   refine aAa fun K6 g6 => ?_
   refine aAb fun os => ?_
   try simp (disch := omega) only [xq, simprocAttr, dyV, ivV, fxV, fxV]
   refine cxo (h1.1) ?_
   try simp (disch := omega) only [xq, simprocAttr, dyV, ivV, fxV, fxV]
   refine g6 _ ?_
   refine aAe ?_
   simp only [endX, resX, resV, Tryz.results101]
   try simp (disch := omega) only [xq, simprocAttr, dyV, ivV, fxV, fxV]
   first | done | rfl
theorem aHr (t : D) (p : Nat) (hin : t.av <= (aAo 0 : Rat)) (hp : 8 <= p /\ p <= 4096) (h : bl t.m <= 66000 /\ ae t <= 40000) : AC Tryz.prog TabW 60 [.lit (.int .i64 0), dyV t, .lit (.int .i64 ((p : Nat) : Int))] (ivV (rawQ 0 t p)) /\ (ib (rawQ 0 t p) <= 16300 /\ ie (rawQ 0 t p) <= 12900000) := by
 have h1 := aFd t (p + 64) (by omega)
 obtain ⟨t1, t2⟩ := aCs (n := 0) (q := p + 64) (t := t) (by decide) (by omega) (by omega) hin
 have hr : rawQ 0 t p = ⟨(anyQ (aAw 0 t (p + 64)).lo (p + 8)).lo, (anyQ (aAw 0 t (p + 64)).hi (p + 8)).hi⟩ := rfl
 rw [hr]
 clear hr hin
 generalize aAw 0 t (p + 64) = u at *
 have hu := aBe u
 have h2 := aCj u.lo (p + 8) (by omega)
 have h3 := aCj u.hi (p + 8) (by omega)
 have hp8 : ((p : Nat) : Int) + 8 = ((p + 8 : Nat) : Int) := rfl
 have hp64 : ((p : Nat) : Int) + 64 = ((p + 64 : Nat) : Int) := rfl
 have z2 := aBe (anyQ u.lo (p + 8))
 have z3 := aBe (anyQ u.hi (p + 8))
 have z4 := mk_b (a := (anyQ u.lo (p + 8)).lo) (b := (anyQ u.hi (p + 8)).hi) (B := 16300) (E := 12900000) (by omega) (by omega)
 refine ⟨?_, z4⟩
 clear z2 z3 z4
 generalize anyQ u.lo (p + 8) = A at *
 generalize anyQ u.hi (p + 8) = Bq at *
 refine aAd Tryz.func60 rfl (by kernel_rfl) aAc Tryz.mixed rfl rfl (by kernel_rfl) ?_
 simp only [aAl, Tryz.ntmps60, dyV, ivV, fxV, fxV]
 refine aAa fun K1 g1 => ?_
 refine aAb fun os => ?_
 try simp (disch := omega) only [xq, simprocAttr, dyV, ivV, fxV, fxV, hp8, hp64]
 refine g1 _ ?_
 refine aAa fun K2 g2 => ?_
 refine aAb fun os => ?_
 try simp (disch := omega) only [xq, simprocAttr, dyV, ivV, fxV, fxV, hp8, hp64]
 refine cxo (h1.1) ?_
 try simp (disch := omega) only [xq, simprocAttr, dyV, ivV, fxV, fxV, hp8, hp64]
 refine g2 _ ?_
 refine aAa fun K3 g3 => ?_
 refine aAB (by kernel_rfl) fun os => ?_
 try simp (disch := omega) only [xq, simprocAttr, dyV, ivV, fxV, fxV, hp8, hp64]
 refine cxd (h2.1) ?_
 try simp (disch := omega) only [xq, simprocAttr, dyV, ivV, fxV, fxV, hp8, hp64]
 refine cxd (h3.1) ?_
 try simp (disch := omega) only [xq, simprocAttr, dyV, ivV, fxV, fxV, hp8, hp64]
 refine g3 _ ?_
 refine aAe ?_
 simp only [endX, resX, resV, Tryz.results60]
 try simp (disch := omega) only [xq, simprocAttr, dyV, ivV, fxV, fxV, hp8, hp64]
 first | done | rfl
theorem aFA  : AC Tryz.prog TabW 56 [.lit (.int .i64 2)] (dyV (intD (aAo 2 : Int))) := by
 have h1 := aB4 16000 (by omega)
 refine aAd Tryz.func56 rfl (by kernel_rfl) aAc Tryz.mixed rfl rfl (by kernel_rfl) ?_
 simp only [aAl, Tryz.ntmps56, dyV, ivV, fxV, fxV]
 refine aAa fun K1 g1 => ?_
 refine aAb fun os => ?_
 try simp (disch := omega) only [xq, simprocAttr, dyV, ivV, fxV, fxV]
 refine g1 _ ?_
 refine aAa fun K2 g2 => ?_
 refine aAa fun K3 g3 => ?_
 refine aAb fun os => ?_
 try simp (disch := omega) only [xq, simprocAttr, dyV, ivV, fxV, fxV]
 refine g3 _ ?_
 refine aAv ?_
 refine aAa fun K4 g4 => ?_
 refine aAb fun os => ?_
 try simp (disch := omega) only [xq, simprocAttr, dyV, ivV, fxV, fxV]
 refine g4 _ ?_
 refine aAf (by first | rfl | assumption) (fun c1 => ?_) (fun c1 => ?_)
 ·try simp only [xn] at c1
  refine aAa fun K5 g5 => ?_
  refine aAb fun os => ?_
  try simp (disch := omega) only [xq, simprocAttr, dyV, ivV, fxV, fxV]
  refine cxo (h1.1) ?_
  try simp (disch := omega) only [xq, simprocAttr, dyV, ivV, fxV, fxV]
  refine g5 _ ?_
  refine aAe ?_
  simp only [aAm, aAg, reduceIte, Nat.reduceEqDiff]
  simp only [endX, resX, resV, Tryz.results56]
  try simp (disch := omega) only [xq, simprocAttr, dyV, ivV, fxV, fxV]
  first | done | rfl
 ·exact absurd c1 (by decide)
theorem aFc (t : D) (q : Nat) (h : bl t.m <= 66000 /\ ae t <= 40000 /\ 8 <= q /\ q <= 5000) : AC Tryz.prog TabW 101 [.lit (.int .i64 2), dyV t, .lit (.int .i64 ((q : Nat) : Int))] (ivV (aAw 2 t q)) /\ (ib (aAw 2 t q) <= 66000 /\ ie (aAw 2 t q) <= 600000) := by
 have h1 := aEZ t (by omega)
 have h2 := aLi (q + 32) (by omega)
 have h3 := aG5 (ln2Q (q + 32)) (q + 32) (by omega)
 have hq : ((q : Nat) : Int) + 32 = ((q + 32 : Nat) : Int) := rfl
 have hl : lnVQ 2 q = aBt (ln2Q (q + 32)) (q + 32) := rfl
 have hr : aAw 2 t q = aAF (aAn t) (aBt (ln2Q (q + 32)) (q + 32)) q := rfl
 rw [hr]
 clear hr hl
 generalize ln2Q (q + 32) = L at *
 have h4 := aCP (aAn t) (aBt L (q + 32)) q (by omega)
 refine ⟨?_, by omega⟩
 refine aAd Tryz.func101 rfl (by kernel_rfl) aAc Tryz.mixed rfl rfl (by kernel_rfl) ?_
 simp only [aAl, Tryz.ntmps101, dyV, ivV, fxV, fxV]
 refine aAa fun K1 g1 => ?_
 refine aAb fun os => ?_
 try simp (disch := omega) only [xq, simprocAttr, dyV, ivV, fxV, fxV, hq]
 refine g1 _ ?_
 refine aAa fun K2 g2 => ?_
 refine aAa fun K3 g3 => ?_
 refine aAb fun os => ?_
 try simp (disch := omega) only [xq, simprocAttr, dyV, ivV, fxV, fxV, hq]
 refine g3 _ ?_
 refine aAv ?_
 refine aAa fun K4 g4 => ?_
 refine aAb fun os => ?_
 try simp (disch := omega) only [xq, simprocAttr, dyV, ivV, fxV, fxV, hq]
 refine g4 _ ?_
 refine aAf (by first | rfl | assumption) (fun c1 => ?_) (fun c1 => ?_)
 ·try simp only [xn] at c1
  refine aAa fun K5 g5 => ?_
  refine aAb fun os => ?_
  try simp (disch := omega) only [xq, simprocAttr, dyV, ivV, fxV, fxV, hq]
  refine cxo (h1.1) ?_
  try simp (disch := omega) only [xq, simprocAttr, dyV, ivV, fxV, fxV, hq]
  refine cxo (h2.1) ?_
  try simp (disch := omega) only [xq, simprocAttr, dyV, ivV, fxV, fxV, hq]
  refine cxo (h3.1) ?_
  try simp (disch := omega) only [xq, simprocAttr, dyV, ivV, fxV, fxV, hq]
  refine cxo (h4.1) ?_
  try simp (disch := omega) only [xq, simprocAttr, dyV, ivV, fxV, fxV, hq]
  refine g5 _ ?_
  refine aAe ?_
  simp only [aAm, aAg, reduceIte, Nat.reduceEqDiff]
  simp only [endX, resX, resV, Tryz.results101]
  try simp (disch := omega) only [xq, simprocAttr, dyV, ivV, fxV, fxV, hq]
  first | done | rfl
 ·exact absurd c1 (by decide)
theorem aHq (t : D) (p : Nat) (hin : t.av <= (aAo 2 : Rat)) (hp : 8 <= p /\ p <= 4096) (h : bl t.m <= 66000 /\ ae t <= 40000) : AC Tryz.prog TabW 60 [.lit (.int .i64 2), dyV t, .lit (.int .i64 ((p : Nat) : Int))] (ivV (rawQ 2 t p)) /\ (ib (rawQ 2 t p) <= 16300 /\ ie (rawQ 2 t p) <= 12900000) := by
 have h1 := aFc t (p + 64) (by omega)
 obtain ⟨t1, t2⟩ := aCs (n := 2) (q := p + 64) (t := t) (by decide) (by omega) (by omega) hin
 have hr : rawQ 2 t p = ⟨(anyQ (aAw 2 t (p + 64)).lo (p + 8)).lo, (anyQ (aAw 2 t (p + 64)).hi (p + 8)).hi⟩ := rfl
 rw [hr]
 clear hr hin
 generalize aAw 2 t (p + 64) = u at *
 have hu := aBe u
 have h2 := aCj u.lo (p + 8) (by omega)
 have h3 := aCj u.hi (p + 8) (by omega)
 have hp8 : ((p : Nat) : Int) + 8 = ((p + 8 : Nat) : Int) := rfl
 have hp64 : ((p : Nat) : Int) + 64 = ((p + 64 : Nat) : Int) := rfl
 have z2 := aBe (anyQ u.lo (p + 8))
 have z3 := aBe (anyQ u.hi (p + 8))
 have z4 := mk_b (a := (anyQ u.lo (p + 8)).lo) (b := (anyQ u.hi (p + 8)).hi) (B := 16300) (E := 12900000) (by omega) (by omega)
 refine ⟨?_, z4⟩
 clear z2 z3 z4
 generalize anyQ u.lo (p + 8) = A at *
 generalize anyQ u.hi (p + 8) = Bq at *
 refine aAd Tryz.func60 rfl (by kernel_rfl) aAc Tryz.mixed rfl rfl (by kernel_rfl) ?_
 simp only [aAl, Tryz.ntmps60, dyV, ivV, fxV, fxV]
 refine aAa fun K1 g1 => ?_
 refine aAb fun os => ?_
 try simp (disch := omega) only [xq, simprocAttr, dyV, ivV, fxV, fxV, hp8, hp64]
 refine g1 _ ?_
 refine aAa fun K2 g2 => ?_
 refine aAb fun os => ?_
 try simp (disch := omega) only [xq, simprocAttr, dyV, ivV, fxV, fxV, hp8, hp64]
 refine cxo (h1.1) ?_
 try simp (disch := omega) only [xq, simprocAttr, dyV, ivV, fxV, fxV, hp8, hp64]
 refine g2 _ ?_
 refine aAa fun K3 g3 => ?_
 refine aAB (by kernel_rfl) fun os => ?_
 try simp (disch := omega) only [xq, simprocAttr, dyV, ivV, fxV, fxV, hp8, hp64]
 refine cxd (h2.1) ?_
 try simp (disch := omega) only [xq, simprocAttr, dyV, ivV, fxV, fxV, hp8, hp64]
 refine cxd (h3.1) ?_
 try simp (disch := omega) only [xq, simprocAttr, dyV, ivV, fxV, fxV, hp8, hp64]
 refine g3 _ ?_
 refine aAe ?_
 simp only [endX, resX, resV, Tryz.results60]
 try simp (disch := omega) only [xq, simprocAttr, dyV, ivV, fxV, fxV, hp8, hp64]
 first | done | rfl
theorem aFe  : AC Tryz.prog TabW 56 [.lit (.int .i64 10)] (dyV (intD (aAo 10 : Int))) := by
 have h1 := aB4 4800 (by omega)
 refine aAd Tryz.func56 rfl (by kernel_rfl) aAc Tryz.mixed rfl rfl (by kernel_rfl) ?_
 simp only [aAl, Tryz.ntmps56, dyV, ivV, fxV, fxV]
 refine aAa fun K1 g1 => ?_
 refine aAb fun os => ?_
 try simp (disch := omega) only [xq, simprocAttr, dyV, ivV, fxV, fxV]
 refine g1 _ ?_
 refine aAa fun K2 g2 => ?_
 refine aAa fun K3 g3 => ?_
 refine aAb fun os => ?_
 try simp (disch := omega) only [xq, simprocAttr, dyV, ivV, fxV, fxV]
 refine g3 _ ?_
 refine aAv ?_
 refine aAa fun K4 g4 => ?_
 refine aAb fun os => ?_
 try simp (disch := omega) only [xq, simprocAttr, dyV, ivV, fxV, fxV]
 refine g4 _ ?_
 refine aAf (by first | rfl | assumption) (fun c1 => ?_) (fun c1 => ?_)
 ·exact absurd c1 (by decide)
 ·try simp only [xn] at c1
  refine aAa fun K5 g5 => ?_
  refine aAb fun os => ?_
  try simp (disch := omega) only [xq, simprocAttr, dyV, ivV, fxV, fxV]
  refine g5 _ ?_
  refine aAf (by first | rfl | assumption) (fun c2 => ?_) (fun c2 => ?_)
  ·try simp only [xn] at c2
   refine aAa fun K6 g6 => ?_
   refine aAb fun os => ?_
   try simp (disch := omega) only [xq, simprocAttr, dyV, ivV, fxV, fxV]
   refine cxo (h1.1) ?_
   try simp (disch := omega) only [xq, simprocAttr, dyV, ivV, fxV, fxV]
   refine g6 _ ?_
   refine aAe ?_
   simp only [aAm, aAg, reduceIte, Nat.reduceEqDiff]
   simp only [endX, resX, resV, Tryz.results56]
   try simp (disch := omega) only [xq, simprocAttr, dyV, ivV, fxV, fxV]
   first | done | rfl
  ·exact absurd c2 (by decide)
theorem aEI (t : D) (q : Nat) (h : bl t.m <= 66000 /\ ae t <= 40000 /\ 8 <= q /\ q <= 5000) : AC Tryz.prog TabW 101 [.lit (.int .i64 10), dyV t, .lit (.int .i64 ((q : Nat) : Int))] (ivV (aAw 10 t q)) /\ (ib (aAw 10 t q) <= 66000 /\ ie (aAw 10 t q) <= 600000) := by
 have h1 := aEZ t (by omega)
 have h2 := aMo (q + 32) (by omega)
 have h3 := aG5 (aFG (q + 32)) (q + 32) (by omega)
 have hq : ((q : Nat) : Int) + 32 = ((q + 32 : Nat) : Int) := rfl
 have hl : lnVQ 10 q = aBt (aFG (q + 32)) (q + 32) := rfl
 have hr : aAw 10 t q = aAF (aAn t) (aBt (aFG (q + 32)) (q + 32)) q := rfl
 rw [hr]
 clear hr hl
 generalize aFG (q + 32) = L at *
 have h4 := aCP (aAn t) (aBt L (q + 32)) q (by omega)
 refine ⟨?_, by omega⟩
 refine aAd Tryz.func101 rfl (by kernel_rfl) aAc Tryz.mixed rfl rfl (by kernel_rfl) ?_
 simp only [aAl, Tryz.ntmps101, dyV, ivV, fxV, fxV]
 repeat' first
  | refine aAa fun K g => ?_
  | refine goK (by assumption) ?_
  | refine aAv ?_
  | ((first | refine aAk ?_ | refine aAe ?_) <;> try simp only [aAm, aAg, reduceIte, Nat.reduceEqDiff])
  | ((first
  | refine aAU rfl fun os => ?_
  | refine cxo (h1.1) ?_
  | refine cxo (h2.1) ?_
  | refine cxo (h3.1) ?_
  | refine cxo (h4.1) ?_
  | simp only [endX, resX, resV, Tryz.results101]) <;> try (simp (disch := omega) only [xq, simprocAttr, dyV, ivV, fxV, fxV, hq]))
  | (refine aAf (by first | rfl | assumption) (fun c => ?_) (fun c => ?_) <;> first | exact absurd c (by decide) | ((try rw [c]); try simp only [xn] at c))
  | (first | done | rfl
     done)
theorem aGw (t : D) (p : Nat) (hin : t.av <= (aAo 10 : Rat)) (hp : 8 <= p /\ p <= 4096) (h : bl t.m <= 66000 /\ ae t <= 40000) : AC Tryz.prog TabW 60 [.lit (.int .i64 10), dyV t, .lit (.int .i64 ((p : Nat) : Int))] (ivV (rawQ 10 t p)) /\ (ib (rawQ 10 t p) <= 16300 /\ ie (rawQ 10 t p) <= 12900000) := by
 have h1 := aEI t (p + 64) (by omega)
 obtain ⟨t1, t2⟩ := aCs (n := 10) (q := p + 64) (t := t) (by decide) (by omega) (by omega) hin
 have hr : rawQ 10 t p = ⟨(anyQ (aAw 10 t (p + 64)).lo (p + 8)).lo, (anyQ (aAw 10 t (p + 64)).hi (p + 8)).hi⟩ := rfl
 rw [hr]
 clear hr hin
 generalize aAw 10 t (p + 64) = u at *
 have hu := aBe u
 have h2 := aCj u.lo (p + 8) (by omega)
 have h3 := aCj u.hi (p + 8) (by omega)
 have hp8 : ((p : Nat) : Int) + 8 = ((p + 8 : Nat) : Int) := rfl
 have hp64 : ((p : Nat) : Int) + 64 = ((p + 64 : Nat) : Int) := rfl
 have z2 := aBe (anyQ u.lo (p + 8))
 have z3 := aBe (anyQ u.hi (p + 8))
 have z4 := mk_b (a := (anyQ u.lo (p + 8)).lo) (b := (anyQ u.hi (p + 8)).hi) (B := 16300) (E := 12900000) (by omega) (by omega)
 refine ⟨?_, z4⟩
 clear z2 z3 z4
 generalize anyQ u.lo (p + 8) = A at *
 generalize anyQ u.hi (p + 8) = Bq at *
 refine aAd Tryz.func60 rfl (by kernel_rfl) aAc Tryz.mixed rfl rfl (by kernel_rfl) ?_
 simp only [aAl, Tryz.ntmps60, dyV, ivV, fxV, fxV]
 refine aAa fun K1 g1 => ?_
 refine aAb fun os => ?_
 try simp (disch := omega) only [xq, simprocAttr, dyV, ivV, fxV, fxV, hp8, hp64]
 refine g1 _ ?_
 refine aAa fun K2 g2 => ?_
 refine aAb fun os => ?_
 try simp (disch := omega) only [xq, simprocAttr, dyV, ivV, fxV, fxV, hp8, hp64]
 refine cxo (h1.1) ?_
 try simp (disch := omega) only [xq, simprocAttr, dyV, ivV, fxV, fxV, hp8, hp64]
 refine g2 _ ?_
 refine aAa fun K3 g3 => ?_
 refine aAB (by kernel_rfl) fun os => ?_
 try simp (disch := omega) only [xq, simprocAttr, dyV, ivV, fxV, fxV, hp8, hp64]
 refine cxd (h2.1) ?_
 try simp (disch := omega) only [xq, simprocAttr, dyV, ivV, fxV, fxV, hp8, hp64]
 refine cxd (h3.1) ?_
 try simp (disch := omega) only [xq, simprocAttr, dyV, ivV, fxV, fxV, hp8, hp64]
 refine g3 _ ?_
 refine aAe ?_
 simp only [endX, resX, resV, Tryz.results60]
 try simp (disch := omega) only [xq, simprocAttr, dyV, ivV, fxV, fxV, hp8, hp64]
 first | done | rfl
end
section
open Go.RowKit
theorem aDw {n : Nat} {t : D} (h1 : ¬ 0 < cmpD t (intD (aAo n : Int))) (h2 : aAR n t = false) : t.av <= (aAo n : Rat) := by
 have a := aFw n t
 have b := aGN n t
 rw [h2] at b
 have b := of_decide_eq_false b.symm
 have a := a.1 (by omega)
 rw [aBh]
 split <;> grind
theorem aDq (n : Nat) : negD (intD (aAo n : Int)) = intD (-(aAo n : Int)) := by
 refine aOI (aCz _ _ _) (aFI _) ?_
 rw [aGj, aEw, aEw, Rat.intCast_neg]
end
section
set_option maxRecDepth 10000
set_option maxHeartbeats 1000000
open Go.RowKit
def aTx (v : Iv) (why : Int) (want : Iv) (no : Int) (p : Int) : Bool := if no = 0 then decide (why = 0) && aEr v want p else decide (why = no) && aKH v aAp
theorem aMe {a b : Iv × Int} {p : Int} (h : aKs a b p) : aTx a.1 a.2 b.1 b.2 p = true := by
 obtain ⟨h1, h2, h3⟩ := h
 unfold aTx
 by_cases h0 : b.2 = 0
 · rw [if_pos h0]
   have := h3 (by rw [h1]; exact h0)
   rw [(aMu _ _ _).2 this, h1, h0]; rfl
 · rw [if_neg h0]
   have := h2 (by rw [h1]; exact h0)
   rw [(aIf _ _).2 this, h1]; simp
theorem aOr (v : Iv) (why : Int) (want : Iv) (no : Int) (p : Int) (h : ib v <= 65536 /\ ie v <= 32768 /\ ib want <= 2000000 /\ ie want <= 600000000000000) (hp : p <= 1000000000000 /\ -1000000000000 <= p \/ no ≠ 0 \/ why ≠ 0) : AC Tryz.prog TabW 15 [ivV v, .lit (.int .i64 why), ivV want, .lit (.int .i64 no), .lit (.int .i64 p)] (.lit (.bool (aTx v why want no p))) := by
 have hz := aBe v
 have z0 := aE2
 have h1 := aHc v aAp (by omega)
 have h2 : (p <= 1000000000000 /\ -1000000000000 <= p) -> AC Tryz.prog TabW 62 [ivV v, ivV want, .lit (.int .i64 p)] (.lit (.bool (aEr v want p))) := fun hp => aJJ v want p (by omega) (fun _ => by omega) hp
 unfold aTx
 generalize aKH v aAp = b1 at *
 generalize aEr v want p = b2 at *
 refine aAd Tryz.func15 rfl (by kernel_rfl) aAc Tryz.mixed rfl rfl (by kernel_rfl) ?_
 simp only [aAl, Tryz.ntmps15, dyV, ivV, fxV, fxV]
 repeat' first
  | refine aAa fun K g => ?_
  | refine goK (by assumption) ?_
  | ((first | refine aAk ?_ | refine aAe ?_) <;> try simp only [aAm, aAg, reduceIte, Nat.reduceEqDiff])
  | ((first
  | refine aAU rfl fun os => ?_
  | refine aB7 ?_
  | refine cxo (h1) ?_
  | refine cxo (h2 (by omega)) ?_
  | simp only [endX, resX, resV, Tryz.results15]) <;> try (simp (disch := omega) only [xq, simprocAttr, dyV, ivV, fxV, fxV]))
  | (refine gx (fun c => ?_) (fun c => ?_) <;> first | exact absurd c (by decide) | ((try rw [c]); (try simp only [xn] at c); try (simp (disch := omega) only [xq, simprocAttr, dyV, ivV, fxV, fxV])))
  | (refine aAf (by first | rfl | assumption) (fun c => ?_) (fun c => ?_) <;> first | exact absurd c (by decide) | ((try rw [c]); try simp only [xn] at c))
  | (first | (simp [*]; done) | (simp_all; done)
     done)
end
end Go.Proofs.YtgdkokgeldnliaaGreatDoor
