/- Contracts of functions and plain lemmas that the laws of this seat lean on. -/
import Derived.Test.YtgdkokgeldnliaaGreatDoorKEfaa
import Derived.Test.YtgdkokgeldnliaaGreatDoorKEfab
import Derived.Test.YtgdkokgeldnliaaGreatDoorKEfac
import Derived.Test.YtgdkokgeldnliaaGreatDoorKEfae
import Derived.Test.YtgdkokgeldnliaaGreatDoorKEfaf
import Derived.Test.YtgdkokgeldnliaaGreatDoorKEfag
import Derived.Test.YtgdkokgeldnliaaGreatDoorKEfah
import Derived.Test.YtgdkokgeldnliaaGreatDoorKEfai
import Derived.Test.YtgdkokgeldnliaaGreatDoorKEfaj
import Derived.Test.YtgdkokgeldnliaaGreatDoorKEfak
import Derived.Test.YtgdkokgeldnliaaGreatDoorKEfan
import Derived.Test.YtgdkokgeldnliaaGreatDoorKEfap
import Derived.Test.YtgdkokgeldnliaaGreatDoorKEfaq
import Derived.Test.YtgdkokgeldnliaaGreatDoorKEfar
import Derived.Test.YtgdkokgeldnliaaGreatDoorKEfat
import Derived.Test.YtgdkokgeldnliaaGreatDoorKEfau
import Derived.Test.YtgdkokgeldnliaaGreatDoorRows
import Derived.WalkKit
import Derived.WalkSpells
import Derived.WalkLawsBesides
import Derived.Lib.Hide
import Derived.Deep.QuietTactic
import Derived.BigQuiet
import Derived.StillTail
import Derived.Below
import Derived.Deep.MidRow
import Derived.Laws.Tables
import Derived.Laws.CopyRow
import Derived.IntWalk
import Derived.Test.YtgdkokgeldnliaaGreatDoorShelf
import Derived.Lib.BitFns
import Derived.Lib.ItoaNum
import Derived.Lib.TrailingZeros
import Derived.Deep.DeepCutAuto
import Derived.Deep.CutBlock
import Derived.Laws.AppendOwn
import Derived.Laws.AppendOwnNone
import Derived.Laws.CopyOwn
import Derived.RegionTactic
namespace Go.Proofs.YtgdkokgeldnliaaGreatDoor
set_option linter.unusedSimpArgs false
set_option linter.unusedVariables false
set_option linter.unusedSectionVars false
set_option linter.constructorNameAsVariable false
set_option linter.unnecessarySimpa false
section
set_option maxRecDepth 10000
set_option maxHeartbeats 1000000
open Go.RowKit
theorem aOC (v : Iv) (h : ib v <= 50000000 /\ ie v <= 1000000000000000) : AC Tryz.prog TabW 144 [ivV v] (ivV (aCd v)) /\ (ib (aCd v) <= ib v /\ ie (aCd v) <= ie v + ib v) := by
 refine ⟨?_, aH9 v⟩
 have hr : aCd v = ⟨negD v.hi, negD v.lo⟩ := rfl
 rw [hr]
 clear hr
 have hv := aBe v
 refine aAd Tryz.func144 rfl (by kernel_rfl) aAc Tryz.mixed rfl rfl (by kernel_rfl) ?_
 simp only [aAl, Tryz.ntmps144, dyV, ivV, fxV]
 refine aAa fun K1 g1 => ?_
 refine aAb fun os => ?_
 try simp (disch := omega) only [xq, simprocAttr, dyV, ivV, fxV]
 refine g1 _ ?_
 refine aAa fun K2 g2 => ?_
 refine aAB (by kernel_rfl) fun os => ?_
 try simp (disch := omega) only [xq, simprocAttr, dyV, ivV, fxV]
 refine cxdz (aCF _ (by omega)) (fun z1 => ?_)
 try simp (disch := omega) only [xq, simprocAttr, dyV, ivV, fxV]
 refine cxdz (aCF _ (by omega)) (fun z2 => ?_)
 try simp (disch := omega) only [xq, simprocAttr, dyV, ivV, fxV]
 refine g2 _ ?_
 refine aAe ?_
 simp only [endX, resX, resV, Tryz.results144]
 try simp (disch := omega) only [xq, simprocAttr, dyV, ivV, fxV]
 first | done | rfl
theorem aRU (a b : Iv) (p : Int) (h : 4 * ib a + 5 * ib b + ie a + ie b <= 15000000 /\ 0 <= p /\ p <= 1000000000000) : AC Tryz.prog TabW 170 [ivV a, ivV b, .lit (.int .i64 p)] (ivV (aH4 a b p)) /\ (((ib (aH4 a b p) : Nat) : Int) <= max p 0 + 1 /\ ie (aH4 a b p) <= 5 * ie a + 5 * ie b + 9 * ib a + 9 * ib b + p.natAbs + 5) := by
 refine ⟨?_, aOi a b p⟩
 have ha := aBe a
 have hb := aBe b
 have hr : aH4 a b p = aAD ⟨addD a.lo b.lo, addD a.hi b.hi⟩ p := rfl
 have c1 := aDv a.lo b.lo (by omega)
 have c2 := aDv a.hi b.hi (by omega)
 have c3 := mk_b (a := addD a.lo b.lo) (b := addD a.hi b.hi) (B := 30000000) (E := 60000000) (by omega) (by omega)
 have c4 := (aMz ⟨addD a.lo b.lo, addD a.hi b.hi⟩ p (by omega)).1
 rw [hr]
 clear hr
 refine aAd Tryz.func170 rfl (by kernel_rfl) aAc Tryz.mixed rfl rfl (by kernel_rfl) ?_
 simp only [aAl, Tryz.ntmps170, dyV, ivV, fxV]
 refine aAa fun K1 g1 => ?_
 refine aAb fun os => ?_
 try simp (disch := omega) only [xq, simprocAttr, dyV, ivV, fxV]
 refine g1 _ ?_
 refine aAa fun K2 g2 => ?_
 refine aAB (by kernel_rfl) fun os => ?_
 try simp (disch := omega) only [xq, simprocAttr, dyV, ivV, fxV]
 refine cxd (c1.1) ?_
 try simp (disch := omega) only [xq, simprocAttr, dyV, ivV, fxV]
 refine cxd (c2.1) ?_
 try simp (disch := omega) only [xq, simprocAttr, dyV, ivV, fxV]
 refine cxd (c4) ?_
 try simp (disch := omega) only [xq, simprocAttr, dyV, ivV, fxV]
 refine g2 _ ?_
 refine aAe ?_
 simp only [endX, resX, resV, Tryz.results170]
 try simp (disch := omega) only [xq, simprocAttr, dyV, ivV, fxV]
 first | done | rfl
theorem aRW (a b : Iv) (p : Int) (h : 4 * ib a + 6 * ib b + ie a + ie b <= 15000000 /\ 0 <= p /\ p <= 1000000000000) : AC Tryz.prog TabW 139 [ivV a, ivV b, .lit (.int .i64 p)] (ivV (aFn a b p)) /\ (((ib (aFn a b p) : Nat) : Int) <= max p 0 + 1 /\ ie (aFn a b p) <= 5 * ie a + 5 * ie b + 9 * ib a + 14 * ib b + p.natAbs + 5) := by
 refine ⟨?_, aOq a b p⟩
 have hr : aFn a b p = aH4 a (aCd b) p := rfl
 have c1 := aOC b (by omega)
 have c2 := (aRU a (aCd b) p (by omega)).1
 rw [hr]
 clear hr
 refine aAd Tryz.func139 rfl (by kernel_rfl) aAc Tryz.mixed rfl rfl (by kernel_rfl) ?_
 simp only [aAl, Tryz.ntmps139, dyV, ivV, fxV]
 refine aAa fun K1 g1 => ?_
 refine aAb fun os => ?_
 try simp (disch := omega) only [xq, simprocAttr, dyV, ivV, fxV]
 refine g1 _ ?_
 refine aAa fun K2 g2 => ?_
 refine aAB (by kernel_rfl) fun os => ?_
 try simp (disch := omega) only [xq, simprocAttr, dyV, ivV, fxV]
 refine cxd (c1.1) ?_
 try simp (disch := omega) only [xq, simprocAttr, dyV, ivV, fxV]
 refine cxd (c2) ?_
 try simp (disch := omega) only [xq, simprocAttr, dyV, ivV, fxV]
 refine g2 _ ?_
 refine aAe ?_
 simp only [endX, resX, resV, Tryz.results139]
 try simp (disch := omega) only [xq, simprocAttr, dyV, ivV, fxV]
 first | done | rfl
end
section
set_option maxRecDepth 10000
set_option maxHeartbeats 4000000
open Go.RowKit
theorem aTh (d : D) : 0 <= (aA6 d).v := by
 unfold aA6 D.v
 have e : sg false = 1 := rfl
 dsimp only
 rw [e]
 have := Rat.mul_nonneg (show (0 : Rat) <= (d.m : Rat) from Rat.natCast_nonneg) (Rat.le_of_lt (aAz d.e))
 grind
theorem aTg {d : D} (h : topD d < -8) : (aA6 d).v * 256 <= 1 := by
 have h1 := aFk d
 have h2 := aA7 (show topD d + 1 <= -((8 : Nat) : Int) by omega)
 have h3 := (aCi 8 (k := 256) rfl).2
 have e : (aA6 d).v = d.av := by
   unfold aA6 D.v D.av
   have e : sg false = 1 := rfl
   dsimp only
   rw [e]; grind
 rw [e]
 have k2 : ((256 : Nat) : Rat) = 256 := rfl
 rw [k2] at h3
 grind
theorem aDD (t : D) (p : Nat) (h : (topD t <= 13 \/ t.m = 0) /\ p <= 6900 /\ bl t.m <= 900000 /\ ae t <= 2000000) : AC Tryz.prog TabW 102 [dyV t, .lit (.int .i64 ((p : Nat) : Int))] (ivV (aBF t p)) /\ (ib (aBF t p) <= 16300 /\ ie (aBF t p) <= 66000000) := by
 have o1 := aCw t (by omega)
 have ht := aQU h.1
 have hr : aBF t p = if (oneD t).m = 0 then aAp else
   if -8 <= topD (oneD t) then aFn (anyQ (oneD t) (p + 24)) (aAn (intD 1)) ((p : Int) + 40) else
   if (oneD t).neg then aCd (divR (aAF (aAn (aA6 (oneD t))) (aCb (aBc (aA6 (oneD t)) (p + 64)) (p + 64) 1) ((p : Int) + 64)) (aAN (aA6 (oneD t)) p) ((p : Int) + 64))
   else aAF (aAn (aA6 (oneD t))) (aCb (aBc (aA6 (oneD t)) (p + 64)) (p + 64) 1) ((p : Int) + 64) := rfl
 rw [hr]
 clear hr
 generalize oneD t = x at *
 have px := aOj x
 have hzr := aFN x (by omega)
 have htp := aGf x (by omega)
 have ha := aCj x (p + 24) (by omega)
 have i1 := aEj (intD 1)
 have i2 := aAW 1
 have i3 : bl (1 : Int).natAbs = 1 := by decide
 have hl := aRW (anyQ x (p + 24)) (aAn (intD 1)) ((p : Int) + 40) (by omega)
 have hp := aGn (aA6 x) p rfl (by omega) (by omega) (by omega)
 obtain ⟨e0, e1, e2⟩ := aDp (a := aA6 x) (p := p) rfl
 have e3 := aJj ⟨e0, e1, e2⟩
 have n1 := aPg e0
 have n2 := aPg (show 0 < (aAN (aA6 x) p).hi.v by grind)
 clear e0 e1 e2 e3
 have hf := aGz (aA6 x) (p + 64) (by omega)
 have hpt := aEZ (aA6 x) (by omega)
 have hsm : topD x < -8 -> aBc (aA6 x) (p + 64) * 256 <= 2 ^ (p + 64) := fun h => aLc (aTh x) (aTg h)
 have hS := fun h => aGy (aBc (aA6 x) (p + 64)) (p + 64) 1 (hsm h) (by omega) (by omega)
 have hq : ∀ F W : Nat, aCb F W 1 = ⟨aAL false (sQ F W 1 (nQ F W 1)) (-(W : Int)), aAL false (sQ F W 1 (nQ F W 1) + (2 * nQ F W 1 + 8)) (-(W : Int))⟩ := fun _ _ => rfl
 rw [hq]
 clear hq hsm
 generalize aBc (aA6 x) (p + 64) = F at *
 generalize sQ F (p + 64) 1 (nQ F (p + 64) 1) + (2 * nQ F (p + 64) 1 + 8) = Hq at *
 generalize sQ F (p + 64) 1 (nQ F (p + 64) 1) = Lq at *
 have hsp := fun h => aHt Lq Hq (p + 64) (by have := hS h; omega)
 generalize (⟨aAL false Lq (-((p + 64 : Nat) : Int)), aAL false Hq (-((p + 64 : Nat) : Int))⟩ : Iv) = Sp at *
 have hT := fun h => aCP (aAn (aA6 x)) Sp ((p : Int) + 64) (by have := hS h; have := hsp h; omega)
 generalize aAn (aA6 x) = Pt at *
 generalize aAF Pt Sp ((p : Int) + 64) = Tm at *
 generalize aAN (aA6 x) p = Pq at *
 have hD := fun h => aOD Tm Pq ((p : Int) + 64) n1 n2 (by have := hS h; have := hsp h; have := hT h; omega)
 generalize divR Tm Pq ((p : Int) + 64) = Dv at *
 have hN := fun h => aOC Dv (by have := hS h; have := hsp h; have := hT h; have := hD h; omega)
 generalize aCd Dv = Tn at *
 generalize anyQ x (p + 24) = Aq at *
 have hon := aL5
 generalize aAn (intD 1) = On at *
 generalize aFn Aq On ((p : Int) + 40) = Ls at *
 have hw : ((p : Nat) : Int) + 64 = ((p + 64 : Nat) : Int) := rfl
 have hw2 : ((p : Nat) : Int) + 24 = ((p + 24 : Nat) : Int) := rfl
 refine ⟨?_, by
   split
   · exact ⟨by decide, by decide⟩
   · split
     · omega
     · rename_i hh
       have := hS (by omega); have := hsp (by omega); have := hT (by omega); have := hD (by omega); have := hN (by omega)
       split <;> omega⟩
 refine aAd Tryz.func102 rfl (by kernel_rfl) aAc Tryz.mixed rfl rfl (by kernel_rfl) ?_
 simp only [aAl, Tryz.ntmps102, dyV, ivV, fxV, fxV]
 repeat' first
  | refine aAa fun K g => ?_
  | refine goK (by assumption) ?_
  | ((first | refine aAk ?_ | refine aAe ?_) <;> try simp only [aAm, aAg, reduceIte, Nat.reduceEqDiff])
  | ((first
  | refine aAU rfl fun os => ?_
  | refine aCR rfl (by kernel_rfl) fun os => ?_
  | refine cxo (o1.1) ?_
  | refine cxo (hzr) ?_
  | refine cxo (htp.1) ?_
  | refine cxo (ha.1) ?_
  | refine cxo (hon) ?_
  | refine cxo (hl.1) ?_
  | refine cxo (hf) ?_
  | refine cxo ((hS (by omega)).1) ?_
  | refine cxo (hpt.1) ?_
  | refine cxo ((hsp (by omega)).1) ?_
  | refine cxo ((hT (by omega)).1) ?_
  | refine cxd (hp.1) ?_
  | refine cxd ((hD (by omega)).1) ?_
  | refine cxd ((hN (by omega)).1) ?_
  | simp only [endX, resX, resV, Tryz.results102]) <;> try (simp (disch := omega) only [xq, simprocAttr, dyV, ivV, fxV, fxV, aA6, hw, hw2]))
  | (refine aAf (by first | rfl | assumption) (fun c => ?_) (fun c => ?_) <;> first | exact absurd c (by decide) | ((try rw [c]); try simp only [xn] at c))
  | (repeat (first | rw [if_pos (by first | assumption | omega)] | rw [if_neg (by first | assumption | omega | simp [*])])
     first | done | rfl | (simp [*]; done)
     done)
end
section
set_option maxRecDepth 10000
set_option maxHeartbeats 4000000
open Go.RowKit
theorem aCg (f : Int) : AC Tryz.prog TabW 14 [.lit (.int .u8 f)] (.lit (.bool (decide (1 <= f) && decide (f <= 6)))) := by
 refine aAd Tryz.func14 rfl (by kernel_rfl) aAc Tryz.mixed rfl rfl (by kernel_rfl) ?_
 simp only [aAl, Tryz.ntmps14, dyV, ivV, fxV, fxV]
 refine aAa fun K1 g1 => ?_
 refine aAb fun os => ?_
 try simp (disch := omega) only [xq, simprocAttr, dyV, ivV, fxV, fxV]
 refine g1 _ ?_
 refine aAa fun K2 g2 => ?_
 refine aAx ?_
 try simp (disch := omega) only [xq, simprocAttr, dyV, ivV, fxV, fxV]
 refine gx (fun c1 => ?_) (fun c1 => ?_)
 ·rw [c1]
  try simp only [xn] at c1
  try simp (disch := omega) only [xq, simprocAttr, dyV, ivV, fxV, fxV]
  refine g2 _ ?_
  refine aAe ?_
  simp only [endX, resX, resV, Tryz.results14]
  try simp (disch := omega) only [xq, simprocAttr, dyV, ivV, fxV, fxV]
  simp [*]
 ·rw [c1]
  try simp only [xn] at c1
  try simp (disch := omega) only [xq, simprocAttr, dyV, ivV, fxV, fxV]
  refine g2 _ ?_
  refine aAe ?_
  simp only [endX, resX, resV, Tryz.results14]
  try simp (disch := omega) only [xq, simprocAttr, dyV, ivV, fxV, fxV]
  simp [*]
theorem aIT  : AC Tryz.prog TabW 57 [.lit (.int .u8 1)] (.lit (.int .i64 0)) := by
 refine aAd Tryz.func57 rfl (by kernel_rfl) aAc Tryz.mixed rfl rfl (by kernel_rfl) ?_
 simp only [aAl, Tryz.ntmps57, dyV, ivV, fxV, fxV]
 repeat' first
  | refine aAa fun K g => ?_
  | refine goK (by assumption) ?_
  | refine aAv ?_
  | ((first | refine aAk ?_ | refine aAe ?_) <;> try simp only [aAm, aAg, reduceIte, Nat.reduceEqDiff])
  | ((first
  | refine aAU rfl fun os => ?_
  | simp only [endX, resX, resV, Tryz.results57]) <;> try (simp (disch := omega) only [xq, simprocAttr, dyV, ivV, fxV, fxV]))
  | (refine aAf (by first | rfl | assumption) (fun c => ?_) (fun c => ?_) <;> first | exact absurd c (by decide) | ((try rw [c]); try simp only [xn] at c))
  | (first | done | rfl
     done)
theorem aIS  : AC Tryz.prog TabW 57 [.lit (.int .u8 2)] (.lit (.int .i64 2)) := by
 refine aAd Tryz.func57 rfl (by kernel_rfl) aAc Tryz.mixed rfl rfl (by kernel_rfl) ?_
 simp only [aAl, Tryz.ntmps57, dyV, ivV, fxV, fxV]
 refine aAa fun K1 g1 => ?_
 refine aAb fun os => ?_
 try simp (disch := omega) only [xq, simprocAttr, dyV, ivV, fxV, fxV]
 refine g1 _ ?_
 refine aAa fun K2 g2 => ?_
 refine aAa fun K3 g3 => ?_
 refine aAb fun os => ?_
 try simp (disch := omega) only [xq, simprocAttr, dyV, ivV, fxV, fxV]
 refine g3 _ ?_
 refine aAv ?_
 refine aAa fun K4 g4 => ?_
 refine aAa fun K5 g5 => ?_
 refine aAb fun os => ?_
 try simp (disch := omega) only [xq, simprocAttr, dyV, ivV, fxV, fxV]
 refine g5 _ ?_
 refine aAf (by first | rfl | assumption) (fun c1 => ?_) (fun c1 => ?_)
 ·try simp only [xn] at c1
  refine aAk ?_
  simp only [aAm, aAg, reduceIte, Nat.reduceEqDiff]
  refine g4 _ ?_
  refine aAf (by first | rfl | assumption) (fun c2 => ?_) (fun c2 => ?_)
  ·try simp only [xn] at c2
   refine aAa fun K6 g6 => ?_
   refine aAb fun os => ?_
   try simp (disch := omega) only [xq, simprocAttr, dyV, ivV, fxV, fxV]
   refine g6 _ ?_
   refine aAe ?_
   simp only [aAm, aAg, reduceIte, Nat.reduceEqDiff]
   simp only [endX, resX, resV, Tryz.results57]
   try simp (disch := omega) only [xq, simprocAttr, dyV, ivV, fxV, fxV]
   first | done | rfl
  ·exact absurd c2 (by decide)
 ·exact absurd c1 (by decide)
theorem aIR  : AC Tryz.prog TabW 57 [.lit (.int .u8 3)] (.lit (.int .i64 10)) := by
 refine aAd Tryz.func57 rfl (by kernel_rfl) aAc Tryz.mixed rfl rfl (by kernel_rfl) ?_
 simp only [aAl, Tryz.ntmps57, dyV, ivV, fxV, fxV]
 repeat' first
  | refine aAa fun K g => ?_
  | refine goK (by assumption) ?_
  | refine aAv ?_
  | ((first | refine aAk ?_ | refine aAe ?_) <;> try simp only [aAm, aAg, reduceIte, Nat.reduceEqDiff])
  | ((first
  | refine aAU rfl fun os => ?_
  | simp only [endX, resX, resV, Tryz.results57]) <;> try (simp (disch := omega) only [xq, simprocAttr, dyV, ivV, fxV, fxV]))
  | (refine aAf (by first | rfl | assumption) (fun c => ?_) (fun c => ?_) <;> first | exact absurd c (by decide) | ((try rw [c]); try simp only [xn] at c))
  | (first | done | rfl
     done)
theorem aIQ  : AC Tryz.prog TabW 57 [.lit (.int .u8 4)] (.lit (.int .i64 0)) := by
 refine aAd Tryz.func57 rfl (by kernel_rfl) aAc Tryz.mixed rfl rfl (by kernel_rfl) ?_
 simp only [aAl, Tryz.ntmps57, dyV, ivV, fxV, fxV]
 repeat' first
  | refine aAa fun K g => ?_
  | refine goK (by assumption) ?_
  | refine aAv ?_
  | ((first | refine aAk ?_ | refine aAe ?_) <;> try simp only [aAm, aAg, reduceIte, Nat.reduceEqDiff])
  | ((first
  | refine aAU rfl fun os => ?_
  | simp only [endX, resX, resV, Tryz.results57]) <;> try (simp (disch := omega) only [xq, simprocAttr, dyV, ivV, fxV, fxV]))
  | (refine aAf (by first | rfl | assumption) (fun c => ?_) (fun c => ?_) <;> first | exact absurd c (by decide) | ((try rw [c]); try simp only [xn] at c))
  | (first | done | rfl
     done)
theorem aIP  : AC Tryz.prog TabW 57 [.lit (.int .u8 5)] (.lit (.int .i64 2)) := by
 refine aAd Tryz.func57 rfl (by kernel_rfl) aAc Tryz.mixed rfl rfl (by kernel_rfl) ?_
 simp only [aAl, Tryz.ntmps57, dyV, ivV, fxV, fxV]
 refine aAa fun K1 g1 => ?_
 refine aAb fun os => ?_
 try simp (disch := omega) only [xq, simprocAttr, dyV, ivV, fxV, fxV]
 refine g1 _ ?_
 refine aAa fun K2 g2 => ?_
 refine aAa fun K3 g3 => ?_
 refine aAb fun os => ?_
 try simp (disch := omega) only [xq, simprocAttr, dyV, ivV, fxV, fxV]
 refine g3 _ ?_
 refine aAv ?_
 refine aAa fun K4 g4 => ?_
 refine aAa fun K5 g5 => ?_
 refine aAb fun os => ?_
 try simp (disch := omega) only [xq, simprocAttr, dyV, ivV, fxV, fxV]
 refine g5 _ ?_
 refine aAf (by first | rfl | assumption) (fun c1 => ?_) (fun c1 => ?_)
 ·exact absurd c1 (by decide)
 ·try simp only [xn] at c1
  refine aAb fun os => ?_
  try simp (disch := omega) only [xq, simprocAttr, dyV, ivV, fxV, fxV]
  refine g4 _ ?_
  refine aAf (by first | rfl | assumption) (fun c2 => ?_) (fun c2 => ?_)
  ·try simp only [xn] at c2
   refine aAa fun K6 g6 => ?_
   refine aAb fun os => ?_
   try simp (disch := omega) only [xq, simprocAttr, dyV, ivV, fxV, fxV]
   refine g6 _ ?_
   refine aAe ?_
   simp only [aAm, aAg, reduceIte, Nat.reduceEqDiff]
   simp only [endX, resX, resV, Tryz.results57]
   try simp (disch := omega) only [xq, simprocAttr, dyV, ivV, fxV, fxV]
   first | done | rfl
  ·exact absurd c2 (by decide)
theorem aIO  : AC Tryz.prog TabW 57 [.lit (.int .u8 6)] (.lit (.int .i64 10)) := by
 refine aAd Tryz.func57 rfl (by kernel_rfl) aAc Tryz.mixed rfl rfl (by kernel_rfl) ?_
 simp only [aAl, Tryz.ntmps57, dyV, ivV, fxV, fxV]
 repeat' first
  | refine aAa fun K g => ?_
  | refine goK (by assumption) ?_
  | refine aAv ?_
  | ((first | refine aAk ?_ | refine aAe ?_) <;> try simp only [aAm, aAg, reduceIte, Nat.reduceEqDiff])
  | ((first
  | refine aAU rfl fun os => ?_
  | simp only [endX, resX, resV, Tryz.results57]) <;> try (simp (disch := omega) only [xq, simprocAttr, dyV, ivV, fxV, fxV]))
  | (refine aAf (by first | rfl | assumption) (fun c => ?_) (fun c => ?_) <;> first | exact absurd c (by decide) | ((try rw [c]); try simp only [xn] at c))
  | (first | done | rfl
     done)
theorem aIN (t : D) (p : Nat) (hin : t.av <= (aAo 0 : Rat)) (hp : 8 <= p /\ p <= 4096) (h : bl t.m <= 66000 /\ ae t <= 40000) : AC Tryz.prog TabW 59 [.lit (.int .i64 0), dyV t, .lit (.int .i64 ((p : Nat) : Int))] (ivV (aD5 0 t p)) /\ (ib (aD5 0 t p) <= 16300 /\ ie (aD5 0 t p) <= 66000000) := by
 have h1 := aFd t (p + 64) (by omega)
 obtain ⟨t1, t2⟩ := aCs (n := 0) (q := p + 64) (t := t) (by decide) (by omega) (by omega) hin
 have hr : aD5 0 t p = ⟨(aBF (aAw 0 t (p + 64)).lo (p + 8)).lo, (aBF (aAw 0 t (p + 64)).hi (p + 8)).hi⟩ := rfl
 rw [hr]
 clear hr hin
 generalize aAw 0 t (p + 64) = u at *
 have hu := aBe u
 have h2 := aDD u.lo (p + 8) (by omega)
 have h3 := aDD u.hi (p + 8) (by omega)
 have hp8 : ((p : Nat) : Int) + 8 = ((p + 8 : Nat) : Int) := rfl
 have hp64 : ((p : Nat) : Int) + 64 = ((p + 64 : Nat) : Int) := rfl
 have z2 := aBe (aBF u.lo (p + 8))
 have z3 := aBe (aBF u.hi (p + 8))
 have z4 := mk_b (a := (aBF u.lo (p + 8)).lo) (b := (aBF u.hi (p + 8)).hi) (B := 16300) (E := 66000000) (by omega) (by omega)
 refine ⟨?_, z4⟩
 clear z2 z3 z4
 generalize aBF u.lo (p + 8) = A at *
 generalize aBF u.hi (p + 8) = Bq at *
 refine aAd Tryz.func59 rfl (by kernel_rfl) aAc Tryz.mixed rfl rfl (by kernel_rfl) ?_
 simp only [aAl, Tryz.ntmps59, dyV, ivV, fxV, fxV]
 refine aAa fun K1 g1 => ?_
 refine aAb fun os => ?_
 try simp (disch := omega) only [xq, simprocAttr, dyV, ivV, fxV, fxV, hp8, hp64]
 refine g1 _ ?_
 refine aAa fun K2 g2 => ?_
 refine aAb fun os => ?_
 try simp (disch := omega) only [xq, simprocAttr, dyV, ivV, fxV, fxV, hp8, hp64]
 refine cxo (h1.1) ?_
 try simp (disch := omega) only [xq, simprocAttr, dyV, ivV, fxV, fxV, hp8, hp64]
 refine g2 _ ?_
 refine aAa fun K3 g3 => ?_
 refine aAB (by kernel_rfl) fun os => ?_
 try simp (disch := omega) only [xq, simprocAttr, dyV, ivV, fxV, fxV, hp8, hp64]
 refine cxd (h2.1) ?_
 try simp (disch := omega) only [xq, simprocAttr, dyV, ivV, fxV, fxV, hp8, hp64]
 refine cxd (h3.1) ?_
 try simp (disch := omega) only [xq, simprocAttr, dyV, ivV, fxV, fxV, hp8, hp64]
 refine g3 _ ?_
 refine aAe ?_
 simp only [endX, resX, resV, Tryz.results59]
 try simp (disch := omega) only [xq, simprocAttr, dyV, ivV, fxV, fxV, hp8, hp64]
 first | done | rfl
theorem aIM (t : D) (p : Nat) (hin : t.av <= (aAo 2 : Rat)) (hp : 8 <= p /\ p <= 4096) (h : bl t.m <= 66000 /\ ae t <= 40000) : AC Tryz.prog TabW 59 [.lit (.int .i64 2), dyV t, .lit (.int .i64 ((p : Nat) : Int))] (ivV (aD5 2 t p)) /\ (ib (aD5 2 t p) <= 16300 /\ ie (aD5 2 t p) <= 66000000) := by
 have h1 := aFc t (p + 64) (by omega)
 obtain ⟨t1, t2⟩ := aCs (n := 2) (q := p + 64) (t := t) (by decide) (by omega) (by omega) hin
 have hr : aD5 2 t p = ⟨(aBF (aAw 2 t (p + 64)).lo (p + 8)).lo, (aBF (aAw 2 t (p + 64)).hi (p + 8)).hi⟩ := rfl
 rw [hr]
 clear hr hin
 generalize aAw 2 t (p + 64) = u at *
 have hu := aBe u
 have h2 := aDD u.lo (p + 8) (by omega)
 have h3 := aDD u.hi (p + 8) (by omega)
 have hp8 : ((p : Nat) : Int) + 8 = ((p + 8 : Nat) : Int) := rfl
 have hp64 : ((p : Nat) : Int) + 64 = ((p + 64 : Nat) : Int) := rfl
 have z2 := aBe (aBF u.lo (p + 8))
 have z3 := aBe (aBF u.hi (p + 8))
 have z4 := mk_b (a := (aBF u.lo (p + 8)).lo) (b := (aBF u.hi (p + 8)).hi) (B := 16300) (E := 66000000) (by omega) (by omega)
 refine ⟨?_, z4⟩
 clear z2 z3 z4
 generalize aBF u.lo (p + 8) = A at *
 generalize aBF u.hi (p + 8) = Bq at *
 refine aAd Tryz.func59 rfl (by kernel_rfl) aAc Tryz.mixed rfl rfl (by kernel_rfl) ?_
 simp only [aAl, Tryz.ntmps59, dyV, ivV, fxV, fxV]
 refine aAa fun K1 g1 => ?_
 refine aAb fun os => ?_
 try simp (disch := omega) only [xq, simprocAttr, dyV, ivV, fxV, fxV, hp8, hp64]
 refine g1 _ ?_
 refine aAa fun K2 g2 => ?_
 refine aAb fun os => ?_
 try simp (disch := omega) only [xq, simprocAttr, dyV, ivV, fxV, fxV, hp8, hp64]
 refine cxo (h1.1) ?_
 try simp (disch := omega) only [xq, simprocAttr, dyV, ivV, fxV, fxV, hp8, hp64]
 refine g2 _ ?_
 refine aAa fun K3 g3 => ?_
 refine aAB (by kernel_rfl) fun os => ?_
 try simp (disch := omega) only [xq, simprocAttr, dyV, ivV, fxV, fxV, hp8, hp64]
 refine cxd (h2.1) ?_
 try simp (disch := omega) only [xq, simprocAttr, dyV, ivV, fxV, fxV, hp8, hp64]
 refine cxd (h3.1) ?_
 try simp (disch := omega) only [xq, simprocAttr, dyV, ivV, fxV, fxV, hp8, hp64]
 refine g3 _ ?_
 refine aAe ?_
 simp only [endX, resX, resV, Tryz.results59]
 try simp (disch := omega) only [xq, simprocAttr, dyV, ivV, fxV, fxV, hp8, hp64]
 first | done | rfl
theorem aHO (t : D) (p : Nat) (hin : t.av <= (aAo 10 : Rat)) (hp : 8 <= p /\ p <= 4096) (h : bl t.m <= 66000 /\ ae t <= 40000) : AC Tryz.prog TabW 59 [.lit (.int .i64 10), dyV t, .lit (.int .i64 ((p : Nat) : Int))] (ivV (aD5 10 t p)) /\ (ib (aD5 10 t p) <= 16300 /\ ie (aD5 10 t p) <= 66000000) := by
 have h1 := aEI t (p + 64) (by omega)
 obtain ⟨t1, t2⟩ := aCs (n := 10) (q := p + 64) (t := t) (by decide) (by omega) (by omega) hin
 have hr : aD5 10 t p = ⟨(aBF (aAw 10 t (p + 64)).lo (p + 8)).lo, (aBF (aAw 10 t (p + 64)).hi (p + 8)).hi⟩ := rfl
 rw [hr]
 clear hr hin
 generalize aAw 10 t (p + 64) = u at *
 have hu := aBe u
 have h2 := aDD u.lo (p + 8) (by omega)
 have h3 := aDD u.hi (p + 8) (by omega)
 have hp8 : ((p : Nat) : Int) + 8 = ((p + 8 : Nat) : Int) := rfl
 have hp64 : ((p : Nat) : Int) + 64 = ((p + 64 : Nat) : Int) := rfl
 have z2 := aBe (aBF u.lo (p + 8))
 have z3 := aBe (aBF u.hi (p + 8))
 have z4 := mk_b (a := (aBF u.lo (p + 8)).lo) (b := (aBF u.hi (p + 8)).hi) (B := 16300) (E := 66000000) (by omega) (by omega)
 refine ⟨?_, z4⟩
 clear z2 z3 z4
 generalize aBF u.lo (p + 8) = A at *
 generalize aBF u.hi (p + 8) = Bq at *
 refine aAd Tryz.func59 rfl (by kernel_rfl) aAc Tryz.mixed rfl rfl (by kernel_rfl) ?_
 simp only [aAl, Tryz.ntmps59, dyV, ivV, fxV, fxV]
 refine aAa fun K1 g1 => ?_
 refine aAb fun os => ?_
 try simp (disch := omega) only [xq, simprocAttr, dyV, ivV, fxV, fxV, hp8, hp64]
 refine g1 _ ?_
 refine aAa fun K2 g2 => ?_
 refine aAb fun os => ?_
 try simp (disch := omega) only [xq, simprocAttr, dyV, ivV, fxV, fxV, hp8, hp64]
 refine cxo (h1.1) ?_
 try simp (disch := omega) only [xq, simprocAttr, dyV, ivV, fxV, fxV, hp8, hp64]
 refine g2 _ ?_
 refine aAa fun K3 g3 => ?_
 refine aAB (by kernel_rfl) fun os => ?_
 try simp (disch := omega) only [xq, simprocAttr, dyV, ivV, fxV, fxV, hp8, hp64]
 refine cxd (h2.1) ?_
 try simp (disch := omega) only [xq, simprocAttr, dyV, ivV, fxV, fxV, hp8, hp64]
 refine cxd (h3.1) ?_
 try simp (disch := omega) only [xq, simprocAttr, dyV, ivV, fxV, fxV, hp8, hp64]
 refine g3 _ ?_
 refine aAe ?_
 simp only [endX, resX, resV, Tryz.results59]
 try simp (disch := omega) only [xq, simprocAttr, dyV, ivV, fxV, fxV, hp8, hp64]
 first | done | rfl
end
section
set_option maxRecDepth 10000
set_option maxHeartbeats 4000000
open Go.RowKit
theorem aQK (f : Int) (x : Nat) (p : Int) (h : ¬ (1 <= f /\ f <= 6)) : AC Tryz.prog TabW 11 [.lit (.int .u8 f), .lit (.int .u64 ((x : Nat) : Int)), .lit (.int .i64 p)] (.tup [ivV aAp, .lit (.int .i64 2)]) := by
 have hi : AC Tryz.prog TabW 14 [.lit (.int .u8 f)] (.lit (.bool (decide (1 <= f /\ f <= 6)))) := by
   have := aCg f
   rwa [<- Bool.decide_and] at this
 rw [decide_eq_false h] at hi
 refine aAd Tryz.func11 rfl (by kernel_rfl) aAc Tryz.mixed rfl rfl (by kernel_rfl) ?_
 simp only [aAl, Tryz.ntmps11, dyV, ivV, fxV, fxV]
 refine aAa fun K1 g1 => ?_
 refine aAb fun os => ?_
 try simp (disch := omega) only [xq, simprocAttr, dyV, ivV, fxV, fxV]
 refine g1 _ ?_
 refine aAa fun K2 g2 => ?_
 refine aAa fun K3 g3 => ?_
 refine aAx ?_
 try simp (disch := omega) only [xq, simprocAttr, dyV, ivV, fxV, fxV]
 refine cxo (hi) ?_
 try simp (disch := omega) only [xq, simprocAttr, dyV, ivV, fxV, fxV]
 refine g3 _ ?_
 refine aAf (by first | rfl | assumption) (fun c1 => ?_) (fun c1 => ?_)
 ·try simp only [xn] at c1
  refine aAa fun K4 g4 => ?_
  refine aAb fun os => ?_
  try simp (disch := omega) only [xq, simprocAttr, dyV, ivV, fxV, fxV]
  refine g4 _ ?_
  refine aAe ?_
  simp only [aAm, aAg, reduceIte, Nat.reduceEqDiff]
  simp only [endX, resX, resV, Tryz.results11]
  try simp (disch := omega) only [xq, simprocAttr, dyV, ivV, fxV, fxV]
  simp only [aAp, aAY, ivV] <;> rfl
 ·exact absurd c1 (by decide)
theorem aQJ (f : Int) (x : Nat) (p : Int) (h : 1 <= f /\ f <= 6) (hp : p < 8) : AC Tryz.prog TabW 11 [.lit (.int .u8 f), .lit (.int .u64 ((x : Nat) : Int)), .lit (.int .i64 p)] (.tup [ivV aAp, .lit (.int .i64 2)]) := by
 have hi : AC Tryz.prog TabW 14 [.lit (.int .u8 f)] (.lit (.bool (decide (1 <= f /\ f <= 6)))) := by
   have := aCg f
   rwa [<- Bool.decide_and] at this
 rw [decide_eq_true h] at hi
 have k1 : decide (p < 8) = true := decide_eq_true hp
 refine aAd Tryz.func11 rfl (by kernel_rfl) aAc Tryz.mixed rfl rfl (by kernel_rfl) ?_
 simp only [aAl, Tryz.ntmps11, dyV, ivV, fxV, fxV]
 refine aAa fun K1 g1 => ?_
 refine aAb fun os => ?_
 try simp (disch := omega) only [xq, simprocAttr, dyV, ivV, fxV, fxV, k1]
 refine g1 _ ?_
 refine aAa fun K2 g2 => ?_
 refine aAa fun K3 g3 => ?_
 refine aAx ?_
 try simp (disch := omega) only [xq, simprocAttr, dyV, ivV, fxV, fxV, k1]
 refine cxo (hi) ?_
 try simp (disch := omega) only [xq, simprocAttr, dyV, ivV, fxV, fxV, k1]
 refine g3 _ ?_
 refine aAf (by first | rfl | assumption) (fun c1 => ?_) (fun c1 => ?_)
 ·try simp only [xn] at c1
  refine aAa fun K4 g4 => ?_
  refine aAb fun os => ?_
  try simp (disch := omega) only [xq, simprocAttr, dyV, ivV, fxV, fxV, k1]
  refine g4 _ ?_
  refine aAe ?_
  simp only [aAm, aAg, reduceIte, Nat.reduceEqDiff]
  simp only [endX, resX, resV, Tryz.results11]
  try simp (disch := omega) only [xq, simprocAttr, dyV, ivV, fxV, fxV, k1]
  simp only [aAp, aAY, ivV] <;> rfl
 ·exact absurd c1 (by decide)
theorem aQI (f : Int) (x : Nat) (p : Int) (h : 1 <= f /\ f <= 6) (hp : 2048 < p) : AC Tryz.prog TabW 11 [.lit (.int .u8 f), .lit (.int .u64 ((x : Nat) : Int)), .lit (.int .i64 p)] (.tup [ivV aAp, .lit (.int .i64 2)]) := by
 have hi : AC Tryz.prog TabW 14 [.lit (.int .u8 f)] (.lit (.bool (decide (1 <= f /\ f <= 6)))) := by
   have := aCg f
   rwa [<- Bool.decide_and] at this
 rw [decide_eq_true h] at hi
 have k1 : decide (p < 8) = false := decide_eq_false (by omega)
 have k2 : decide (2048 < p) = true := decide_eq_true hp
 refine aAd Tryz.func11 rfl (by kernel_rfl) aAc Tryz.mixed rfl rfl (by kernel_rfl) ?_
 simp only [aAl, Tryz.ntmps11, dyV, ivV, fxV, fxV]
 refine aAa fun K1 g1 => ?_
 refine aAb fun os => ?_
 try simp (disch := omega) only [xq, simprocAttr, dyV, ivV, fxV, fxV, k1, k2]
 refine g1 _ ?_
 refine aAa fun K2 g2 => ?_
 refine aAa fun K3 g3 => ?_
 refine aAx ?_
 try simp (disch := omega) only [xq, simprocAttr, dyV, ivV, fxV, fxV, k1, k2]
 refine cxo (hi) ?_
 try simp (disch := omega) only [xq, simprocAttr, dyV, ivV, fxV, fxV, k1, k2]
 refine g3 _ ?_
 refine aAf (by first | rfl | assumption) (fun c1 => ?_) (fun c1 => ?_)
 ·try simp only [xn] at c1
  refine aAa fun K4 g4 => ?_
  refine aAb fun os => ?_
  try simp (disch := omega) only [xq, simprocAttr, dyV, ivV, fxV, fxV, k1, k2]
  refine g4 _ ?_
  refine aAe ?_
  simp only [aAm, aAg, reduceIte, Nat.reduceEqDiff]
  simp only [endX, resX, resV, Tryz.results11]
  try simp (disch := omega) only [xq, simprocAttr, dyV, ivV, fxV, fxV, k1, k2]
  simp only [aAp, aAY, ivV] <;> rfl
 ·exact absurd c1 (by decide)
theorem aNa (f : Int) (x : Nat) (p : Int) (h : ¬ (1 <= f /\ f <= 6) \/ p < 8 \/ 2048 < p) : AC Tryz.prog TabW 11 [.lit (.int .u8 f), .lit (.int .u64 ((x : Nat) : Int)), .lit (.int .i64 p)] (.tup [ivV aAp, .lit (.int .i64 2)]) := by
 by_cases hi : 1 <= f /\ f <= 6
 · by_cases h8 : p < 8
   · exact aQJ f x p hi h8
   · exact aQI f x p hi (by omega)
 · exact aQK f x p hi
end
section
set_option maxRecDepth 10000
set_option maxHeartbeats 4000000
open Go.RowKit
theorem aKS (x : Nat) (hx : x < 18446744073709551616) (he : bitE x = 2047) (p : Nat) (hp : 8 <= p /\ p <= 2048) : AC Tryz.prog TabW 11 [.lit (.int .u8 1), .lit (.int .u64 ((x : Nat) : Int)), .lit (.int .i64 ((p : Nat) : Int))] (.tup [ivV aAp, .lit (.int .i64 5)]) := by
 have k1 : decide (((p : Nat) : Int) < 8) = false := decide_eq_false (by omega)
 have k2 : decide ((2048 : Int) < ((p : Nat) : Int)) = false := decide_eq_false (by omega)
 have h0 := aB5 x hx
 have hr : aBP x = if bitE x = 2047 then (aAY, 5) else (aBl x, 0) := rfl
 have hfi := aBA x hx
 rw [aCO hx] at hfi
 rw [decide_eq_true he] at hfi
 refine aAd Tryz.func11 rfl (by kernel_rfl) aAc Tryz.mixed rfl rfl (by kernel_rfl) ?_
 simp only [aAl, Tryz.ntmps11, dyV, ivV, fxV, fxV]
 refine aAa fun K1 g1 => ?_
 refine aAb fun os => ?_
 try simp (disch := omega) only [xq, simprocAttr, dyV, ivV, fxV, fxV, k1, k2, Bool.and_self]
 refine g1 _ ?_
 refine aAa fun K2 g2 => ?_
 refine aAa fun K3 g3 => ?_
 refine aAx ?_
 try simp (disch := omega) only [xq, simprocAttr, dyV, ivV, fxV, fxV, k1, k2, Bool.and_self]
 refine cxo (aCg _) ?_
 try simp (disch := omega) only [xq, simprocAttr, dyV, ivV, fxV, fxV, k1, k2, Bool.and_self]
 refine g3 _ ?_
 refine aAf (by first | rfl | assumption) (fun c1 => ?_) (fun c1 => ?_)
 ·exact absurd c1 (by decide)
 ·try simp only [xn] at c1
  refine aAk ?_
  simp only [aAm, aAg, reduceIte, Nat.reduceEqDiff]
  refine g2 _ ?_
  refine aAa fun K4 g4 => ?_
  refine aAa fun K5 g5 => ?_
  refine aAb fun os => ?_
  try simp (disch := omega) only [xq, simprocAttr, dyV, ivV, fxV, fxV, k1, k2, Bool.and_self]
  refine cxo (hfi) ?_
  try simp (disch := omega) only [xq, simprocAttr, dyV, ivV, fxV, fxV, k1, k2, Bool.and_self]
  refine g5 _ ?_
  refine aAf (by first | rfl | assumption) (fun c2 => ?_) (fun c2 => ?_)
  ·try simp only [xn] at c2
   refine aAa fun K6 g6 => ?_
   refine aAb fun os => ?_
   try simp (disch := omega) only [xq, simprocAttr, dyV, ivV, fxV, fxV, k1, k2, Bool.and_self]
   refine g6 _ ?_
   refine aAe ?_
   simp only [aAm, aAg, reduceIte, Nat.reduceEqDiff]
   simp only [endX, resX, resV, Tryz.results11]
   try simp (disch := omega) only [xq, simprocAttr, dyV, ivV, fxV, fxV, k1, k2, Bool.and_self]
   simp only [*, Bool.not_true, Bool.not_false, Bool.false_eq_true, if_true, if_false, reduceIte, ivV, aAp, aAY] <;> rfl
  ·exact absurd c2 (by decide)
theorem aPf (x : Nat) (hx : x < 18446744073709551616) (he : bitE x ≠ 2047) (p : Nat) (hp : 8 <= p /\ p <= 2048) : AC Tryz.prog TabW 11 [.lit (.int .u8 1), .lit (.int .u64 ((x : Nat) : Int)), .lit (.int .i64 ((p : Nat) : Int))] (.tup [ivV (aBq 0 false (aBl x) p).1, .lit (.int .i64 (aBq 0 false (aBl x) p).2)]) := by
 have k1 : decide (((p : Nat) : Int) < 8) = false := decide_eq_false (by omega)
 have k2 : decide ((2048 : Int) < ((p : Nat) : Int)) = false := decide_eq_false (by omega)
 have h0 := aB5 x hx
 have hr : aBP x = if bitE x = 2047 then (aAY, 5) else (aBl x, 0) := rfl
 have hfi := aBA x hx
 rw [aCO hx] at hfi
 rw [if_neg he] at hr
 rw [hr] at h0
 rw [decide_eq_false he] at hfi
 have hz := aCE x
 generalize aBl x = t at *
 have z1 := aAW 11000
 have z2 : bl (11000 : Int).natAbs <= 16 := by decide
 have r1 := aFB
 have hrn : (aAo 0 : Int) = 11000 := rfl
 have r2 := aCF (intD (aAo 0 : Int)) (by rw [hrn]; omega)
 rw [aDq] at r2
 have z3 := aAW (-11000)
 have z4 : bl (-11000 : Int).natAbs <= 16 := by decide
 have o1 := aAI t (intD (-(aAo 0 : Int))) (by rw [hrn]; omega)
 have o2 := aAI t (intD (aAo 0 : Int)) (by rw [hrn]; omega)
 have m1 := (aB4 (-1) (by omega)).1
 have m3 := (aDv (intD (-1)) ⟨false, 1, -(p : Int) - 2⟩ (by
   have a1 := aAW (-1)
   have a2 : bl (-1 : Int).natAbs = 1 := by decide
   have a3 : bl 1 = 1 := by decide
   have a4 : ae ⟨false, 1, -(p : Int) - 2⟩ <= 3000 := by unfold ae; show (-(p : Int) - 2).natAbs <= _; omega
   show 2 * bl (intD (-1)).m + 2 * bl 1 + ae (intD (-1)) + ae ⟨false, 1, -(p : Int) - 2⟩ <= _
   omega)).1
 have m4 : AC Tryz.prog TabW 36 [dyV (intD (-1)), .agg [.lit (.bool false), .arr 1 [.lit (.int .u64 1)], .lit (.int .i64 (-(p : Int) - 2))]] (dyV (addD (intD (-1)) ⟨false, 1, -(p : Int) - 2⟩)) :=
   m3.arg fun S β w vs h => by
     simp only [RepL] at h ⊢
     obtain ⟨v, r, rfl, g1, v2, r2, rfl, g2, rfl⟩ := h
     exact ⟨v, _, rfl, g1, v2, _, rfl, aE7 g2, rfl⟩
 have hin := aDw (n := 0) (t := t)
 have hbl : aAR 0 t = decide (cmpD t (intD (-(aAo 0 : Int))) < 0) := rfl
 have raw := fun h => (aHr t p h (by omega) (by omega)).1
 have hr : aBq 0 false t p = if decide (0 < cmpD t (intD (aAo 0 : Int))) || aAR 0 t && !false then (aAp, 3) else
   if aAR 0 t then (⟨intD (-1), addD (intD (-1)) ⟨false, 1, -(p : Int) - 2⟩⟩, 0) else
   if false then (aD5 0 t p, 0) else (rawQ 0 t p, 0) := rfl
 rw [hr]
 clear hr
 rw [hbl] at hin ⊢
 clear hbl
 generalize intD (-(aAo 0 : Int)) = D2 at *
 generalize intD (aAo 0 : Int) = D1 at *
 generalize cmpD t D1 = q1 at *
 generalize cmpD t D2 = q2 at *
 have raw2 : ¬ 0 < q1 -> ¬ q2 < 0 -> _ := fun g1 g2 => raw (hin g1 (decide_eq_false g2))
 refine aAd Tryz.func11 rfl (by kernel_rfl) aAc Tryz.mixed rfl rfl (by kernel_rfl) ?_
 simp only [aAl, Tryz.ntmps11, dyV, ivV, fxV, fxV]
 repeat' first
  | refine aAa fun K g => ?_
  | refine goK (by assumption) ?_
  | ((first | refine aAk ?_ | refine aAe ?_) <;> try simp only [aAm, aAg, reduceIte, Nat.reduceEqDiff])
  | ((first
  | refine aAU rfl fun os => ?_
  | refine aB7 ?_
  | refine aCR rfl (by kernel_rfl) fun os => ?_
  | refine cxo (aCg _) ?_
  | refine cxo (hfi) ?_
  | refine cxo (h0) ?_
  | refine cxo (aIT) ?_
  | refine cxo (r1) ?_
  | refine cxd (r2.1) ?_
  | refine cxd (o1) ?_
  | refine cxo (o2) ?_
  | refine cxo (aB9 _) ?_
  | refine cxo (m1) ?_
  | refine cxo (m4) ?_
  | refine cxd (m1) ?_
  | refine cxd (aIT) ?_
  | refine cxd (raw2 (by omega) (by omega)) ?_
  | simp only [endX, resX, resV, Tryz.results11]) <;> try (simp (disch := omega) only [xq, simprocAttr, dyV, ivV, fxV, fxV, k1, k2, Bool.and_self, Int.zero_sub]))
  | (refine gx (fun c => ?_) (fun c => ?_) <;> first | exact absurd c (by decide) | ((try rw [c]); (try simp only [xn] at c); try (simp (disch := omega) only [xq, simprocAttr, dyV, ivV, fxV, fxV, k1, k2, Bool.and_self, Int.zero_sub])))
  | (refine aAf (by first | rfl | assumption) (fun c => ?_) (fun c => ?_) <;> first | exact absurd c (by decide) | ((try rw [c]); try simp only [xn] at c))
  | (first | (simp [*, aAp, aAY, ivV]; done) | (exfalso; simp_all; done)
     done)
theorem aKR (x : Nat) (hx : x < 18446744073709551616) (he : bitE x = 2047) (p : Nat) (hp : 8 <= p /\ p <= 2048) : AC Tryz.prog TabW 11 [.lit (.int .u8 2), .lit (.int .u64 ((x : Nat) : Int)), .lit (.int .i64 ((p : Nat) : Int))] (.tup [ivV aAp, .lit (.int .i64 5)]) := by
 have k1 : decide (((p : Nat) : Int) < 8) = false := decide_eq_false (by omega)
 have k2 : decide ((2048 : Int) < ((p : Nat) : Int)) = false := decide_eq_false (by omega)
 have h0 := aB5 x hx
 have hr : aBP x = if bitE x = 2047 then (aAY, 5) else (aBl x, 0) := rfl
 have hfi := aBA x hx
 rw [aCO hx] at hfi
 rw [decide_eq_true he] at hfi
 refine aAd Tryz.func11 rfl (by kernel_rfl) aAc Tryz.mixed rfl rfl (by kernel_rfl) ?_
 simp only [aAl, Tryz.ntmps11, dyV, ivV, fxV, fxV]
 refine aAa fun K1 g1 => ?_
 refine aAb fun os => ?_
 try simp (disch := omega) only [xq, simprocAttr, dyV, ivV, fxV, fxV, k1, k2, Bool.and_self]
 refine g1 _ ?_
 refine aAa fun K2 g2 => ?_
 refine aAa fun K3 g3 => ?_
 refine aAx ?_
 try simp (disch := omega) only [xq, simprocAttr, dyV, ivV, fxV, fxV, k1, k2, Bool.and_self]
 refine cxo (aCg _) ?_
 try simp (disch := omega) only [xq, simprocAttr, dyV, ivV, fxV, fxV, k1, k2, Bool.and_self]
 refine g3 _ ?_
 refine aAf (by first | rfl | assumption) (fun c1 => ?_) (fun c1 => ?_)
 ·exact absurd c1 (by decide)
 ·try simp only [xn] at c1
  refine aAk ?_
  simp only [aAm, aAg, reduceIte, Nat.reduceEqDiff]
  refine g2 _ ?_
  refine aAa fun K4 g4 => ?_
  refine aAa fun K5 g5 => ?_
  refine aAb fun os => ?_
  try simp (disch := omega) only [xq, simprocAttr, dyV, ivV, fxV, fxV, k1, k2, Bool.and_self]
  refine cxo (hfi) ?_
  try simp (disch := omega) only [xq, simprocAttr, dyV, ivV, fxV, fxV, k1, k2, Bool.and_self]
  refine g5 _ ?_
  refine aAf (by first | rfl | assumption) (fun c2 => ?_) (fun c2 => ?_)
  ·try simp only [xn] at c2
   refine aAa fun K6 g6 => ?_
   refine aAb fun os => ?_
   try simp (disch := omega) only [xq, simprocAttr, dyV, ivV, fxV, fxV, k1, k2, Bool.and_self]
   refine g6 _ ?_
   refine aAe ?_
   simp only [aAm, aAg, reduceIte, Nat.reduceEqDiff]
   simp only [endX, resX, resV, Tryz.results11]
   try simp (disch := omega) only [xq, simprocAttr, dyV, ivV, fxV, fxV, k1, k2, Bool.and_self]
   simp only [*, Bool.not_true, Bool.not_false, Bool.false_eq_true, if_true, if_false, reduceIte, ivV, aAp, aAY] <;> rfl
  ·exact absurd c2 (by decide)
theorem aPe (x : Nat) (hx : x < 18446744073709551616) (he : bitE x ≠ 2047) (p : Nat) (hp : 8 <= p /\ p <= 2048) : AC Tryz.prog TabW 11 [.lit (.int .u8 2), .lit (.int .u64 ((x : Nat) : Int)), .lit (.int .i64 ((p : Nat) : Int))] (.tup [ivV (aBq 2 false (aBl x) p).1, .lit (.int .i64 (aBq 2 false (aBl x) p).2)]) := by
 have k1 : decide (((p : Nat) : Int) < 8) = false := decide_eq_false (by omega)
 have k2 : decide ((2048 : Int) < ((p : Nat) : Int)) = false := decide_eq_false (by omega)
 have h0 := aB5 x hx
 have hr : aBP x = if bitE x = 2047 then (aAY, 5) else (aBl x, 0) := rfl
 have hfi := aBA x hx
 rw [aCO hx] at hfi
 rw [if_neg he] at hr
 rw [hr] at h0
 rw [decide_eq_false he] at hfi
 have hz := aCE x
 generalize aBl x = t at *
 have z1 := aAW 16000
 have z2 : bl (16000 : Int).natAbs <= 16 := by decide
 have r1 := aFA
 have hrn : (aAo 2 : Int) = 16000 := rfl
 have r2 := aCF (intD (aAo 2 : Int)) (by rw [hrn]; omega)
 rw [aDq] at r2
 have z3 := aAW (-16000)
 have z4 : bl (-16000 : Int).natAbs <= 16 := by decide
 have o1 := aAI t (intD (-(aAo 2 : Int))) (by rw [hrn]; omega)
 have o2 := aAI t (intD (aAo 2 : Int)) (by rw [hrn]; omega)
 have m1 := (aB4 (-1) (by omega)).1
 have m3 := (aDv (intD (-1)) ⟨false, 1, -(p : Int) - 2⟩ (by
   have a1 := aAW (-1)
   have a2 : bl (-1 : Int).natAbs = 1 := by decide
   have a3 : bl 1 = 1 := by decide
   have a4 : ae ⟨false, 1, -(p : Int) - 2⟩ <= 3000 := by unfold ae; show (-(p : Int) - 2).natAbs <= _; omega
   show 2 * bl (intD (-1)).m + 2 * bl 1 + ae (intD (-1)) + ae ⟨false, 1, -(p : Int) - 2⟩ <= _
   omega)).1
 have m4 : AC Tryz.prog TabW 36 [dyV (intD (-1)), .agg [.lit (.bool false), .arr 1 [.lit (.int .u64 1)], .lit (.int .i64 (-(p : Int) - 2))]] (dyV (addD (intD (-1)) ⟨false, 1, -(p : Int) - 2⟩)) :=
   m3.arg fun S β w vs h => by
     simp only [RepL] at h ⊢
     obtain ⟨v, r, rfl, g1, v2, r2, rfl, g2, rfl⟩ := h
     exact ⟨v, _, rfl, g1, v2, _, rfl, aE7 g2, rfl⟩
 have hin := aDw (n := 2) (t := t)
 have hbl : aAR 2 t = decide (cmpD t (intD (-(aAo 2 : Int))) < 0) := rfl
 have raw := fun h => (aHq t p h (by omega) (by omega)).1
 have hr : aBq 2 false t p = if decide (0 < cmpD t (intD (aAo 2 : Int))) || aAR 2 t && !false then (aAp, 3) else
   if aAR 2 t then (⟨intD (-1), addD (intD (-1)) ⟨false, 1, -(p : Int) - 2⟩⟩, 0) else
   if false then (aD5 2 t p, 0) else (rawQ 2 t p, 0) := rfl
 rw [hr]
 clear hr
 rw [hbl] at hin ⊢
 clear hbl
 generalize intD (-(aAo 2 : Int)) = D2 at *
 generalize intD (aAo 2 : Int) = D1 at *
 generalize cmpD t D1 = q1 at *
 generalize cmpD t D2 = q2 at *
 have raw2 : ¬ 0 < q1 -> ¬ q2 < 0 -> _ := fun g1 g2 => raw (hin g1 (decide_eq_false g2))
 refine aAd Tryz.func11 rfl (by kernel_rfl) aAc Tryz.mixed rfl rfl (by kernel_rfl) ?_
 simp only [aAl, Tryz.ntmps11, dyV, ivV, fxV, fxV]
 repeat' first
  | refine aAa fun K g => ?_
  | refine goK (by assumption) ?_
  | ((first | refine aAk ?_ | refine aAe ?_) <;> try simp only [aAm, aAg, reduceIte, Nat.reduceEqDiff])
  | ((first
  | refine aAU rfl fun os => ?_
  | refine aB7 ?_
  | refine aCR rfl (by kernel_rfl) fun os => ?_
  | refine cxo (aCg _) ?_
  | refine cxo (hfi) ?_
  | refine cxo (h0) ?_
  | refine cxo (aIS) ?_
  | refine cxo (r1) ?_
  | refine cxd (r2.1) ?_
  | refine cxd (o1) ?_
  | refine cxo (o2) ?_
  | refine cxo (aB9 _) ?_
  | refine cxo (m1) ?_
  | refine cxo (m4) ?_
  | refine cxd (m1) ?_
  | refine cxd (aIS) ?_
  | refine cxd (raw2 (by omega) (by omega)) ?_
  | simp only [endX, resX, resV, Tryz.results11]) <;> try (simp (disch := omega) only [xq, simprocAttr, dyV, ivV, fxV, fxV, k1, k2, Bool.and_self, Int.zero_sub]))
  | (refine gx (fun c => ?_) (fun c => ?_) <;> first | exact absurd c (by decide) | ((try rw [c]); (try simp only [xn] at c); try (simp (disch := omega) only [xq, simprocAttr, dyV, ivV, fxV, fxV, k1, k2, Bool.and_self, Int.zero_sub])))
  | (refine aAf (by first | rfl | assumption) (fun c => ?_) (fun c => ?_) <;> first | exact absurd c (by decide) | ((try rw [c]); try simp only [xn] at c))
  | (first | (simp [*, aAp, aAY, ivV]; done) | (exfalso; simp_all; done)
     done)
end
section
set_option maxRecDepth 10000
set_option maxHeartbeats 4000000
open Go.RowKit
theorem aKQ (x : Nat) (hx : x < 18446744073709551616) (he : bitE x = 2047) (p : Nat) (hp : 8 <= p /\ p <= 2048) : AC Tryz.prog TabW 11 [.lit (.int .u8 3), .lit (.int .u64 ((x : Nat) : Int)), .lit (.int .i64 ((p : Nat) : Int))] (.tup [ivV aAp, .lit (.int .i64 5)]) := by
 have k1 : decide (((p : Nat) : Int) < 8) = false := decide_eq_false (by omega)
 have k2 : decide ((2048 : Int) < ((p : Nat) : Int)) = false := decide_eq_false (by omega)
 have h0 := aB5 x hx
 have hr : aBP x = if bitE x = 2047 then (aAY, 5) else (aBl x, 0) := rfl
 have hfi := aBA x hx
 rw [aCO hx] at hfi
 rw [decide_eq_true he] at hfi
 refine aAd Tryz.func11 rfl (by kernel_rfl) aAc Tryz.mixed rfl rfl (by kernel_rfl) ?_
 simp only [aAl, Tryz.ntmps11, dyV, ivV, fxV, fxV]
 refine aAa fun K1 g1 => ?_
 refine aAb fun os => ?_
 try simp (disch := omega) only [xq, simprocAttr, dyV, ivV, fxV, fxV, k1, k2, Bool.and_self]
 refine g1 _ ?_
 refine aAa fun K2 g2 => ?_
 refine aAa fun K3 g3 => ?_
 refine aAx ?_
 try simp (disch := omega) only [xq, simprocAttr, dyV, ivV, fxV, fxV, k1, k2, Bool.and_self]
 refine cxo (aCg _) ?_
 try simp (disch := omega) only [xq, simprocAttr, dyV, ivV, fxV, fxV, k1, k2, Bool.and_self]
 refine g3 _ ?_
 refine aAf (by first | rfl | assumption) (fun c1 => ?_) (fun c1 => ?_)
 ·exact absurd c1 (by decide)
 ·try simp only [xn] at c1
  refine aAk ?_
  simp only [aAm, aAg, reduceIte, Nat.reduceEqDiff]
  refine g2 _ ?_
  refine aAa fun K4 g4 => ?_
  refine aAa fun K5 g5 => ?_
  refine aAb fun os => ?_
  try simp (disch := omega) only [xq, simprocAttr, dyV, ivV, fxV, fxV, k1, k2, Bool.and_self]
  refine cxo (hfi) ?_
  try simp (disch := omega) only [xq, simprocAttr, dyV, ivV, fxV, fxV, k1, k2, Bool.and_self]
  refine g5 _ ?_
  refine aAf (by first | rfl | assumption) (fun c2 => ?_) (fun c2 => ?_)
  ·try simp only [xn] at c2
   refine aAa fun K6 g6 => ?_
   refine aAb fun os => ?_
   try simp (disch := omega) only [xq, simprocAttr, dyV, ivV, fxV, fxV, k1, k2, Bool.and_self]
   refine g6 _ ?_
   refine aAe ?_
   simp only [aAm, aAg, reduceIte, Nat.reduceEqDiff]
   simp only [endX, resX, resV, Tryz.results11]
   try simp (disch := omega) only [xq, simprocAttr, dyV, ivV, fxV, fxV, k1, k2, Bool.and_self]
   simp only [*, Bool.not_true, Bool.not_false, Bool.false_eq_true, if_true, if_false, reduceIte, ivV, aAp, aAY] <;> rfl
  ·exact absurd c2 (by decide)
theorem aPd (x : Nat) (hx : x < 18446744073709551616) (he : bitE x ≠ 2047) (p : Nat) (hp : 8 <= p /\ p <= 2048) : AC Tryz.prog TabW 11 [.lit (.int .u8 3), .lit (.int .u64 ((x : Nat) : Int)), .lit (.int .i64 ((p : Nat) : Int))] (.tup [ivV (aBq 10 false (aBl x) p).1, .lit (.int .i64 (aBq 10 false (aBl x) p).2)]) := by
 have k1 : decide (((p : Nat) : Int) < 8) = false := decide_eq_false (by omega)
 have k2 : decide ((2048 : Int) < ((p : Nat) : Int)) = false := decide_eq_false (by omega)
 have h0 := aB5 x hx
 have hr : aBP x = if bitE x = 2047 then (aAY, 5) else (aBl x, 0) := rfl
 have hfi := aBA x hx
 rw [aCO hx] at hfi
 rw [if_neg he] at hr
 rw [hr] at h0
 rw [decide_eq_false he] at hfi
 have hz := aCE x
 generalize aBl x = t at *
 have z1 := aAW 4800
 have z2 : bl (4800 : Int).natAbs <= 16 := by decide
 have r1 := aFe
 have hrn : (aAo 10 : Int) = 4800 := rfl
 have r2 := aCF (intD (aAo 10 : Int)) (by rw [hrn]; omega)
 rw [aDq] at r2
 have z3 := aAW (-4800)
 have z4 : bl (-4800 : Int).natAbs <= 16 := by decide
 have o1 := aAI t (intD (-(aAo 10 : Int))) (by rw [hrn]; omega)
 have o2 := aAI t (intD (aAo 10 : Int)) (by rw [hrn]; omega)
 have m1 := (aB4 (-1) (by omega)).1
 have m3 := (aDv (intD (-1)) ⟨false, 1, -(p : Int) - 2⟩ (by
   have a1 := aAW (-1)
   have a2 : bl (-1 : Int).natAbs = 1 := by decide
   have a3 : bl 1 = 1 := by decide
   have a4 : ae ⟨false, 1, -(p : Int) - 2⟩ <= 3000 := by unfold ae; show (-(p : Int) - 2).natAbs <= _; omega
   show 2 * bl (intD (-1)).m + 2 * bl 1 + ae (intD (-1)) + ae ⟨false, 1, -(p : Int) - 2⟩ <= _
   omega)).1
 have m4 : AC Tryz.prog TabW 36 [dyV (intD (-1)), .agg [.lit (.bool false), .arr 1 [.lit (.int .u64 1)], .lit (.int .i64 (-(p : Int) - 2))]] (dyV (addD (intD (-1)) ⟨false, 1, -(p : Int) - 2⟩)) :=
   m3.arg fun S β w vs h => by
     simp only [RepL] at h ⊢
     obtain ⟨v, r, rfl, g1, v2, r2, rfl, g2, rfl⟩ := h
     exact ⟨v, _, rfl, g1, v2, _, rfl, aE7 g2, rfl⟩
 have hin := aDw (n := 10) (t := t)
 have hbl : aAR 10 t = decide (cmpD t (intD (-(aAo 10 : Int))) < 0) := rfl
 have raw := fun h => (aGw t p h (by omega) (by omega)).1
 have hr : aBq 10 false t p = if decide (0 < cmpD t (intD (aAo 10 : Int))) || aAR 10 t && !false then (aAp, 3) else
   if aAR 10 t then (⟨intD (-1), addD (intD (-1)) ⟨false, 1, -(p : Int) - 2⟩⟩, 0) else
   if false then (aD5 10 t p, 0) else (rawQ 10 t p, 0) := rfl
 rw [hr]
 clear hr
 rw [hbl] at hin ⊢
 clear hbl
 generalize intD (-(aAo 10 : Int)) = D2 at *
 generalize intD (aAo 10 : Int) = D1 at *
 generalize cmpD t D1 = q1 at *
 generalize cmpD t D2 = q2 at *
 have raw2 : ¬ 0 < q1 -> ¬ q2 < 0 -> _ := fun g1 g2 => raw (hin g1 (decide_eq_false g2))
 refine aAd Tryz.func11 rfl (by kernel_rfl) aAc Tryz.mixed rfl rfl (by kernel_rfl) ?_
 simp only [aAl, Tryz.ntmps11, dyV, ivV, fxV, fxV]
 repeat' first
  | refine aAa fun K g => ?_
  | refine goK (by assumption) ?_
  | ((first | refine aAk ?_ | refine aAe ?_) <;> try simp only [aAm, aAg, reduceIte, Nat.reduceEqDiff])
  | ((first
  | refine aAU rfl fun os => ?_
  | refine aB7 ?_
  | refine aCR rfl (by kernel_rfl) fun os => ?_
  | refine cxo (aCg _) ?_
  | refine cxo (hfi) ?_
  | refine cxo (h0) ?_
  | refine cxo (aIR) ?_
  | refine cxo (r1) ?_
  | refine cxd (r2.1) ?_
  | refine cxd (o1) ?_
  | refine cxo (o2) ?_
  | refine cxo (aB9 _) ?_
  | refine cxo (m1) ?_
  | refine cxo (m4) ?_
  | refine cxd (m1) ?_
  | refine cxd (aIR) ?_
  | refine cxd (raw2 (by omega) (by omega)) ?_
  | simp only [endX, resX, resV, Tryz.results11]) <;> try (simp (disch := omega) only [xq, simprocAttr, dyV, ivV, fxV, fxV, k1, k2, Bool.and_self, Int.zero_sub]))
  | (refine gx (fun c => ?_) (fun c => ?_) <;> first | exact absurd c (by decide) | ((try rw [c]); (try simp only [xn] at c); try (simp (disch := omega) only [xq, simprocAttr, dyV, ivV, fxV, fxV, k1, k2, Bool.and_self, Int.zero_sub])))
  | (refine aAf (by first | rfl | assumption) (fun c => ?_) (fun c => ?_) <;> first | exact absurd c (by decide) | ((try rw [c]); try simp only [xn] at c))
  | (first | (simp [*, aAp, aAY, ivV]; done) | (exfalso; simp_all; done)
     done)
theorem aKP (x : Nat) (hx : x < 18446744073709551616) (he : bitE x = 2047) (p : Nat) (hp : 8 <= p /\ p <= 2048) : AC Tryz.prog TabW 11 [.lit (.int .u8 4), .lit (.int .u64 ((x : Nat) : Int)), .lit (.int .i64 ((p : Nat) : Int))] (.tup [ivV aAp, .lit (.int .i64 5)]) := by
 have k1 : decide (((p : Nat) : Int) < 8) = false := decide_eq_false (by omega)
 have k2 : decide ((2048 : Int) < ((p : Nat) : Int)) = false := decide_eq_false (by omega)
 have h0 := aB5 x hx
 have hr : aBP x = if bitE x = 2047 then (aAY, 5) else (aBl x, 0) := rfl
 have hfi := aBA x hx
 rw [aCO hx] at hfi
 rw [decide_eq_true he] at hfi
 refine aAd Tryz.func11 rfl (by kernel_rfl) aAc Tryz.mixed rfl rfl (by kernel_rfl) ?_
 simp only [aAl, Tryz.ntmps11, dyV, ivV, fxV, fxV]
 refine aAa fun K1 g1 => ?_
 refine aAb fun os => ?_
 try simp (disch := omega) only [xq, simprocAttr, dyV, ivV, fxV, fxV, k1, k2, Bool.and_self]
 refine g1 _ ?_
 refine aAa fun K2 g2 => ?_
 refine aAa fun K3 g3 => ?_
 refine aAx ?_
 try simp (disch := omega) only [xq, simprocAttr, dyV, ivV, fxV, fxV, k1, k2, Bool.and_self]
 refine cxo (aCg _) ?_
 try simp (disch := omega) only [xq, simprocAttr, dyV, ivV, fxV, fxV, k1, k2, Bool.and_self]
 refine g3 _ ?_
 refine aAf (by first | rfl | assumption) (fun c1 => ?_) (fun c1 => ?_)
 ·exact absurd c1 (by decide)
 ·try simp only [xn] at c1
  refine aAk ?_
  simp only [aAm, aAg, reduceIte, Nat.reduceEqDiff]
  refine g2 _ ?_
  refine aAa fun K4 g4 => ?_
  refine aAa fun K5 g5 => ?_
  refine aAb fun os => ?_
  try simp (disch := omega) only [xq, simprocAttr, dyV, ivV, fxV, fxV, k1, k2, Bool.and_self]
  refine cxo (hfi) ?_
  try simp (disch := omega) only [xq, simprocAttr, dyV, ivV, fxV, fxV, k1, k2, Bool.and_self]
  refine g5 _ ?_
  refine aAf (by first | rfl | assumption) (fun c2 => ?_) (fun c2 => ?_)
  ·try simp only [xn] at c2
   refine aAa fun K6 g6 => ?_
   refine aAb fun os => ?_
   try simp (disch := omega) only [xq, simprocAttr, dyV, ivV, fxV, fxV, k1, k2, Bool.and_self]
   refine g6 _ ?_
   refine aAe ?_
   simp only [aAm, aAg, reduceIte, Nat.reduceEqDiff]
   simp only [endX, resX, resV, Tryz.results11]
   try simp (disch := omega) only [xq, simprocAttr, dyV, ivV, fxV, fxV, k1, k2, Bool.and_self]
   simp only [*, Bool.not_true, Bool.not_false, Bool.false_eq_true, if_true, if_false, reduceIte, ivV, aAp, aAY] <;> rfl
  ·exact absurd c2 (by decide)
theorem aPc (x : Nat) (hx : x < 18446744073709551616) (he : bitE x ≠ 2047) (p : Nat) (hp : 8 <= p /\ p <= 2048) : AC Tryz.prog TabW 11 [.lit (.int .u8 4), .lit (.int .u64 ((x : Nat) : Int)), .lit (.int .i64 ((p : Nat) : Int))] (.tup [ivV (aBq 0 true (aBl x) p).1, .lit (.int .i64 (aBq 0 true (aBl x) p).2)]) := by
 have k1 : decide (((p : Nat) : Int) < 8) = false := decide_eq_false (by omega)
 have k2 : decide ((2048 : Int) < ((p : Nat) : Int)) = false := decide_eq_false (by omega)
 have h0 := aB5 x hx
 have hr : aBP x = if bitE x = 2047 then (aAY, 5) else (aBl x, 0) := rfl
 have hfi := aBA x hx
 rw [aCO hx] at hfi
 rw [if_neg he] at hr
 rw [hr] at h0
 rw [decide_eq_false he] at hfi
 have hz := aCE x
 generalize aBl x = t at *
 have z1 := aAW 11000
 have z2 : bl (11000 : Int).natAbs <= 16 := by decide
 have r1 := aFB
 have hrn : (aAo 0 : Int) = 11000 := rfl
 have r2 := aCF (intD (aAo 0 : Int)) (by rw [hrn]; omega)
 rw [aDq] at r2
 have z3 := aAW (-11000)
 have z4 : bl (-11000 : Int).natAbs <= 16 := by decide
 have o1 := aAI t (intD (-(aAo 0 : Int))) (by rw [hrn]; omega)
 have o2 := aAI t (intD (aAo 0 : Int)) (by rw [hrn]; omega)
 have m1 := (aB4 (-1) (by omega)).1
 have m3 := (aDv (intD (-1)) ⟨false, 1, -(p : Int) - 2⟩ (by
   have a1 := aAW (-1)
   have a2 : bl (-1 : Int).natAbs = 1 := by decide
   have a3 : bl 1 = 1 := by decide
   have a4 : ae ⟨false, 1, -(p : Int) - 2⟩ <= 3000 := by unfold ae; show (-(p : Int) - 2).natAbs <= _; omega
   show 2 * bl (intD (-1)).m + 2 * bl 1 + ae (intD (-1)) + ae ⟨false, 1, -(p : Int) - 2⟩ <= _
   omega)).1
 have m4 : AC Tryz.prog TabW 36 [dyV (intD (-1)), .agg [.lit (.bool false), .arr 1 [.lit (.int .u64 1)], .lit (.int .i64 (-(p : Int) - 2))]] (dyV (addD (intD (-1)) ⟨false, 1, -(p : Int) - 2⟩)) :=
   m3.arg fun S β w vs h => by
     simp only [RepL] at h ⊢
     obtain ⟨v, r, rfl, g1, v2, r2, rfl, g2, rfl⟩ := h
     exact ⟨v, _, rfl, g1, v2, _, rfl, aE7 g2, rfl⟩
 have hin := aDw (n := 0) (t := t)
 have hbl : aAR 0 t = decide (cmpD t (intD (-(aAo 0 : Int))) < 0) := rfl
 have raw := fun h => (aIN t p h (by omega) (by omega)).1
 have hr : aBq 0 true t p = if decide (0 < cmpD t (intD (aAo 0 : Int))) || aAR 0 t && !true then (aAp, 3) else
   if aAR 0 t then (⟨intD (-1), addD (intD (-1)) ⟨false, 1, -(p : Int) - 2⟩⟩, 0) else
   if true then (aD5 0 t p, 0) else (rawQ 0 t p, 0) := rfl
 rw [hr]
 clear hr
 rw [hbl] at hin ⊢
 clear hbl
 generalize intD (-(aAo 0 : Int)) = D2 at *
 generalize intD (aAo 0 : Int) = D1 at *
 generalize cmpD t D1 = q1 at *
 generalize cmpD t D2 = q2 at *
 have raw2 : ¬ 0 < q1 -> ¬ q2 < 0 -> _ := fun g1 g2 => raw (hin g1 (decide_eq_false g2))
 refine aAd Tryz.func11 rfl (by kernel_rfl) aAc Tryz.mixed rfl rfl (by kernel_rfl) ?_
 simp only [aAl, Tryz.ntmps11, dyV, ivV, fxV, fxV]
 repeat' first
  | refine aAa fun K g => ?_
  | refine goK (by assumption) ?_
  | ((first | refine aAk ?_ | refine aAe ?_) <;> try simp only [aAm, aAg, reduceIte, Nat.reduceEqDiff])
  | ((first
  | refine aAU rfl fun os => ?_
  | refine aB7 ?_
  | refine aCR rfl (by kernel_rfl) fun os => ?_
  | refine cxo (aCg _) ?_
  | refine cxo (hfi) ?_
  | refine cxo (h0) ?_
  | refine cxo (aIQ) ?_
  | refine cxo (r1) ?_
  | refine cxd (r2.1) ?_
  | refine cxd (o1) ?_
  | refine cxo (o2) ?_
  | refine cxo (aB9 _) ?_
  | refine cxo (m1) ?_
  | refine cxo (m4) ?_
  | refine cxd (m1) ?_
  | refine cxd (aIQ) ?_
  | refine cxd (raw2 (by omega) (by omega)) ?_
  | simp only [endX, resX, resV, Tryz.results11]) <;> try (simp (disch := omega) only [xq, simprocAttr, dyV, ivV, fxV, fxV, k1, k2, Bool.and_self, Int.zero_sub]))
  | (refine gx (fun c => ?_) (fun c => ?_) <;> first | exact absurd c (by decide) | ((try rw [c]); (try simp only [xn] at c); try (simp (disch := omega) only [xq, simprocAttr, dyV, ivV, fxV, fxV, k1, k2, Bool.and_self, Int.zero_sub])))
  | (refine aAf (by first | rfl | assumption) (fun c => ?_) (fun c => ?_) <;> first | exact absurd c (by decide) | ((try rw [c]); try simp only [xn] at c))
  | (first | (simp [*, aAp, aAY, ivV]; done) | (exfalso; simp_all; done)
     done)
end
section
set_option maxRecDepth 10000
set_option maxHeartbeats 4000000
open Go.RowKit
theorem aKO (x : Nat) (hx : x < 18446744073709551616) (he : bitE x = 2047) (p : Nat) (hp : 8 <= p /\ p <= 2048) : AC Tryz.prog TabW 11 [.lit (.int .u8 5), .lit (.int .u64 ((x : Nat) : Int)), .lit (.int .i64 ((p : Nat) : Int))] (.tup [ivV aAp, .lit (.int .i64 5)]) := by
 have k1 : decide (((p : Nat) : Int) < 8) = false := decide_eq_false (by omega)
 have k2 : decide ((2048 : Int) < ((p : Nat) : Int)) = false := decide_eq_false (by omega)
 have h0 := aB5 x hx
 have hr : aBP x = if bitE x = 2047 then (aAY, 5) else (aBl x, 0) := rfl
 have hfi := aBA x hx
 rw [aCO hx] at hfi
 rw [decide_eq_true he] at hfi
 refine aAd Tryz.func11 rfl (by kernel_rfl) aAc Tryz.mixed rfl rfl (by kernel_rfl) ?_
 simp only [aAl, Tryz.ntmps11, dyV, ivV, fxV, fxV]
 refine aAa fun K1 g1 => ?_
 refine aAb fun os => ?_
 try simp (disch := omega) only [xq, simprocAttr, dyV, ivV, fxV, fxV, k1, k2, Bool.and_self]
 refine g1 _ ?_
 refine aAa fun K2 g2 => ?_
 refine aAa fun K3 g3 => ?_
 refine aAx ?_
 try simp (disch := omega) only [xq, simprocAttr, dyV, ivV, fxV, fxV, k1, k2, Bool.and_self]
 refine cxo (aCg _) ?_
 try simp (disch := omega) only [xq, simprocAttr, dyV, ivV, fxV, fxV, k1, k2, Bool.and_self]
 refine g3 _ ?_
 refine aAf (by first | rfl | assumption) (fun c1 => ?_) (fun c1 => ?_)
 ·exact absurd c1 (by decide)
 ·try simp only [xn] at c1
  refine aAk ?_
  simp only [aAm, aAg, reduceIte, Nat.reduceEqDiff]
  refine g2 _ ?_
  refine aAa fun K4 g4 => ?_
  refine aAa fun K5 g5 => ?_
  refine aAb fun os => ?_
  try simp (disch := omega) only [xq, simprocAttr, dyV, ivV, fxV, fxV, k1, k2, Bool.and_self]
  refine cxo (hfi) ?_
  try simp (disch := omega) only [xq, simprocAttr, dyV, ivV, fxV, fxV, k1, k2, Bool.and_self]
  refine g5 _ ?_
  refine aAf (by first | rfl | assumption) (fun c2 => ?_) (fun c2 => ?_)
  ·try simp only [xn] at c2
   refine aAa fun K6 g6 => ?_
   refine aAb fun os => ?_
   try simp (disch := omega) only [xq, simprocAttr, dyV, ivV, fxV, fxV, k1, k2, Bool.and_self]
   refine g6 _ ?_
   refine aAe ?_
   simp only [aAm, aAg, reduceIte, Nat.reduceEqDiff]
   simp only [endX, resX, resV, Tryz.results11]
   try simp (disch := omega) only [xq, simprocAttr, dyV, ivV, fxV, fxV, k1, k2, Bool.and_self]
   simp only [*, Bool.not_true, Bool.not_false, Bool.false_eq_true, if_true, if_false, reduceIte, ivV, aAp, aAY] <;> rfl
  ·exact absurd c2 (by decide)
theorem aPb (x : Nat) (hx : x < 18446744073709551616) (he : bitE x ≠ 2047) (p : Nat) (hp : 8 <= p /\ p <= 2048) : AC Tryz.prog TabW 11 [.lit (.int .u8 5), .lit (.int .u64 ((x : Nat) : Int)), .lit (.int .i64 ((p : Nat) : Int))] (.tup [ivV (aBq 2 true (aBl x) p).1, .lit (.int .i64 (aBq 2 true (aBl x) p).2)]) := by
 have k1 : decide (((p : Nat) : Int) < 8) = false := decide_eq_false (by omega)
 have k2 : decide ((2048 : Int) < ((p : Nat) : Int)) = false := decide_eq_false (by omega)
 have h0 := aB5 x hx
 have hr : aBP x = if bitE x = 2047 then (aAY, 5) else (aBl x, 0) := rfl
 have hfi := aBA x hx
 rw [aCO hx] at hfi
 rw [if_neg he] at hr
 rw [hr] at h0
 rw [decide_eq_false he] at hfi
 have hz := aCE x
 generalize aBl x = t at *
 have z1 := aAW 16000
 have z2 : bl (16000 : Int).natAbs <= 16 := by decide
 have r1 := aFA
 have hrn : (aAo 2 : Int) = 16000 := rfl
 have r2 := aCF (intD (aAo 2 : Int)) (by rw [hrn]; omega)
 rw [aDq] at r2
 have z3 := aAW (-16000)
 have z4 : bl (-16000 : Int).natAbs <= 16 := by decide
 have o1 := aAI t (intD (-(aAo 2 : Int))) (by rw [hrn]; omega)
 have o2 := aAI t (intD (aAo 2 : Int)) (by rw [hrn]; omega)
 have m1 := (aB4 (-1) (by omega)).1
 have m3 := (aDv (intD (-1)) ⟨false, 1, -(p : Int) - 2⟩ (by
   have a1 := aAW (-1)
   have a2 : bl (-1 : Int).natAbs = 1 := by decide
   have a3 : bl 1 = 1 := by decide
   have a4 : ae ⟨false, 1, -(p : Int) - 2⟩ <= 3000 := by unfold ae; show (-(p : Int) - 2).natAbs <= _; omega
   show 2 * bl (intD (-1)).m + 2 * bl 1 + ae (intD (-1)) + ae ⟨false, 1, -(p : Int) - 2⟩ <= _
   omega)).1
 have m4 : AC Tryz.prog TabW 36 [dyV (intD (-1)), .agg [.lit (.bool false), .arr 1 [.lit (.int .u64 1)], .lit (.int .i64 (-(p : Int) - 2))]] (dyV (addD (intD (-1)) ⟨false, 1, -(p : Int) - 2⟩)) :=
   m3.arg fun S β w vs h => by
     simp only [RepL] at h ⊢
     obtain ⟨v, r, rfl, g1, v2, r2, rfl, g2, rfl⟩ := h
     exact ⟨v, _, rfl, g1, v2, _, rfl, aE7 g2, rfl⟩
 have hin := aDw (n := 2) (t := t)
 have hbl : aAR 2 t = decide (cmpD t (intD (-(aAo 2 : Int))) < 0) := rfl
 have raw := fun h => (aIM t p h (by omega) (by omega)).1
 have hr : aBq 2 true t p = if decide (0 < cmpD t (intD (aAo 2 : Int))) || aAR 2 t && !true then (aAp, 3) else
   if aAR 2 t then (⟨intD (-1), addD (intD (-1)) ⟨false, 1, -(p : Int) - 2⟩⟩, 0) else
   if true then (aD5 2 t p, 0) else (rawQ 2 t p, 0) := rfl
 rw [hr]
 clear hr
 rw [hbl] at hin ⊢
 clear hbl
 generalize intD (-(aAo 2 : Int)) = D2 at *
 generalize intD (aAo 2 : Int) = D1 at *
 generalize cmpD t D1 = q1 at *
 generalize cmpD t D2 = q2 at *
 have raw2 : ¬ 0 < q1 -> ¬ q2 < 0 -> _ := fun g1 g2 => raw (hin g1 (decide_eq_false g2))
 refine aAd Tryz.func11 rfl (by kernel_rfl) aAc Tryz.mixed rfl rfl (by kernel_rfl) ?_
 simp only [aAl, Tryz.ntmps11, dyV, ivV, fxV, fxV]
 repeat' first
  | refine aAa fun K g => ?_
  | refine goK (by assumption) ?_
  | ((first | refine aAk ?_ | refine aAe ?_) <;> try simp only [aAm, aAg, reduceIte, Nat.reduceEqDiff])
  | ((first
  | refine aAU rfl fun os => ?_
  | refine aB7 ?_
  | refine aCR rfl (by kernel_rfl) fun os => ?_
  | refine cxo (aCg _) ?_
  | refine cxo (hfi) ?_
  | refine cxo (h0) ?_
  | refine cxo (aIP) ?_
  | refine cxo (r1) ?_
  | refine cxd (r2.1) ?_
  | refine cxd (o1) ?_
  | refine cxo (o2) ?_
  | refine cxo (aB9 _) ?_
  | refine cxo (m1) ?_
  | refine cxo (m4) ?_
  | refine cxd (m1) ?_
  | refine cxd (aIP) ?_
  | refine cxd (raw2 (by omega) (by omega)) ?_
  | simp only [endX, resX, resV, Tryz.results11]) <;> try (simp (disch := omega) only [xq, simprocAttr, dyV, ivV, fxV, fxV, k1, k2, Bool.and_self, Int.zero_sub]))
  | (refine gx (fun c => ?_) (fun c => ?_) <;> first | exact absurd c (by decide) | ((try rw [c]); (try simp only [xn] at c); try (simp (disch := omega) only [xq, simprocAttr, dyV, ivV, fxV, fxV, k1, k2, Bool.and_self, Int.zero_sub])))
  | (refine aAf (by first | rfl | assumption) (fun c => ?_) (fun c => ?_) <;> first | exact absurd c (by decide) | ((try rw [c]); try simp only [xn] at c))
  | (first | (simp [*, aAp, aAY, ivV]; done) | (exfalso; simp_all; done)
     done)
theorem aKN (x : Nat) (hx : x < 18446744073709551616) (he : bitE x = 2047) (p : Nat) (hp : 8 <= p /\ p <= 2048) : AC Tryz.prog TabW 11 [.lit (.int .u8 6), .lit (.int .u64 ((x : Nat) : Int)), .lit (.int .i64 ((p : Nat) : Int))] (.tup [ivV aAp, .lit (.int .i64 5)]) := by
 have k1 : decide (((p : Nat) : Int) < 8) = false := decide_eq_false (by omega)
 have k2 : decide ((2048 : Int) < ((p : Nat) : Int)) = false := decide_eq_false (by omega)
 have h0 := aB5 x hx
 have hr : aBP x = if bitE x = 2047 then (aAY, 5) else (aBl x, 0) := rfl
 have hfi := aBA x hx
 rw [aCO hx] at hfi
 rw [decide_eq_true he] at hfi
 refine aAd Tryz.func11 rfl (by kernel_rfl) aAc Tryz.mixed rfl rfl (by kernel_rfl) ?_
 simp only [aAl, Tryz.ntmps11, dyV, ivV, fxV, fxV]
 refine aAa fun K1 g1 => ?_
 refine aAb fun os => ?_
 try simp (disch := omega) only [xq, simprocAttr, dyV, ivV, fxV, fxV, k1, k2, Bool.and_self]
 refine g1 _ ?_
 refine aAa fun K2 g2 => ?_
 refine aAa fun K3 g3 => ?_
 refine aAx ?_
 try simp (disch := omega) only [xq, simprocAttr, dyV, ivV, fxV, fxV, k1, k2, Bool.and_self]
 refine cxo (aCg _) ?_
 try simp (disch := omega) only [xq, simprocAttr, dyV, ivV, fxV, fxV, k1, k2, Bool.and_self]
 refine g3 _ ?_
 refine aAf (by first | rfl | assumption) (fun c1 => ?_) (fun c1 => ?_)
 ·exact absurd c1 (by decide)
 ·try simp only [xn] at c1
  refine aAk ?_
  simp only [aAm, aAg, reduceIte, Nat.reduceEqDiff]
  refine g2 _ ?_
  refine aAa fun K4 g4 => ?_
  refine aAa fun K5 g5 => ?_
  refine aAb fun os => ?_
  try simp (disch := omega) only [xq, simprocAttr, dyV, ivV, fxV, fxV, k1, k2, Bool.and_self]
  refine cxo (hfi) ?_
  try simp (disch := omega) only [xq, simprocAttr, dyV, ivV, fxV, fxV, k1, k2, Bool.and_self]
  refine g5 _ ?_
  refine aAf (by first | rfl | assumption) (fun c2 => ?_) (fun c2 => ?_)
  ·try simp only [xn] at c2
   refine aAa fun K6 g6 => ?_
   refine aAb fun os => ?_
   try simp (disch := omega) only [xq, simprocAttr, dyV, ivV, fxV, fxV, k1, k2, Bool.and_self]
   refine g6 _ ?_
   refine aAe ?_
   simp only [aAm, aAg, reduceIte, Nat.reduceEqDiff]
   simp only [endX, resX, resV, Tryz.results11]
   try simp (disch := omega) only [xq, simprocAttr, dyV, ivV, fxV, fxV, k1, k2, Bool.and_self]
   simp only [*, Bool.not_true, Bool.not_false, Bool.false_eq_true, if_true, if_false, reduceIte, ivV, aAp, aAY] <;> rfl
  ·exact absurd c2 (by decide)
theorem aPa (x : Nat) (hx : x < 18446744073709551616) (he : bitE x ≠ 2047) (p : Nat) (hp : 8 <= p /\ p <= 2048) : AC Tryz.prog TabW 11 [.lit (.int .u8 6), .lit (.int .u64 ((x : Nat) : Int)), .lit (.int .i64 ((p : Nat) : Int))] (.tup [ivV (aBq 10 true (aBl x) p).1, .lit (.int .i64 (aBq 10 true (aBl x) p).2)]) := by
 have k1 : decide (((p : Nat) : Int) < 8) = false := decide_eq_false (by omega)
 have k2 : decide ((2048 : Int) < ((p : Nat) : Int)) = false := decide_eq_false (by omega)
 have h0 := aB5 x hx
 have hr : aBP x = if bitE x = 2047 then (aAY, 5) else (aBl x, 0) := rfl
 have hfi := aBA x hx
 rw [aCO hx] at hfi
 rw [if_neg he] at hr
 rw [hr] at h0
 rw [decide_eq_false he] at hfi
 have hz := aCE x
 generalize aBl x = t at *
 have z1 := aAW 4800
 have z2 : bl (4800 : Int).natAbs <= 16 := by decide
 have r1 := aFe
 have hrn : (aAo 10 : Int) = 4800 := rfl
 have r2 := aCF (intD (aAo 10 : Int)) (by rw [hrn]; omega)
 rw [aDq] at r2
 have z3 := aAW (-4800)
 have z4 : bl (-4800 : Int).natAbs <= 16 := by decide
 have o1 := aAI t (intD (-(aAo 10 : Int))) (by rw [hrn]; omega)
 have o2 := aAI t (intD (aAo 10 : Int)) (by rw [hrn]; omega)
 have m1 := (aB4 (-1) (by omega)).1
 have m3 := (aDv (intD (-1)) ⟨false, 1, -(p : Int) - 2⟩ (by
   have a1 := aAW (-1)
   have a2 : bl (-1 : Int).natAbs = 1 := by decide
   have a3 : bl 1 = 1 := by decide
   have a4 : ae ⟨false, 1, -(p : Int) - 2⟩ <= 3000 := by unfold ae; show (-(p : Int) - 2).natAbs <= _; omega
   show 2 * bl (intD (-1)).m + 2 * bl 1 + ae (intD (-1)) + ae ⟨false, 1, -(p : Int) - 2⟩ <= _
   omega)).1
 have m4 : AC Tryz.prog TabW 36 [dyV (intD (-1)), .agg [.lit (.bool false), .arr 1 [.lit (.int .u64 1)], .lit (.int .i64 (-(p : Int) - 2))]] (dyV (addD (intD (-1)) ⟨false, 1, -(p : Int) - 2⟩)) :=
   m3.arg fun S β w vs h => by
     simp only [RepL] at h ⊢
     obtain ⟨v, r, rfl, g1, v2, r2, rfl, g2, rfl⟩ := h
     exact ⟨v, _, rfl, g1, v2, _, rfl, aE7 g2, rfl⟩
 have hin := aDw (n := 10) (t := t)
 have hbl : aAR 10 t = decide (cmpD t (intD (-(aAo 10 : Int))) < 0) := rfl
 have raw := fun h => (aHO t p h (by omega) (by omega)).1
 have hr : aBq 10 true t p = if decide (0 < cmpD t (intD (aAo 10 : Int))) || aAR 10 t && !true then (aAp, 3) else
   if aAR 10 t then (⟨intD (-1), addD (intD (-1)) ⟨false, 1, -(p : Int) - 2⟩⟩, 0) else
   if true then (aD5 10 t p, 0) else (rawQ 10 t p, 0) := rfl
 rw [hr]
 clear hr
 rw [hbl] at hin ⊢
 clear hbl
 generalize intD (-(aAo 10 : Int)) = D2 at *
 generalize intD (aAo 10 : Int) = D1 at *
 generalize cmpD t D1 = q1 at *
 generalize cmpD t D2 = q2 at *
 have raw2 : ¬ 0 < q1 -> ¬ q2 < 0 -> _ := fun g1 g2 => raw (hin g1 (decide_eq_false g2))
 refine aAd Tryz.func11 rfl (by kernel_rfl) aAc Tryz.mixed rfl rfl (by kernel_rfl) ?_
 simp only [aAl, Tryz.ntmps11, dyV, ivV, fxV, fxV]
 repeat' first
  | refine aAa fun K g => ?_
  | refine goK (by assumption) ?_
  | ((first | refine aAk ?_ | refine aAe ?_) <;> try simp only [aAm, aAg, reduceIte, Nat.reduceEqDiff])
  | ((first
  | refine aAU rfl fun os => ?_
  | refine aB7 ?_
  | refine aCR rfl (by kernel_rfl) fun os => ?_
  | refine cxo (aCg _) ?_
  | refine cxo (hfi) ?_
  | refine cxo (h0) ?_
  | refine cxo (aIO) ?_
  | refine cxo (r1) ?_
  | refine cxd (r2.1) ?_
  | refine cxd (o1) ?_
  | refine cxo (o2) ?_
  | refine cxo (aB9 _) ?_
  | refine cxo (m1) ?_
  | refine cxo (m4) ?_
  | refine cxd (m1) ?_
  | refine cxd (aIO) ?_
  | refine cxd (raw2 (by omega) (by omega)) ?_
  | simp only [endX, resX, resV, Tryz.results11]) <;> try (simp (disch := omega) only [xq, simprocAttr, dyV, ivV, fxV, fxV, k1, k2, Bool.and_self, Int.zero_sub]))
  | (refine gx (fun c => ?_) (fun c => ?_) <;> first | exact absurd c (by decide) | ((try rw [c]); (try simp only [xn] at c); try (simp (disch := omega) only [xq, simprocAttr, dyV, ivV, fxV, fxV, k1, k2, Bool.and_self, Int.zero_sub])))
  | (refine aAf (by first | rfl | assumption) (fun c => ?_) (fun c => ?_) <;> first | exact absurd c (by decide) | ((try rw [c]); try simp only [xn] at c))
  | (first | (simp [*, aAp, aAY, ivV]; done) | (exfalso; simp_all; done)
     done)
end
section
theorem aLZ (f : Int) (x : Nat) (hx : x < 18446744073709551616) (p : Int) : AC Tryz.prog TabW 11 [.lit (.int .u8 f), .lit (.int .u64 ((x : Nat) : Int)), .lit (.int .i64 p)] (.tup [ivV (refE f x p).1, .lit (.int .i64 (refE f x p).2)]) := by
 unfold refE
 by_cases h : noE f p
 · rw [if_pos h]; exact aNa f x p h
 · rw [if_neg h]
   unfold noE at h
   obtain ⟨k, rfl⟩ := Int.eq_ofNat_of_zero_le (show 0 <= p by omega)
   rw [Int.toNat_natCast]
   by_cases he : bitE x = 2047
   · rw [if_pos he]
     rcases six (f := f) (by omega) with rfl | rfl | rfl | rfl | rfl | rfl
     · exact aKS x hx he k (by omega)
     · exact aKR x hx he k (by omega)
     · exact aKQ x hx he k (by omega)
     · exact aKP x hx he k (by omega)
     · exact aKO x hx he k (by omega)
     · exact aKN x hx he k (by omega)
   · rw [if_neg he]
     rcases six (f := f) (by omega) with rfl | rfl | rfl | rfl | rfl | rfl
     · exact aPf x hx he k (by omega)
     · exact aPe x hx he k (by omega)
     · exact aPd x hx he k (by omega)
     · exact aPc x hx he k (by omega)
     · exact aPb x hx he k (by omega)
     · exact aPa x hx he k (by omega)
theorem aVh (f : Int) (x : Nat) (p : Int) : ib (refE f x p).1 <= 20000 /\ ie (refE f x p).1 <= 66000000 := by
 have hz := aE2
 unfold refE
 by_cases h1 : noE f p
 · rw [if_pos h1]; show ib aAp <= _ /\ ie aAp <= _; omega
 · rw [if_neg h1]
   by_cases h2 : bitE x = 2047
   · rw [if_pos h2]; show ib aAp <= _ /\ ie aAp <= _; omega
   · rw [if_neg h2]
     unfold noE at h1
     have hx := aCE x
     obtain ⟨k, rfl⟩ := Int.eq_ofNat_of_zero_le (show 0 <= p by omega)
     rw [Int.toNat_natCast]
     generalize aBl x = t at *
     have hlow : ib ⟨intD (-1), addD (intD (-1)) ⟨false, 1, -((k : Nat) : Int) - 2⟩⟩ <= 20000 /\ ie ⟨intD (-1), addD (intD (-1)) ⟨false, 1, -((k : Nat) : Int) - 2⟩⟩ <= 66000000 := by
       have a1 := aAW (-1)
       have a2 : bl (-1 : Int).natAbs = 1 := by decide
       have a3 : bl 1 = 1 := by decide
       have a4 : ae ⟨false, 1, -((k : Nat) : Int) - 2⟩ <= 2050 := by unfold ae; show (-((k : Nat) : Int) - 2).natAbs <= _; omega
       have a5 := aEM (intD (-1)) ⟨false, 1, -((k : Nat) : Int) - 2⟩
       have a6 : bl (⟨false, 1, -((k : Nat) : Int) - 2⟩ : D).m = 1 := a3
       exact mk_b (by omega) (by omega)
     have hin := fun n => aDw (n := n) (t := t)
     unfold aBq
     by_cases c1 : (decide (0 < cmpD t (intD (aAo (fB f) : Int))) || aAR (fB f) t && !fL f) = true
     · rw [if_pos c1]; show ib aAp <= _ /\ ie aAp <= _; omega
     · rw [if_neg c1]
       by_cases c2 : aAR (fB f) t = true
       · rw [if_pos c2]; exact hlow
       · rw [if_neg c2]
         simp only [Bool.or_eq_true, decide_eq_true_eq, not_or] at c1
         have hin := hin (fB f) c1.1 (by simpa using c2)
         rcases aEa f with hn | hn | hn <;> rw [hn] at hin ⊢
         · have r1 := (aHr t k hin (by omega) (by omega)).2
           have r2 := (aIN t k hin (by omega) (by omega)).2
           split
           · show ib (aD5 0 t k) <= _ /\ ie (aD5 0 t k) <= _; omega
           · show ib (rawQ 0 t k) <= _ /\ ie (rawQ 0 t k) <= _; omega
         · have r1 := (aHq t k hin (by omega) (by omega)).2
           have r2 := (aIM t k hin (by omega) (by omega)).2
           split
           · show ib (aD5 2 t k) <= _ /\ ie (aD5 2 t k) <= _; omega
           · show ib (rawQ 2 t k) <= _ /\ ie (rawQ 2 t k) <= _; omega
         · have r1 := (aGw t k hin (by omega) (by omega)).2
           have r2 := (aHO t k hin (by omega) (by omega)).2
           split
           · show ib (aD5 10 t k) <= _ /\ ie (aD5 10 t k) <= _; omega
           · show ib (rawQ 10 t k) <= _ /\ ie (rawQ 10 t k) <= _; omega
end
section
set_option maxRecDepth 10000
set_option maxHeartbeats 4000000
open Go.RowKit
theorem aNY (f : Int) (x : Nat) (hx : x < 18446744073709551616) (p : Int) : AC Tryz.prog TabF 3 [.lit (.int .u8 f), .lit (.int .u64 ((x : Nat) : Int)), .lit (.int .i64 p)] (.lit (.bool true)) := by
 have e1 := aBj f x hx p
 have e2 := aLZ f x hx p
 have s1 := aBu f x p
 have s2 := aVh f x p
 have hl := aMe (aHa f x p)
 have hpp : (p <= 1000000000000 /\ -1000000000000 <= p) \/ (refE f x p).2 ≠ 0 \/ (aAq f x p).2 ≠ 0 := by
   by_cases h : (aAq f x p).2 = 0
   · have := (aAJ h).2.1; omega
   · exact .inr (.inr h)
 have e3 := aOr (aAq f x p).1 (aAq f x p).2 (refE f x p).1 (refE f x p).2 p (by omega) hpp
 rw [hl] at e3
 clear hpp hl
 have i1 := aDZ f
 have i2 := aCg f
 generalize (decide (1 <= f) && decide (f <= 6)) = isB at *
 generalize aAq f x p = A at *
 generalize refE f x p = Bq at *
 refine aAd Tryz.func3 rfl (by kernel_rfl) aCo Tryz.mixed rfl rfl (by kernel_rfl) ?_
 simp only [aAl, Tryz.ntmps3, dyV, ivV, fxV, fxV]
 refine aAa fun K1 g1 => ?_
 refine aAb fun os => ?_
 try simp (disch := omega) only [xq, simprocAttr, dyV, ivV, fxV, fxV, beq_self_eq_true, if_true]
 refine g1 _ ?_
 refine aAa fun K2 g2 => ?_
 refine aAb fun os => ?_
 try simp (disch := omega) only [xq, simprocAttr, dyV, ivV, fxV, fxV, beq_self_eq_true, if_true]
 refine cxo (e1) ?_
 try simp (disch := omega) only [xq, simprocAttr, dyV, ivV, fxV, fxV, beq_self_eq_true, if_true]
 refine g2 _ ?_
 refine aAa fun K3 g3 => ?_
 refine aAb fun os => ?_
 try simp (disch := omega) only [xq, simprocAttr, dyV, ivV, fxV, fxV, beq_self_eq_true, if_true]
 refine cxo (AC.weak (e2) fun _ q => q.1) ?_
 try simp (disch := omega) only [xq, simprocAttr, dyV, ivV, fxV, fxV, beq_self_eq_true, if_true]
 refine g3 _ ?_
 refine aAa fun K4 g4 => ?_
 refine aAx ?_
 try simp (disch := omega) only [xq, simprocAttr, dyV, ivV, fxV, fxV, beq_self_eq_true, if_true]
 refine cxo (aCD) ?_
 try simp (disch := omega) only [xq, simprocAttr, dyV, ivV, fxV, fxV, beq_self_eq_true, if_true]
 refine cxo (AC.weak (i1) fun _ q => q.1) ?_
 try simp (disch := omega) only [xq, simprocAttr, dyV, ivV, fxV, fxV, beq_self_eq_true, if_true]
 refine cxo (AC.weak (i2) fun _ q => q.1) ?_
 try simp (disch := omega) only [xq, simprocAttr, dyV, ivV, fxV, fxV, beq_self_eq_true, if_true]
 refine cxo (AC.weak (e3) fun _ q => q.1) ?_
 try simp (disch := omega) only [xq, simprocAttr, dyV, ivV, fxV, fxV, beq_self_eq_true, if_true]
 refine g4 _ ?_
 refine aAe ?_
 simp only [endX, resX, resV, Tryz.results3]
 try simp (disch := omega) only [xq, simprocAttr, dyV, ivV, fxV, fxV, beq_self_eq_true, if_true]
 first | done | rfl
end
end Go.Proofs.YtgdkokgeldnliaaGreatDoor
