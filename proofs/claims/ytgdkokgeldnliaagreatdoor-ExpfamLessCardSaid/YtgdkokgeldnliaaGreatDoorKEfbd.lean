/- Contracts of functions and plain lemmas that the laws of this seat lean on. -/
import Derived.Test.YtgdkokgeldnliaaGreatDoorKEfab
import Derived.Test.YtgdkokgeldnliaaGreatDoorKEfac
import Derived.Test.YtgdkokgeldnliaaGreatDoorKEfae
import Derived.Test.YtgdkokgeldnliaaGreatDoorKEfag
import Derived.Test.YtgdkokgeldnliaaGreatDoorKEfai
import Derived.Test.YtgdkokgeldnliaaGreatDoorKEfaj
import Derived.Test.YtgdkokgeldnliaaGreatDoorKEfak
import Derived.Test.YtgdkokgeldnliaaGreatDoorKEfam
import Derived.Test.YtgdkokgeldnliaaGreatDoorKEfao
import Derived.Test.YtgdkokgeldnliaaGreatDoorKEfap
import Derived.Test.YtgdkokgeldnliaaGreatDoorRows
import Derived.WalkKit
import Derived.WalkSpells
import Derived.WalkLawsBesides
import Derived.Lib.Hide
import Derived.Deep.QuietTactic
import Derived.BigQuiet
import Derived.Test.YtgdkokgeldnliaaGreatDoorShelf
import Derived.Lib.BitFns
import Derived.Lib.ItoaNum
import Derived.Lib.TrailingZeros
import Derived.Deep.DeepCutAuto
import Derived.Deep.CutBlock
import Derived.Laws.AppendOwn
import Derived.Laws.AppendOwnNone
import Derived.Laws.CopyOwn
import Derived.StillTail
import Derived.Below
import Derived.Deep.MidRow
import Derived.Laws.Tables
import Derived.Laws.CopyRow
import Derived.IntWalk
import Derived.RegionTactic
namespace Go.Proofs.YtgdkokgeldnliaaGreatDoor
set_option linter.unusedSimpArgs false
set_option linter.unusedVariables false
set_option linter.unusedSectionVars false
set_option linter.constructorNameAsVariable false
set_option linter.unnecessarySimpa false
section
theorem aTy {n p q : Nat} {t : D} (hn : n = 0 \/ n = 2 \/ n = 10) {A B : Iv} (ha : aDx n true t p A) (hb : aDx n false t q B) : A.lo.v <= B.hi.v - 1 /\ B.lo.v - 1 <= A.hi.v := by
 obtain ⟨⟨u, l, l1, l2, l3, l4⟩, _⟩ := ha
 obtain ⟨⟨u', l', k1, k2, k3, k4⟩, _⟩ := hb
 obtain ⟨c, _, c1, c2, _⟩ := aF4 hn l1 k1 k1
 have e1 : aDz true = 1 := rfl
 have e0 : aDz false = 0 := rfl
 rw [e1] at l3 l4
 rw [e0, Rat.add_zero] at k3 k4
 have g1 := aAM l3 k4 (Rat.le_trans (l2 c c1).1 (k2 c c2).2)
 have g2 := aAM k3 l4 (Rat.le_trans (k2 c c2).1 (l2 c c1).2)
 constructor <;> grind
end
section
set_option maxRecDepth 10000
set_option maxHeartbeats 1000000
open Go.RowKit
theorem aRp (f : Int) (h : 4 <= f /\ f <= 6) : AC Tryz.prog TabW 23 [.lit (.int .u8 f)] (.lit (.int .u8 (f - 3))) := by
 have w1 : IntKind.u8.wrap (f - 4) = f - 4 := by show (f - 4) % 256 = f - 4; omega
 have w2 : IntKind.u8.wrap (f - 4 + 1) = f - 3 := by show (f - 4 + 1) % 256 = f - 3; omega
 refine aAd Tryz.func23 rfl (by kernel_rfl) aAc Tryz.mixed rfl rfl (by kernel_rfl) ?_
 simp only [aAl, Tryz.ntmps23, dyV, ivV, fxV, fxV]
 refine aAa fun K1 g1 => ?_
 refine aAb fun os => ?_
 try simp (disch := omega) only [xq, simprocAttr, dyV, ivV, fxV, fxV, w1, w2]
 refine g1 _ ?_
 refine aAa fun K2 g2 => ?_
 refine aAb fun os => ?_
 try simp (disch := omega) only [xq, simprocAttr, dyV, ivV, fxV, fxV, w1, w2]
 refine g2 _ ?_
 refine aAe ?_
 simp only [endX, resX, resV, Tryz.results23]
 try simp (disch := omega) only [xq, simprocAttr, dyV, ivV, fxV, fxV, w1, w2]
 first | done | rfl
end
section
theorem aTO {f : Int} (h : 4 <= f /\ f <= 6) : fB (f - 3) = fB f /\ fL f = true /\ fL (f - 3) = false := by
 rcases (show f = 4 \/ f = 5 \/ f = 6 by omega) with rfl | rfl | rfl <;> decide
theorem aTz {f : Int} {x : Nat} {p q : Int} (hf : 4 <= f /\ f <= 6) (h1 : (aAq f x p).2 = 0) (h2 : (aAq (f - 3) x q).2 = 0) :
   cmpD (aAq f x p).1.lo (addD (aAq (f - 3) x q).1.hi (negD (intD 1))) <= 0 /\ cmpD (addD (aAq (f - 3) x q).1.lo (negD (intD 1))) (aAq f x p).1.hi <= 0 := by
 obtain ⟨e1, e2, e3⟩ := aTO hf
 have a := (aAJ h1).2.2.2.2.1
 have b := (aAJ h2).2.2.2.2.1
 rw [e2] at a
 rw [e1, e3] at b
 have := aTy (aEa f) a b
 have e : ((1 : Int) : Rat) = 1 := rfl
 rw [aCV, aCV, aQi, aQi, aEw, e]
 exact this
end
section
set_option maxRecDepth 10000
set_option maxHeartbeats 4000000
open Go.RowKit
theorem aSy (f : Int) (x : Nat) (p q : Int) (hf : ¬ (4 <= f /\ f <= 6)) : AC Tryz.prog TabF 5 [.lit (.int .u8 f), .lit (.int .u64 ((x : Nat) : Int)), .lit (.int .i64 p), .lit (.int .i64 q)] (.lit (.bool true)) := by
 have l1 := aB9 f
 rw [<- Bool.decide_and, decide_eq_false hf] at l1
 refine aAd Tryz.func5 rfl (by kernel_rfl) aCo Tryz.mixed rfl rfl (by kernel_rfl) ?_
 simp only [aAl, Tryz.ntmps5, dyV, ivV, fxV, fxV]
 refine aAa fun K1 g1 => ?_
 refine aAb fun os => ?_
 try simp (disch := omega) only [xq, simprocAttr, dyV, ivV, fxV, fxV]
 refine g1 _ ?_
 refine aAa fun K2 g2 => ?_
 refine aAa fun K3 g3 => ?_
 refine aAx ?_
 try simp (disch := omega) only [xq, simprocAttr, dyV, ivV, fxV, fxV]
 refine cxo (aCD) ?_
 try simp (disch := omega) only [xq, simprocAttr, dyV, ivV, fxV, fxV]
 refine cxo (AC.weak (l1) fun _ q => q.1) ?_
 try simp (disch := omega) only [xq, simprocAttr, dyV, ivV, fxV, fxV]
 refine g3 _ ?_
 refine aAf (by first | rfl | assumption) (fun c1 => ?_) (fun c1 => ?_)
 ·try simp only [xn] at c1
  refine aAa fun K4 g4 => ?_
  refine aAb fun os => ?_
  try simp (disch := omega) only [xq, simprocAttr, dyV, ivV, fxV, fxV]
  refine cxo (aCD) ?_
  try simp (disch := omega) only [xq, simprocAttr, dyV, ivV, fxV, fxV]
  refine g4 _ ?_
  refine aAe ?_
  simp only [aAm, aAg, reduceIte, Nat.reduceEqDiff]
  simp only [endX, resX, resV, Tryz.results5]
  try simp (disch := omega) only [xq, simprocAttr, dyV, ivV, fxV, fxV]
  first | done | rfl
 ·exact absurd c1 (by decide)
theorem aPO (f : Int) (x : Nat) (hx : x < 18446744073709551616) (p q : Int) (hf : 4 <= f /\ f <= 6) : AC Tryz.prog TabF 5 [.lit (.int .u8 f), .lit (.int .u64 ((x : Nat) : Int)), .lit (.int .i64 p), .lit (.int .i64 q)] (.lit (.bool true)) := by
 have l1 := aB9 f
 rw [<- Bool.decide_and, decide_eq_true hf] at l1
 have e1 := aBj f x hx p
 have e2 := aBj (f - 3) x hx q
 have s1 := aBu f x p
 have s2 := aBu (f - 3) x q
 have d1 := aBY (aAq f x p).1 (aAq f x p).2 (by have := aBu f x p; omega) (fun h => (aAJ h).2.2.2.1)
 have d2 := aBY (aAq (f - 3) x q).1 (aAq (f - 3) x q).2 (by have := aBu (f - 3) x q; omega) (fun h => (aAJ h).2.2.2.1)
 have hlaw := fun h1 h2 => aTz (x := x) (p := p) (q := q) hf h1 h2
 generalize aAq f x p = A at *
 generalize aAq (f - 3) x q = Bq at *
 have vA := aBe A.1
 have vB := aBe Bq.1
 have z1 := aAW 1
 have b1 : bl (1 : Int).natAbs = 1 := by decide
 have m1 := aFO Bq.1.lo (intD 1) (by omega)
 have m2 := aFO Bq.1.hi (intD 1) (by omega)
 have i1 := (aB4 1 (by omega)).1
 generalize addD Bq.1.lo (negD (intD 1)) = Lo at *
 generalize addD Bq.1.hi (negD (intD 1)) = Hi at *
 generalize intD 1 = D1 at *
 have o1 := aAI A.1.lo Hi (by omega)
 have o2 := aAI Lo A.1.hi (by omega)
 generalize cmpD A.1.lo Hi = q1 at *
 generalize cmpD Lo A.1.hi = q2 at *
 refine aAd Tryz.func5 rfl (by kernel_rfl) aCo Tryz.mixed rfl rfl (by kernel_rfl) ?_
 simp only [aAl, Tryz.ntmps5, dyV, ivV, fxV, fxV]
 repeat' first
  | refine aAa fun K g => ?_
  | refine goK (by assumption) ?_
  | ((first | refine aAk ?_ | refine aAe ?_) <;> try simp only [aAm, aAg, reduceIte, Nat.reduceEqDiff])
  | ((first
  | refine aAU rfl fun os => ?_
  | refine aB7 ?_
  | refine aCR rfl (by kernel_rfl) fun os => ?_
  | refine cxo (aCD) ?_
  | refine cxo (AC.weak (l1) fun _ q => q.1) ?_
  | refine cxo (e1) ?_
  | refine cxo (AC.weak (d1) fun _ q => q.1) ?_
  | refine cxo (AC.weak (aRp _ hf) fun _ q => q.1) ?_
  | refine cxo (e2) ?_
  | refine cxo (AC.weak (d2) fun _ q => q.1) ?_
  | refine cxd (AC.weak (i1) fun _ q => q.1) ?_
  | refine cxd (AC.weak (m1.1) fun _ q => q.1) ?_
  | refine cxd (AC.weak (m2.1) fun _ q => q.1) ?_
  | refine cxo (AC.weak (o1) fun _ q => q.1) ?_
  | refine cxo (AC.weak (o2) fun _ q => q.1) ?_
  | simp only [endX, resX, resV, Tryz.results5]) <;> try (simp (disch := omega) only [xq, simprocAttr, dyV, ivV, fxV, fxV]))
  | (refine gx (fun c => ?_) (fun c => ?_) <;> first | exact absurd c (by decide) | ((try rw [c]); (try simp only [xn] at c); try (simp (disch := omega) only [xq, simprocAttr, dyV, ivV, fxV, fxV])))
  | (refine aAf (by first | rfl | assumption) (fun c => ?_) (fun c => ?_) <;> first | exact absurd c (by decide) | ((try rw [c]); try simp only [xn] at c))
  | (first | done | rfl | (exfalso; obtain ⟨y1, y2⟩ := hlaw (by assumption) (by assumption); omega) | (obtain ⟨y1, y2⟩ := hlaw (by assumption) (by assumption); simp only [decide_eq_true y1, decide_eq_true y2, Bool.and_self]; done) | (obtain ⟨y1, y2⟩ := hlaw (by assumption) (by assumption); simp [y1, y2]; done)
     done)
theorem aWk (f : Int) (x : Nat) (hx : x < 18446744073709551616) (p q : Int) : AC Tryz.prog TabF 5 [.lit (.int .u8 f), .lit (.int .u64 ((x : Nat) : Int)), .lit (.int .i64 p), .lit (.int .i64 q)] (.lit (.bool true)) := by
 by_cases hf : 4 <= f /\ f <= 6
 · exact aPO f x hx p q hf
 · exact aSy f x p q hf
end
end Go.Proofs.YtgdkokgeldnliaaGreatDoor
