/- Contracts of functions and plain lemmas that the laws of this seat lean on. -/
import Derived.Test.YtgdkokgeldnliaaGreatDoorKEfaa
import Derived.Test.YtgdkokgeldnliaaGreatDoorKEfab
import Derived.Test.YtgdkokgeldnliaaGreatDoorKEfac
import Derived.Test.YtgdkokgeldnliaaGreatDoorKEfae
import Derived.Test.YtgdkokgeldnliaaGreatDoorKEfaf
import Derived.Test.YtgdkokgeldnliaaGreatDoorKEfag
import Derived.Test.YtgdkokgeldnliaaGreatDoorKEfah
import Derived.Test.YtgdkokgeldnliaaGreatDoorKEfai
import Derived.Test.YtgdkokgeldnliaaGreatDoorKEfaj
import Derived.Test.YtgdkokgeldnliaaGreatDoorKEfak
import Derived.Test.YtgdkokgeldnliaaGreatDoorKEfam
import Derived.Test.YtgdkokgeldnliaaGreatDoorKEfan
import Derived.Test.YtgdkokgeldnliaaGreatDoorKEfao
import Derived.Test.YtgdkokgeldnliaaGreatDoorKEfap
import Derived.Test.YtgdkokgeldnliaaGreatDoorKEfas
import Derived.Test.YtgdkokgeldnliaaGreatDoorKEfau
import Derived.Test.YtgdkokgeldnliaaGreatDoorRows
import Derived.WalkKit
import Derived.WalkSpells
import Derived.WalkLawsBesides
import Derived.Lib.Hide
import Derived.Deep.QuietTactic
import Derived.BigQuiet
import Derived.Test.YtgdkokgeldnliaaGreatDoorShelf
import Derived.Lib.BitFns
import Derived.Lib.ItoaNum
import Derived.Lib.TrailingZeros
import Derived.Deep.DeepCutAuto
import Derived.Deep.CutBlock
import Derived.Laws.AppendOwn
import Derived.Laws.AppendOwnNone
import Derived.Laws.CopyOwn
import Derived.StillTail
import Derived.Below
import Derived.Deep.MidRow
import Derived.Laws.Tables
import Derived.Laws.CopyRow
import Derived.IntWalk
import Derived.RegionTactic
namespace Go.Proofs.YtgdkokgeldnliaaGreatDoor
set_option linter.unusedSimpArgs false
set_option linter.unusedVariables false
set_option linter.unusedSectionVars false
set_option linter.constructorNameAsVariable false
set_option linter.unnecessarySimpa false
section
theorem aNb {n p q r : Nat} {t s z : D} (hn : n = 0 \/ n = 2 \/ n = 10) {A B C : Iv} (ha : aDx n false t p A) (hb : aDx n false s q B) (hc : aDx n false z r C) (hz : z.v = t.v + s.v) {m : Int} (hm : 1 <= m) :
   C.lo.v <= (aAF A B m).hi.v /\ (aAF A B m).lo.v <= C.hi.v := by
 obtain ⟨⟨u, l, l1, l2, l3, l4⟩, _, _, _, l5⟩ := ha
 obtain ⟨⟨u', l', k1, k2, k3, k4⟩, _, _, _, k5⟩ := hb
 obtain ⟨⟨u'', l'', j1, j2, j3, j4⟩, _⟩ := hc
 obtain ⟨c, c0, c1, c2, c3⟩ := aF4 hn l1 k1 j1
 have e0 : aDz false = 0 := rfl
 rw [e0, Rat.add_zero] at l3 l4 k3 k4 j3 j4
 have hl := l2 c c1
 have hk := k2 c c2
 have hj := j2 c c3
 rw [hz] at hj
 have ale := aAM l3 l4 (Rat.le_trans hl.1 hl.2)
 have ble := aAM k3 k4 (Rat.le_trans hk.1 hk.2)
 obtain ⟨t1, _, t3, _⟩ := aDj (p := m) hm (l5 rfl).1 (k5 rfl).1 ale ble
 have gL := aDR (Rat.le_of_lt (l5 rfl).1) (Rat.le_of_lt (k5 rfl).1) l3 k3
 have gH := aEb l4 k4
 constructor
 · exact Rat.le_trans (aAM j3 gH (by have := hj.1; have := hl.2; have := hk.2; grind)) t3
 · exact Rat.le_trans t1 (aAM gL j4 (by have := hj.2; have := hl.1; have := hk.1; grind))
theorem aNs {n p q : Nat} {t s : D} (hn : n = 0 \/ n = 2 \/ n = 10) {A B : Iv} (ha : aDx n false t p A) (hb : aDx n false s q B) (hz : s.v = -t.v) {m : Int} (hm : 1 <= m) :
   (aAF A B m).has 1 := by
 obtain ⟨⟨u, l, l1, l2, l3, l4⟩, _, _, _, l5⟩ := ha
 obtain ⟨⟨u', l', k1, k2, k3, k4⟩, _, _, _, k5⟩ := hb
 obtain ⟨c, c0, c1, c2, _⟩ := aF4 hn l1 k1 k1
 have e0 : aDz false = 0 := rfl
 rw [e0, Rat.add_zero] at l3 l4 k3 k4
 have hl := l2 c c1
 have hk := k2 c c2
 rw [hz] at hk
 have ale := aAM l3 l4 (Rat.le_trans hl.1 hl.2)
 have ble := aAM k3 k4 (Rat.le_trans hk.1 hk.2)
 obtain ⟨t1, _, t3, _⟩ := aDj (p := m) hm (l5 rfl).1 (k5 rfl).1 ale ble
 have gL := aDR (Rat.le_of_lt (l5 rfl).1) (Rat.le_of_lt (k5 rfl).1) l3 k3
 have gH := aEb l4 k4
 exact ⟨Rat.le_trans t1 (aAM gL aC0 (by have := hl.1; have := hk.1; grind)), Rat.le_trans (aAM aDu gH (by have := hl.2; have := hk.2; grind)) t3⟩
end
section
theorem aW1 {x y : Nat} (h1 : y % 9223372036854775808 = x % 9223372036854775808) (h2 : fN y = !fN x) : (fD y).v = -(fD x).v /\ fE y = fE x := by
 have e1 : fE y = fE x := by unfold fE; omega
 have e2 : fF y = fF x := by unfold fF; omega
 have e3 : fA y = fA x := by unfold fA fM fX; rw [e1, e2]
 refine ⟨?_, e1⟩
 rw [fD_v, fD_v, h2, e3]
 cases fN x <;> simp only [Bool.not_true, Bool.not_false, Bool.false_eq_true, if_false, if_true] <;> grind
end
section
set_option maxRecDepth 10000
set_option maxHeartbeats 1000000
open Go.RowKit
def negX (x : Nat) : Nat := if fN x then x - 9223372036854775808 else x + 9223372036854775808
theorem aQ1 {x : Nat} (h : x < 18446744073709551616) : negX x < 18446744073709551616 := by
 unfold negX fN
 split
 · omega
 · rename_i hn
   have : ¬ x / 9223372036854775808 = 1 := by simpa using hn
   omega
theorem aVx {x : Nat} (h : x < 18446744073709551616) : (fD (negX x)).v = -(fD x).v /\ fE (negX x) = fE x := by
 have hn : fN x = true \/ fN x = false := by cases fN x <;> simp
 refine aW1 ?_ ?_
 · unfold negX
   rcases hn with e | e
   · rw [e, if_pos rfl]; unfold fN at e; rw [beq_iff_eq] at e; omega
   · rw [e, if_neg (by decide)]; omega
 · unfold negX
   rcases hn with e | e
   · rw [e, if_pos rfl]; unfold fN at *; rw [beq_iff_eq] at e; show (_ == 1) = false; rw [beq_eq_false_iff_ne]; omega
   · rw [e, if_neg (by decide)]; unfold fN at *; rw [beq_eq_false_iff_ne] at e; show (_ == 1) = true; rw [beq_iff_eq]; omega
theorem aXo {x : Nat} (h : x < 18446744073709551616) : aFS .u64 (· ^^^ ·) ((x : Nat) : Int) 9223372036854775808 = ((negX x : Nat) : Int) := by
 show IntKind.u64.wrap (((BitVec.ofInt 64 (x:Int) ^^^ BitVec.ofInt 64 9223372036854775808).toNat : Nat) : Int) = _
 rw [BitVec.toNat_xor]
 have e1 : (BitVec.ofInt 64 (x:Int)).toNat = x := by rw [BitVec.toNat_ofInt]; omega
 have e2 : (BitVec.ofInt 64 9223372036854775808).toNat = 9223372036854775808 := by decide
 have low : ∀ y : Nat, y < 9223372036854775808 -> y ^^^ 9223372036854775808 = y + 9223372036854775808 := fun y hy => by
   apply Nat.eq_of_testBit_eq
   intro i
   have h2 : (9223372036854775808 : Nat) = 2 ^ 63 := rfl
   rw [h2] at hy ⊢
   rw [Nat.testBit_xor, Nat.testBit_two_pow, Nat.add_comm]
   by_cases h63 : i = 63
   · subst h63
     rw [Nat.testBit_two_pow_add_eq]
     cases y.testBit 63 <;> rfl
   · by_cases hlt : i < 63
     · rw [Nat.testBit_two_pow_add_gt hlt]
       have : decide (63 = i) = false := decide_eq_false (by omega)
       rw [this]
       cases y.testBit i <;> rfl
     · have h1 : y.testBit i = false := Nat.testBit_lt_two_pow (Nat.lt_of_lt_of_le hy (Nat.pow_le_pow_right (by decide) (by omega)))
       have h3 : (2 ^ 63 + y).testBit i = false := Nat.testBit_lt_two_pow (Nat.lt_of_lt_of_le (by omega : 2 ^ 63 + y < 2 ^ 64) (Nat.pow_le_pow_right (by decide) (by omega)))
       have : decide (63 = i) = false := decide_eq_false (by omega)
       rw [h1, h3, this]
       rfl
 have hx : x ^^^ 9223372036854775808 = negX x := by
   unfold negX fN
   by_cases hn : x < 9223372036854775808
   · have : (x / 9223372036854775808 == 1) = false := by rw [beq_eq_false_iff_ne]; omega
     rw [this, if_neg (by decide)]; exact low x hn
   · have : (x / 9223372036854775808 == 1) = true := by rw [beq_iff_eq]; omega
     rw [this, if_pos rfl]
     obtain ⟨y, hy⟩ : ∃ y, x = y + 9223372036854775808 := ⟨x - 9223372036854775808, by omega⟩
     have hy2 : y < 9223372036854775808 := by omega
     rw [hy, <- low y hy2, Nat.xor_assoc, Nat.xor_self, Nat.xor_zero, low y hy2, Nat.add_sub_cancel]
 rw [e1, e2, hx, aCn]
 have := aQ1 h
 omega
theorem aWf (x : Nat) (hx : x < 18446744073709551616) : AC Tryz.prog TabW 39 [.lit (.int .u64 ((x : Nat) : Int))] (.lit (.int .u64 ((negX x : Nat) : Int))) := by
 have h1 := aXo hx
 refine aAd Tryz.func39 rfl (by kernel_rfl) aAc Tryz.mixed rfl rfl (by kernel_rfl) ?_
 simp only [aAl, Tryz.ntmps39, dyV, ivV, fxV, fxV]
 refine aAa fun K1 g1 => ?_
 refine aAb fun os => ?_
 try simp (disch := omega) only [xq, simprocAttr, dyV, ivV, fxV, fxV, h1]
 refine g1 _ ?_
 refine aAa fun K2 g2 => ?_
 refine aAb fun os => ?_
 try simp (disch := omega) only [xq, simprocAttr, dyV, ivV, fxV, fxV, h1]
 refine g2 _ ?_
 refine aAe ?_
 simp only [endX, resX, resV, Tryz.results39]
 try simp (disch := omega) only [xq, simprocAttr, dyV, ivV, fxV, fxV, h1]
 first | done | rfl
end
section
set_option maxRecDepth 10000
set_option maxHeartbeats 1000000
open Go.RowKit
theorem aWv (d : D) : (toR d).1 < 18446744073709551616 := by
 by_cases h : (toR d).2 = true
 · exact (aP8 h).1
 · unfold toR at *
   split
   · decide
   · split
     · decide
     · split
       · decide
       · rename_i h1 h2 h3
         rw [if_neg h1, if_neg h2, if_neg h3] at h
         exact absurd rfl h
theorem aRV (v : Iv) (d : D) (h : ib v + bl d.m <= 5000000 /\ ie v <= 600000000000000 /\ ae d <= 600000000000000) : AC Tryz.prog TabW 40 [ivV v, dyV d] (.lit (.bool (decide (cmpD v.lo d <= 0) && decide (cmpD d v.hi <= 0)))) := by
 have hv := aBe v
 have e1 := aAI v.lo d (by omega)
 have e2 := aAI d v.hi (by omega)
 generalize cmpD v.lo d = q1 at *
 generalize cmpD d v.hi = q2 at *
 refine aAd Tryz.func40 rfl (by kernel_rfl) aAc Tryz.mixed rfl rfl (by kernel_rfl) ?_
 simp only [aAl, Tryz.ntmps40, dyV, ivV, fxV, fxV]
 refine aAa fun K1 g1 => ?_
 refine aAb fun os => ?_
 try simp (disch := omega) only [xq, simprocAttr, dyV, ivV, fxV, fxV]
 refine g1 _ ?_
 refine aAa fun K2 g2 => ?_
 refine aAx ?_
 try simp (disch := omega) only [xq, simprocAttr, dyV, ivV, fxV, fxV]
 refine cxo (e1) ?_
 try simp (disch := omega) only [xq, simprocAttr, dyV, ivV, fxV, fxV]
 refine gx (fun c1 => ?_) (fun c1 => ?_)
 ·rw [c1]
  try simp only [xn] at c1
  try simp (disch := omega) only [xq, simprocAttr, dyV, ivV, fxV, fxV]
  refine cxo (e2) ?_
  try simp (disch := omega) only [xq, simprocAttr, dyV, ivV, fxV, fxV]
  refine g2 _ ?_
  refine aAe ?_
  simp only [endX, resX, resV, Tryz.results40]
  try simp (disch := omega) only [xq, simprocAttr, dyV, ivV, fxV, fxV]
  simp [*]
 ·rw [c1]
  try simp only [xn] at c1
  try simp (disch := omega) only [xq, simprocAttr, dyV, ivV, fxV, fxV]
  refine g2 _ ?_
  refine aAe ?_
  simp only [endX, resX, resV, Tryz.results40]
  try simp (disch := omega) only [xq, simprocAttr, dyV, ivV, fxV, fxV]
  simp [*]
theorem aPF (a b : Iv) (h : ib a + ib b <= 5000000 /\ ie a <= 600000000000000 /\ ie b <= 600000000000000) : AC Tryz.prog TabW 38 [ivV a, ivV b] (.lit (.bool (decide (cmpD a.lo b.hi <= 0) && decide (cmpD b.lo a.hi <= 0)))) := by
 have ha := aBe a
 have hb := aBe b
 have e1 := aAI a.lo b.hi (by omega)
 have e2 := aAI b.lo a.hi (by omega)
 generalize cmpD a.lo b.hi = q1 at *
 generalize cmpD b.lo a.hi = q2 at *
 refine aAd Tryz.func38 rfl (by kernel_rfl) aAc Tryz.mixed rfl rfl (by kernel_rfl) ?_
 simp only [aAl, Tryz.ntmps38, dyV, ivV, fxV, fxV]
 refine aAa fun K1 g1 => ?_
 refine aAb fun os => ?_
 try simp (disch := omega) only [xq, simprocAttr, dyV, ivV, fxV, fxV]
 refine g1 _ ?_
 refine aAa fun K2 g2 => ?_
 refine aAx ?_
 try simp (disch := omega) only [xq, simprocAttr, dyV, ivV, fxV, fxV]
 refine cxo (e1) ?_
 try simp (disch := omega) only [xq, simprocAttr, dyV, ivV, fxV, fxV]
 refine gx (fun c1 => ?_) (fun c1 => ?_)
 ·rw [c1]
  try simp only [xn] at c1
  try simp (disch := omega) only [xq, simprocAttr, dyV, ivV, fxV, fxV]
  refine cxo (e2) ?_
  try simp (disch := omega) only [xq, simprocAttr, dyV, ivV, fxV, fxV]
  refine g2 _ ?_
  refine aAe ?_
  simp only [endX, resX, resV, Tryz.results38]
  try simp (disch := omega) only [xq, simprocAttr, dyV, ivV, fxV, fxV]
  simp [*]
 ·rw [c1]
  try simp only [xn] at c1
  try simp (disch := omega) only [xq, simprocAttr, dyV, ivV, fxV, fxV]
  refine g2 _ ?_
  refine aAe ?_
  simp only [endX, resX, resV, Tryz.results38]
  try simp (disch := omega) only [xq, simprocAttr, dyV, ivV, fxV, fxV]
  simp [*]
end
section
theorem aNp {f : Int} {x y z : Nat} {p q r : Int} (hf : fL f = false) (h1 : (aAq f x p).2 = 0) (h2 : (aAq f y q).2 = 0) (h3 : (aAq f z r).2 = 0) (hz : (fD z).v = (fD x).v + (fD y).v) :
   cmpD (aAq f z r).1.lo (aAF (aAq f x p).1 (aAq f y q).1 9000).hi <= 0 /\ cmpD (aAF (aAq f x p).1 (aAq f y q).1 9000).lo (aAq f z r).1.hi <= 0 := by
 have a := (aAJ h1).2.2.2.2.1
 have b := (aAJ h2).2.2.2.2.1
 have c := (aAJ h3).2.2.2.2.1
 rw [hf] at a b c
 rw [aCV, aCV]
 exact aNb (aEa f) a b c hz (by omega)
theorem aNq {f : Int} {x : Nat} {p q : Int} (hx : x < 18446744073709551616) (hf : fL f = false) (h1 : (aAq f x p).2 = 0) (hq : 8 <= q /\ q <= 2048) :
   (aAq f (negX x) q).2 = 0 /\ cmpD (aAF (aAq f x p).1 (aAq f (negX x) q).1 9000).lo (intD 1) <= 0 /\ cmpD (intD 1) (aAF (aAq f x p).1 (aAq f (negX x) q).1 9000).hi <= 0 := by
 obtain ⟨hff, _, he, _, a, l1, l2⟩ := aAJ h1
 obtain ⟨n1, n2⟩ := aVx hx
 have he2 : bitE (negX x) ≠ 2047 := by
   have e : bitE (negX x) = fE (negX x) := rfl
   rw [e, n2]; exact he
 have h2 : (aAq f (negX x) q).2 = 0 := by
   refine aHs hff hq he2 (fun hl => ?_) ?_
   · rw [n1]; grind
   · rw [n1]; have := l1 hf; grind
 have b := (aAJ h2).2.2.2.2.1
 rw [hf] at a b
 have := aNs (aEa f) a b n1 (m := 9000) (by omega)
 have e : ((1 : Int) : Rat) = 1 := rfl
 refine ⟨h2, ?_, ?_⟩
 · rw [aCV, aEw, e]; exact this.1
 · rw [aCV, aEw, e]; exact this.2
theorem aVI {f : Int} {z : Nat} {p : Int} (hf : 1 <= f /\ f <= 6) (hp : 8 <= p /\ p <= 2048) (he : bitE z ≠ 2047) : (aAq f z p).2 = 0 \/ (aAq f z p).2 = 3 := by
 have ha := (aHa f z p).1
 rw [ha]
 unfold refE
 rw [if_neg (by unfold noE; omega), if_neg he]
 unfold aBq
 repeat' split
 all_goals first | (left; rfl) | (right; rfl)
end
section
set_option maxRecDepth 10000
set_option maxHeartbeats 4000000
open Go.RowKit
theorem aSt (f : Int) (x y : Nat) (p q : Int) (hf : 4 <= f /\ f <= 6) : AC Tryz.prog TabF 8 [.lit (.int .u8 f), .lit (.int .u64 ((x : Nat) : Int)), .lit (.int .u64 ((y : Nat) : Int)), .lit (.int .i64 p), .lit (.int .i64 q)] (.lit (.bool true)) := by
 have l1 := aB9 f
 rw [<- Bool.decide_and, decide_eq_true hf] at l1
 refine aAd Tryz.func8 rfl (by kernel_rfl) aCo Tryz.mixed rfl rfl (by kernel_rfl) ?_
 simp only [aAl, Tryz.ntmps8, dyV, ivV, fxV, fxV]
 refine aAa fun K1 g1 => ?_
 refine aAb fun os => ?_
 try simp (disch := omega) only [xq, simprocAttr, dyV, ivV, fxV, fxV]
 refine g1 _ ?_
 refine aAa fun K2 g2 => ?_
 refine aAa fun K3 g3 => ?_
 refine aAx ?_
 try simp (disch := omega) only [xq, simprocAttr, dyV, ivV, fxV, fxV]
 refine cxo (aCD) ?_
 try simp (disch := omega) only [xq, simprocAttr, dyV, ivV, fxV, fxV]
 refine cxo (AC.weak (l1) fun _ q => q.1) ?_
 try simp (disch := omega) only [xq, simprocAttr, dyV, ivV, fxV, fxV]
 refine g3 _ ?_
 refine aAf (by first | rfl | assumption) (fun c1 => ?_) (fun c1 => ?_)
 ·try simp only [xn] at c1
  refine aAa fun K4 g4 => ?_
  refine aAb fun os => ?_
  try simp (disch := omega) only [xq, simprocAttr, dyV, ivV, fxV, fxV]
  refine cxo (aCD) ?_
  try simp (disch := omega) only [xq, simprocAttr, dyV, ivV, fxV, fxV]
  refine g4 _ ?_
  refine aAe ?_
  simp only [aAm, aAg, reduceIte, Nat.reduceEqDiff]
  simp only [endX, resX, resV, Tryz.results8]
  try simp (disch := omega) only [xq, simprocAttr, dyV, ivV, fxV, fxV]
  first | done | rfl
 ·exact absurd c1 (by decide)
theorem aOv (x : Nat) : bl (aBP x).1.m <= 53 /\ ae (aBP x).1 <= 2200 := by
 unfold aBP
 split
 · exact ⟨by decide, by decide⟩
 · exact aCE x
theorem aMk {x : Nat} (h : bitE x ≠ 2047) : (aBP x).1 = fD x := by unfold aBP; rw [if_neg h]; rfl
theorem aPN (f : Int) (x y : Nat) (hx : x < 18446744073709551616) (hy : y < 18446744073709551616) (p q : Int) (hf : ¬ (4 <= f /\ f <= 6)) : AC Tryz.prog TabF 8 [.lit (.int .u8 f), .lit (.int .u64 ((x : Nat) : Int)), .lit (.int .u64 ((y : Nat) : Int)), .lit (.int .i64 p), .lit (.int .i64 q)] (.lit (.bool true)) := by
 have l1 := aB9 f
 rw [<- Bool.decide_and, decide_eq_false hf] at l1
 have hfl : ∀ {x p}, (aAq f x p).2 = 0 -> fL f = false := fun h => by have := (aAJ h).1; unfold fL; exact decide_eq_false (by omega)
 have f1 := aB5 x hx
 have f2 := aB5 y hy
 have g1 := aOv x
 have g2 := aOv y
 have pl := aDv (aBP x).1 (aBP y).1 (by omega)
 have hto := aRY (addD (aBP x).1 (aBP y).1) (by omega)
 have hzl := aWv (addD (aBP x).1 (aBP y).1)
 have hz : (aAq f x p).2 = 0 -> (aAq f y q).2 = 0 -> (toR (addD (aBP x).1 (aBP y).1)).2 = true -> bitE (toR (addD (aBP x).1 (aBP y).1)).1 ≠ 2047 /\ (fD (toR (addD (aBP x).1 (aBP y).1)).1).v = (fD x).v + (fD y).v := fun h1 h2 h3 => by
   obtain ⟨_, a, b⟩ := aP8 h3
   rw [aMH] at b
   refine ⟨a, ?_⟩
   rw [b, aMk (aAJ h1).2.2.1, aMk (aAJ h2).2.2.1]
 generalize (aBP x).2 = w1 at *
 generalize (aBP y).2 = w2 at *
 generalize (aBP x).1 = X1 at *
 generalize (aBP y).1 = Y1 at *
 generalize addD X1 Y1 = Sm at *
 generalize (toR Sm).2 = zb at *
 generalize (toR Sm).1 = z at *
 have e1 := aBj f x hx p
 have e2 := aBj f y hy q
 have e3 := aBj f z hzl p
 have e4 := aBj f (negX x) (aQ1 hx) q
 have s1 := aBu f x p
 have d1 := aBY (aAq f x p).1 (aAq f x p).2 (by omega) (fun h => (aAJ h).2.2.2.1)
 have s2 := aBu f y q
 have d2 := aBY (aAq f y q).1 (aAq f y q).2 (by omega) (fun h => (aAJ h).2.2.2.1)
 have s3 := aBu f z p
 have d3 := aBY (aAq f z p).1 (aAq f z p).2 (by omega) (fun h => (aAJ h).2.2.2.1)
 have s4 := aBu f (negX x) q
 have d4 := aBY (aAq f (negX x) q).1 (aAq f (negX x) q).2 (by omega) (fun h => (aAJ h).2.2.2.1)
 have hc : (aAq f x p).2 = 0 -> (aAq f y q).2 = 0 -> zb = true -> ((aAq f z p).2 = 0 \/ (aAq f z p).2 = 3) /\ ((aAq f z p).2 = 0 -> cmpD (aAq f z p).1.lo (aAF (aAq f x p).1 (aAq f y q).1 9000).hi <= 0 /\ cmpD (aAF (aAq f x p).1 (aAq f y q).1 9000).lo (aAq f z p).1.hi <= 0) := fun h1 h2 h3 => by
   obtain ⟨a, b⟩ := hz h1 h2 h3
   exact ⟨aVI (aAJ h1).1 (aAJ h1).2.1 a, fun h4 => aNp (hfl h1) h1 h2 h4 b⟩
 have hn : (aAq f x p).2 = 0 -> (aAq f y q).2 = 0 -> (aAq f (negX x) q).2 = 0 /\ cmpD (aAF (aAq f x p).1 (aAq f (negX x) q).1 9000).lo (intD 1) <= 0 /\ cmpD (intD 1) (aAF (aAq f x p).1 (aAq f (negX x) q).1 9000).hi <= 0 := fun h1 h2 => aNq hx (hfl h1) h1 (aAJ h2).2.1
 clear hz hfl
 generalize aAq f x p = A at *
 generalize aAq f y q = Bq at *
 generalize aAq f z p = Cq at *
 generalize aAq f (negX x) q = Nq at *
 have t1 := aCP A.1 Bq.1 9000 (by omega)
 have t2 := aCP A.1 Nq.1 9000 (by omega)
 have u1 := aPF Cq.1 (aAF A.1 Bq.1 9000) (by omega)
 have z1 := aAW 1
 have b1 : bl (1 : Int).natAbs = 1 := by decide
 have u2 := aRV (aAF A.1 Nq.1 9000) (intD 1) (by omega)
 have i1 := (aB4 1 (by omega)).1
 generalize intD 1 = D1 at *
 generalize aAF A.1 Bq.1 9000 = T1 at *
 generalize aAF A.1 Nq.1 9000 = T2 at *
 generalize cmpD Cq.1.lo T1.hi = q1 at *
 generalize cmpD T1.lo Cq.1.hi = q2 at *
 generalize cmpD T2.lo D1 = q3 at *
 generalize cmpD D1 T2.hi = q4 at *
 replace t1 := t1.1
 replace t2 := t2.1
 replace pl := pl.1
 have hc3 : A.2 = 0 -> Bq.2 = 0 -> zb = true -> Cq.2 = 0 \/ Cq.2 = 3 := fun h1 h2 h3 => (hc h1 h2 h3).1
 have ut : A.2 = 0 -> Bq.2 = 0 -> zb = true -> Cq.2 = 0 -> AC Tryz.prog TabW 38 [ivV Cq.1, ivV T1] (.lit (.bool true)) := fun h1 h2 h3 h4 => by
   have h5 := (hc h1 h2 h3).2 h4
   rwa [decide_eq_true h5.1, decide_eq_true h5.2] at u1
 have ul : A.2 = 0 -> Bq.2 = 0 -> AC Tryz.prog TabW 40 [ivV T2, dyV D1] (.lit (.bool true)) := fun h1 h2 => by
   have h5 := (hn h1 h2).2
   rwa [decide_eq_true h5.1, decide_eq_true h5.2] at u2
 have e4' : A.2 = 0 -> Bq.2 = 0 -> _ := fun h1 h2 => by
   have := e4
   rw [(hn h1 h2).1] at this
   exact this
 have d4' : A.2 = 0 -> Bq.2 = 0 -> _ := fun h1 h2 => by
   have := d4
   rw [(hn h1 h2).1] at this
   exact this
 clear s1 s2 s3 s4 g1 g2 z1 b1 hc hn u1 u2 e4 d4
 refine aAd Tryz.func8 rfl (by kernel_rfl) aCo Tryz.mixed rfl rfl (by kernel_rfl) ?_
 simp only [aAl, Tryz.ntmps8, dyV, ivV, fxV, fxV]
 repeat' first
  | refine aAa fun K g => ?_
  | refine goK (by assumption) ?_
  | ((first | refine aAk ?_ | refine aAe ?_) <;> try simp only [aAm, aAg, reduceIte, Nat.reduceEqDiff])
  | ((first
  | refine aAU rfl fun os => ?_
  | refine aB7 ?_
  | refine cxo (aCD) ?_
  | refine cxo (AC.weak (l1) fun _ q => q.1) ?_
  | refine cxo (e1) ?_
  | refine cxo (AC.weak (d1) fun _ q => q.1) ?_
  | refine cxo (e2) ?_
  | refine cxo (AC.weak (d2) fun _ q => q.1) ?_
  | refine cxo (AC.weak (f1) fun _ q => q.1) ?_
  | refine cxo (AC.weak (f2) fun _ q => q.1) ?_
  | refine cxo (AC.weak (pl) fun _ q => q.1) ?_
  | refine cxo (AC.weak (hto) fun _ q => q.1) ?_
  | refine cxo (AC.weak (t1) fun _ q => q.1) ?_
  | refine cxo (e3) ?_
  | refine cxo (AC.weak (d3) fun _ q => q.1) ?_
  | refine cxo (AC.weak (ut (by assumption) (by assumption) (by assumption) (by assumption)) fun _ q => q.1) ?_
  | refine cxo (AC.weak (aWf x hx) fun _ q => q.1) ?_
  | refine cxo (e4' (by assumption) (by assumption)) ?_
  | refine cxo (AC.weak (d4' (by assumption) (by assumption)) fun _ q => q.1) ?_
  | refine cxo (AC.weak (t2) fun _ q => q.1) ?_
  | refine cxo (AC.weak (i1) fun _ q => q.1) ?_
  | refine cxo (AC.weak (ul (by assumption) (by assumption)) fun _ q => q.1) ?_
  | simp only [endX, resX, resV, Tryz.results8]) <;> try (simp (disch := omega) only [xq, simprocAttr, dyV, ivV, fxV, fxV]))
  | (refine gx (fun c => ?_) (fun c => ?_) <;> first | exact absurd c (by decide) | ((try rw [c]); (try simp only [xn] at c); try (simp (disch := omega) only [xq, simprocAttr, dyV, ivV, fxV, fxV])))
  | (refine aAf (by first | rfl | assumption) (fun c => ?_) (fun c => ?_) <;> first | exact absurd c (by decide) | ((try rw [c]); try simp only [xn] at c))
  | (first | done | rfl | (exfalso; have := hc3 (by assumption) (by assumption) (by assumption); omega)
     done)
theorem aNV (f : Int) (x y : Nat) (hx : x < 18446744073709551616) (hy : y < 18446744073709551616) (p q : Int) : AC Tryz.prog TabF 8 [.lit (.int .u8 f), .lit (.int .u64 ((x : Nat) : Int)), .lit (.int .u64 ((y : Nat) : Int)), .lit (.int .i64 p), .lit (.int .i64 q)] (.lit (.bool true)) := by
 by_cases hf : 4 <= f /\ f <= 6
 · exact aSt f x y p q hf
 · exact aPN f x y hx hy p q hf
end
end Go.Proofs.YtgdkokgeldnliaaGreatDoor
