/- Contracts of functions and plain lemmas that the laws of this seat lean on. -/
import Derived.Test.YtgdkokgeldnliaaGreatDoorKEfaa
import Derived.Test.YtgdkokgeldnliaaGreatDoorKEfab
import Derived.Test.YtgdkokgeldnliaaGreatDoorKEfac
import Derived.Test.YtgdkokgeldnliaaGreatDoorKEfae
import Derived.Test.YtgdkokgeldnliaaGreatDoorKEfaf
import Derived.Test.YtgdkokgeldnliaaGreatDoorKEfag
import Derived.Test.YtgdkokgeldnliaaGreatDoorKEfah
import Derived.Test.YtgdkokgeldnliaaGreatDoorKEfai
import Derived.Test.YtgdkokgeldnliaaGreatDoorKEfaj
import Derived.Test.YtgdkokgeldnliaaGreatDoorKEfak
import Derived.Test.YtgdkokgeldnliaaGreatDoorKEfam
import Derived.Test.YtgdkokgeldnliaaGreatDoorKEfao
import Derived.Test.YtgdkokgeldnliaaGreatDoorRows
import Derived.WalkKit
import Derived.WalkSpells
import Derived.WalkLawsBesides
import Derived.Lib.Hide
import Derived.Deep.QuietTactic
import Derived.BigQuiet
import Derived.Test.YtgdkokgeldnliaaGreatDoorShelf
import Derived.Lib.BitFns
import Derived.Lib.ItoaNum
import Derived.Lib.TrailingZeros
import Derived.Deep.DeepCutAuto
import Derived.Deep.CutBlock
import Derived.Laws.AppendOwn
import Derived.Laws.AppendOwnNone
import Derived.Laws.CopyOwn
import Derived.StillTail
import Derived.Below
import Derived.Deep.MidRow
import Derived.Laws.Tables
import Derived.Laws.CopyRow
import Derived.IntWalk
import Derived.RegionTactic
namespace Go.Proofs.YtgdkokgeldnliaaGreatDoor
set_option linter.unusedSimpArgs false
set_option linter.unusedVariables false
set_option linter.unusedSectionVars false
set_option linter.constructorNameAsVariable false
set_option linter.unnecessarySimpa false
section
theorem aQr {n p q : Nat} {t s : D} (hn : n = 0 \/ n = 2 \/ n = 10) {less : Bool} {A B : Iv} (ha : aDx n less t p A) (hb : aDx n less s q B) (h : t.v <= s.v) : A.lo.v <= B.hi.v := by
 obtain ⟨⟨u, l, l1, l2, l3, l4⟩, _⟩ := ha
 obtain ⟨⟨u', l', k1, k2, k3, k4⟩, _⟩ := hb
 obtain ⟨c, c0, c1, c2, _⟩ := aF4 hn l1 k1 k1
 have hm := Rat.mul_le_mul_of_nonneg_right h c0
 have g1 := aAM l3 k4 (Rat.le_trans (l2 c c1).1 (Rat.le_trans hm (k2 c c2).2))
 grind
theorem aP5 {p : Nat} {t : D} {A B : Iv} (ha : aDx 2 false t p A) (hb : aDx 0 false t p B) (ht : 0 < t.v) : A.lo.v * (1 + t.v * (3068 / 10000)) <= B.hi.v /\ 0 < A.lo.v /\ 0 < B.lo.v := by
 obtain ⟨⟨u, l, l1, l2, l3, l4⟩, _, _, _, l5⟩ := ha
 obtain ⟨⟨u', l', k1, k2, k3, k4⟩, _, _, _, k5⟩ := hb
 have e0 : aDz false = 0 := rfl
 rw [e0, Rat.add_zero] at l3 k4
 refine ⟨?_, (l5 rfl).1, (k5 rfl).1⟩
 have h1 := l1.2; rw [if_neg (by decide)] at h1
 have h2 := k1.2; rw [if_pos rfl] at h2
 have h3 := aFF (by decide +kernel) h1.1 aQY.2
 have g1 := (l2 l.lo.v ⟨Rat.le_refl, l1.1⟩).1
 have g2 := (k2 1 ⟨by rw [h2.1]; exact Rat.le_refl, by rw [h2.2]; exact Rat.le_refl⟩).2
 rw [Rat.mul_one] at g2
 have g3 := Rat.mul_le_mul_of_nonneg_left h3 (Rat.le_of_lt ht)
 have g4 := aDR (Rat.le_of_lt (l5 rfl).1) (by grind) (aAV l3 (t := t.v * (6932 / 10000)) (Rat.le_trans g1 g3) Rat.le_refl) (aDQ (h := t.v * (3068 / 10000)) (by grind))
 exact aAM g4 k4 (by grind)
theorem aQa {p : Nat} {t : D} {B C : Iv} (hb : aDx 0 false t p B) (hc : aDx 10 false t p C) (ht : 0 < t.v) : B.lo.v * (1 + t.v) <= C.hi.v /\ 0 < B.lo.v /\ 0 < C.lo.v := by
 obtain ⟨⟨u, l, l1, l2, l3, l4⟩, _, _, _, l5⟩ := hb
 obtain ⟨⟨u', l', k1, k2, k3, k4⟩, _, _, _, k5⟩ := hc
 have e0 : aDz false = 0 := rfl
 rw [e0, Rat.add_zero] at l3 k4
 refine ⟨?_, (l5 rfl).1, (k5 rfl).1⟩
 have h1 := l1.2; rw [if_pos rfl] at h1
 have h2 := k1.2; rw [if_neg (by decide)] at h2
 have h3 := aFF (by decide +kernel) aOn.1 h2.2
 have g1 := (l2 1 ⟨by rw [h1.1]; exact Rat.le_refl, by rw [h1.2]; exact Rat.le_refl⟩).1
 rw [Rat.mul_one] at g1
 have g2 := (k2 l'.hi.v ⟨k1.1, Rat.le_refl⟩).2
 have g3 := Rat.mul_le_mul_of_nonneg_left h3 (Rat.le_of_lt ht)
 have g4 := aDR (Rat.le_of_lt (l5 rfl).1) (by grind) (aAV l3 (t := t.v) g1 Rat.le_refl) (aDQ (h := t.v) (Rat.le_of_lt ht))
 exact aAM g4 k4 (by grind)
theorem aQm {p : Nat} (hp : 8 <= p) : p2 (-(p : Int)) <= 1 / 256 := by
 have := aA7 (show -(p : Int) <= -((8 : Nat) : Int) by omega)
 have k := (aCi 8 (k := 256) rfl).2
 have k2 : ((256 : Nat) : Rat) = 256 := rfl
 rw [k2] at k; grind
theorem aSf {p : Nat} {t : D} {A B C : Iv} (hp : 8 <= p) (ha : aDx 2 false t p A) (hb : aDx 0 false t p B) (hc : aDx 10 false t p C) (ht : 0 < t.v) :
   A.lo.v < B.hi.v /\ B.lo.v < C.hi.v /\ (1 <= t.v -> A.hi.v < B.lo.v /\ B.hi.v < C.lo.v) := by
 obtain ⟨a1, a2, a3⟩ := aP5 ha hb ht
 obtain ⟨b1, _, b3⟩ := aQa hb hc ht
 have wa := (ha.2.2.2.2 rfl).2
 have wb := (hb.2.2.2.2 rfl).2
 have wc := (hc.2.2.2.2 rfl).2
 have hε := aQm hp
 have hε0 := aAz (-(p : Int))
 have m1 := Rat.mul_pos a2 ht
 have m2 := Rat.mul_pos a3 ht
 refine ⟨by grind, by grind, fun h1 => ?_⟩
 have x1 := Rat.mul_le_mul_of_nonneg_left hε (Rat.le_of_lt a2)
 have x2 := Rat.mul_le_mul_of_nonneg_left hε (Rat.le_of_lt a3)
 have x3 := Rat.mul_le_mul_of_nonneg_left hε (Rat.le_of_lt b3)
 have x4 := Rat.mul_le_mul_of_nonneg_left h1 (Rat.le_of_lt a2)
 have x5 := Rat.mul_le_mul_of_nonneg_left h1 (Rat.le_of_lt a3)
 constructor <;> grind
end
section
theorem aTH (x : Nat) : fF x < 4503599627370496 := Nat.mod_lt _ (by decide)
theorem aXA (x : Nat) : fM x < 9007199254740992 := by
 have := aTH x
 unfold fM; split <;> omega
theorem aXD (x : Nat) : fA x < p2 (fX x + 53) := by
 unfold fA
 have h : ((fM x : Nat) : Rat) < ((9007199254740992 : Nat) : Rat) := Rat.natCast_lt_natCast.2 (aXA x)
 have e : ((9007199254740992 : Nat) : Rat) = p2 53 := (aCi 53 (k := 9007199254740992) rfl).1.symm
 rw [e] at h
 rw [aA9, Rat.mul_comm (p2 (fX x))]
 exact Rat.mul_lt_mul_of_pos_right h (aAz _)
theorem aW3 {x : Nat} (h : fE x = 0) : fA x < p2 (-1022) := by
 unfold fA fM fX
 rw [if_pos h, if_pos h]
 have h1 : ((fF x : Nat) : Rat) < ((4503599627370496 : Nat) : Rat) := Rat.natCast_lt_natCast.2 (aTH x)
 rw [aWN] at h1
 have e : p2 (-1022) = p2 52 * p2 (1 - 1075) := by rw [<- aA9]; rfl
 rw [e]
 exact Rat.mul_lt_mul_of_pos_right h1 (aAz _)
theorem aRF {x y : Nat} (h : x % 9223372036854775808 <= y % 9223372036854775808) : fA x <= fA y := by
 have ex : x % 9223372036854775808 = fE x * 4503599627370496 + fF x := by unfold fE fF; omega
 have ey : y % 9223372036854775808 = fE y * 4503599627370496 + fF y := by unfold fE fF; omega
 have hx := aTH x
 have hy := aTH y
 by_cases he : fE x = fE y
 · have hf : fF x <= fF y := by rw [ex, ey, he] at h; omega
   have eX : fX x = fX y := by unfold fX; rw [he]
   have eM : fM x <= fM y := by unfold fM; rw [he]; split <;> omega
   unfold fA
   rw [eX]
   exact Rat.mul_le_mul_of_nonneg_right (Rat.natCast_le_natCast.2 eM) (Rat.le_of_lt (aAz _))
 · have hlt : fE x < fE y := by
     rcases Nat.lt_or_gt_of_ne he with h' | h'
     · exact h'
     · exfalso; rw [ex, ey] at h; omega
   have hy2 := aUJ (x := y) (by omega)
   by_cases h0 : fE x = 0
   · have h1 := aW3 h0
     have h2 := aA7 (show (-1022 : Int) <= (fE y : Int) - 1023 by omega)
     have := Rat.le_trans h2 hy2; grind
   · have h1 := aXD x
     have eX : fX x = (fE x : Int) - 1075 := by unfold fX; rw [if_neg h0]
     rw [eX] at h1
     have h2 := aA7 (show (fE x : Int) - 1075 + 53 <= (fE y : Int) - 1023 by omega)
     have := Rat.le_trans h2 hy2; grind
def fP (x : Nat) : Int := if fN x then -((x % 9223372036854775808 : Nat) : Int) else ((x % 9223372036854775808 : Nat) : Int)
theorem aRD {x y : Nat} (h : fP x <= fP y) : (fD x).v <= (fD y).v := by
 rw [fD_v, fD_v]
 have h0 := aTR x
 have h1 := aTR y
 unfold fP at h
 have hz : ∀ z : Nat, z % 9223372036854775808 = 0 -> fA z = 0 := fun z hz => by
   have : fM z = 0 := by unfold fM fE fF; split <;> omega
   unfold fA; rw [this]; exact Rat.zero_mul _
 cases hx : fN x <;> cases hy : fN y <;> rw [hx, hy] at h <;> simp only [Bool.false_eq_true, if_false, if_true] at h ⊢
 · exact aRF (by omega)
 · rw [hz x (by omega), hz y (by omega)]; decide +kernel
 · grind
 · have := aRF (x := y) (y := x) (by omega); grind
end
section
set_option maxRecDepth 10000
set_option maxHeartbeats 4000000
open Go.RowKit
theorem xan : ∀ (P : Program) (T : TypeId) (ik : IntKind) (p q : Int), binV P .andNot T (.lit (.int ik p)) (.lit (.int ik q)) = some (.lit (.int ik (aFS ik (· &&& ~~~ ·) p q))) := fun P T ik p q => by
 simp only [binV, binA, if_true, Option.map_some]
theorem aXE {x : Nat} (h : x < 18446744073709551616) : x.testBit 63 = fN x := by
 rw [Nat.testBit_eq_decide_div_mod_eq]
 unfold fN
 rw [Bool.eq_iff_iff, decide_eq_true_eq, beq_iff_eq]
 have : 2 ^ 63 = 9223372036854775808 := rfl
 rw [this]
 omega
theorem aXF {x : Nat} (h : x < 18446744073709551616) : aFS .u64 (· &&& ·) ((x : Nat) : Int) 9223372036854775808 = if fN x then 9223372036854775808 else 0 := by
 show IntKind.u64.wrap (((BitVec.ofInt 64 (x:Int) &&& BitVec.ofInt 64 9223372036854775808).toNat : Nat) : Int) = _
 rw [BitVec.toNat_and]
 have e1 : (BitVec.ofInt 64 (x:Int)).toNat = x := by rw [BitVec.toNat_ofInt]; omega
 have e2 : (BitVec.ofInt 64 9223372036854775808).toNat = 2 ^ 63 := by decide
 have hx : x &&& 2 ^ 63 = if fN x then 9223372036854775808 else 0 := by
   apply Nat.eq_of_testBit_eq
   intro i
   rw [Nat.testBit_and, Nat.testBit_two_pow]
   by_cases h63 : 63 = i
   · subst h63
     rw [aXE h]
     cases fN x
     · simp
     · have : (9223372036854775808 : Nat) = 2 ^ 63 := rfl
       rw [if_pos rfl, this, Nat.testBit_two_pow]; simp
   · cases fN x
     · simp [h63]
     · have : (9223372036854775808 : Nat) = 2 ^ 63 := rfl
       rw [if_pos rfl, this, Nat.testBit_two_pow]; simp [h63]
 rw [e1, e2, hx, aCn]
 cases fN x <;> rfl
theorem aXb {x : Nat} (h : x < 18446744073709551616) : aFS .u64 (· &&& ~~~ ·) ((x : Nat) : Int) 9223372036854775808 = ((x % 9223372036854775808 : Nat) : Int) := by
 show IntKind.u64.wrap (((BitVec.ofInt 64 (x:Int) &&& ~~~ (BitVec.ofInt 64 9223372036854775808)).toNat : Nat) : Int) = _
 rw [BitVec.toNat_and]
 have e1 : (BitVec.ofInt 64 (x:Int)).toNat = x := by rw [BitVec.toNat_ofInt]; omega
 have e2 : (~~~ (BitVec.ofInt 64 9223372036854775808)).toNat = 2 ^ 63 - 1 := by decide
 rw [e1, e2, Nat.and_two_pow_sub_one_eq_mod, aCn]
 omega
theorem aKp (x : Nat) (hx : x < 18446744073709551616) : AC Tryz.prog TabW 113 [.lit (.int .u64 ((x : Nat) : Int))] (.lit (.int .u64 ((x % 9223372036854775808 : Nat) : Int))) := by
 have h1 := aXb hx
 refine aAd Tryz.func113 rfl (by kernel_rfl) aAc Tryz.mixed rfl rfl (by kernel_rfl) ?_
 simp only [aAl, Tryz.ntmps113, dyV, ivV, fxV, fxV]
 refine aAa fun K1 g1 => ?_
 refine aAb fun os => ?_
 try simp (disch := omega) only [xq, simprocAttr, dyV, ivV, fxV, fxV, xan, h1]
 refine g1 _ ?_
 refine aAa fun K2 g2 => ?_
 refine aAb fun os => ?_
 try simp (disch := omega) only [xq, simprocAttr, dyV, ivV, fxV, fxV, xan, h1]
 refine g2 _ ?_
 refine aAe ?_
 simp only [endX, resX, resV, Tryz.results113]
 try simp (disch := omega) only [xq, simprocAttr, dyV, ivV, fxV, fxV, xan, h1]
 first | done | rfl
theorem aKo (x : Nat) (hx : x < 18446744073709551616) : AC Tryz.prog TabW 82 [.lit (.int .u64 ((x : Nat) : Int))] (.lit (.bool (decide (x % 9223372036854775808 <= 9218868437227405312)))) := by
 have h2 : decide (((x % 9223372036854775808 : Nat) : Int) <= 9218868437227405312) = decide (x % 9223372036854775808 <= 9218868437227405312) := decide_eq_decide.2 (by omega)
 refine aAd Tryz.func82 rfl (by kernel_rfl) aAc Tryz.mixed rfl rfl (by kernel_rfl) ?_
 simp only [aAl, Tryz.ntmps82, dyV, ivV, fxV, fxV]
 refine aAa fun K1 g1 => ?_
 refine aAb fun os => ?_
 try simp (disch := omega) only [xq, simprocAttr, dyV, ivV, fxV, fxV, h2]
 refine g1 _ ?_
 refine aAa fun K2 g2 => ?_
 refine aAb fun os => ?_
 try simp (disch := omega) only [xq, simprocAttr, dyV, ivV, fxV, fxV, h2]
 refine cxo (aKp _ (by omega)) ?_
 try simp (disch := omega) only [xq, simprocAttr, dyV, ivV, fxV, fxV, h2]
 refine g2 _ ?_
 refine aAe ?_
 simp only [endX, resX, resV, Tryz.results82]
 try simp (disch := omega) only [xq, simprocAttr, dyV, ivV, fxV, fxV, h2]
 first | done | rfl
theorem aSh (x : Nat) (hx : x < 18446744073709551616) : AC Tryz.prog TabW 83 [.lit (.int .u64 ((x : Nat) : Int))] (.lit (.int .i64 (fP x))) := by
 have h1 := aXF hx
 have hn : fN x = true \/ fN x = false := by cases fN x <;> simp
 refine aAd Tryz.func83 rfl (by kernel_rfl) aAc Tryz.mixed rfl rfl (by kernel_rfl) ?_
 simp only [aAl, Tryz.ntmps83, dyV, ivV, fxV, fxV]
 refine aAa fun K1 g1 => ?_
 refine aAb fun os => ?_
 try simp (disch := omega) only [xq, simprocAttr, dyV, ivV, fxV, fxV, h1, Int.zero_sub]
 refine g1 _ ?_
 refine aAa fun K2 g2 => ?_
 refine aAa fun K3 g3 => ?_
 refine aAb fun os => ?_
 try simp (disch := omega) only [xq, simprocAttr, dyV, ivV, fxV, fxV, h1, Int.zero_sub]
 refine g3 _ ?_
 refine aAf (by first | rfl | assumption) (fun c1 => ?_) (fun c1 => ?_)
 ·try simp only [xn] at c1
  have hb : fN x = true := by rcases hn with e | e; exact e; rw [e] at c1; simp at c1
  have hP : fP x = -((x % 9223372036854775808 : Nat) : Int) := by unfold fP; rw [hb, if_pos rfl]
  refine aAa fun K4 g4 => ?_
  refine aAb fun os => ?_
  try simp (disch := omega) only [xq, simprocAttr, dyV, ivV, fxV, fxV, h1, Int.zero_sub]
  refine cxo (aKp _ (by omega)) ?_
  try simp (disch := omega) only [xq, simprocAttr, dyV, ivV, fxV, fxV, h1, Int.zero_sub]
  refine g4 _ ?_
  refine aAe ?_
  simp only [aAm, aAg, reduceIte, Nat.reduceEqDiff]
  simp only [endX, resX, resV, Tryz.results83]
  try simp (disch := omega) only [xq, simprocAttr, dyV, ivV, fxV, fxV, h1, Int.zero_sub]
  first | (rw [hP]; done) | (rw [hP]; rfl) | (simp [hP]; done)
 ·try simp only [xn] at c1
  have hb : fN x = false := by rcases hn with e | e; rw [e] at c1; simp at c1; exact e
  have hlt : x < 9223372036854775808 := by unfold fN at hb; rw [beq_eq_false_iff_ne] at hb; omega
  have hP : fP x = ((x : Nat) : Int) := by unfold fP; rw [hb, if_neg (by decide)]; omega
  refine aAk ?_
  simp only [aAm, aAg, reduceIte, Nat.reduceEqDiff]
  refine g2 _ ?_
  refine aAa fun K5 g5 => ?_
  refine aAb fun os => ?_
  try simp (disch := omega) only [xq, simprocAttr, dyV, ivV, fxV, fxV, h1, Int.zero_sub]
  refine g5 _ ?_
  refine aAe ?_
  simp only [endX, resX, resV, Tryz.results83]
  try simp (disch := omega) only [xq, simprocAttr, dyV, ivV, fxV, fxV, h1, Int.zero_sub]
  first | (rw [hP]; done) | (rw [hP]; rfl) | (simp [hP]; done)
theorem aUc (x y : Nat) (hx : x < 18446744073709551616) (hy : y < 18446744073709551616) : AC Tryz.prog TabW 41 [.lit (.int .u64 ((x : Nat) : Int)), .lit (.int .u64 ((y : Nat) : Int))] (.lit (.bool (decide (x % 9223372036854775808 <= 9218868437227405312) && decide (y % 9223372036854775808 <= 9218868437227405312) && decide (fP x < fP y)))) := by
 have n1 := aKo x hx
 have n2 := aKo y hy
 generalize decide (x % 9223372036854775808 <= 9218868437227405312) = b1 at *
 generalize decide (y % 9223372036854775808 <= 9218868437227405312) = b2 at *
 refine aAd Tryz.func41 rfl (by kernel_rfl) aAc Tryz.mixed rfl rfl (by kernel_rfl) ?_
 simp only [aAl, Tryz.ntmps41, dyV, ivV, fxV, fxV]
 repeat' first
  | refine aAa fun K g => ?_
  | refine goK (by assumption) ?_
  | (refine aAe ?_; try simp only [aAm, aAg, reduceIte, Nat.reduceEqDiff])
  | ((first
  | refine aAU rfl fun os => ?_
  | refine aB7 ?_
  | refine cxo (n1) ?_
  | refine cxo (n2) ?_
  | refine cxo (aSh _ (by omega)) ?_
  | simp only [endX, resX, resV, Tryz.results41]) <;> try (simp (disch := omega) only [xq, simprocAttr, dyV, ivV, fxV, fxV]))
  | (refine gx (fun c => ?_) (fun c => ?_) <;> first | exact absurd c (by decide) | ((try rw [c]); (try simp only [xn] at c); try (simp (disch := omega) only [xq, simprocAttr, dyV, ivV, fxV, fxV])))
  | (simp [*]
     done)
theorem aCH (x : Nat) (hx : x < 18446744073709551616) : AC Tryz.prog TabW 84 [.lit (.int .u64 ((x : Nat) : Int))] (.lit (.bool (decide (x % 9223372036854775808 <= 9218868437227405312)))) := by
 have r1 : ((x : Nat) : Int).tmod 9223372036854775808 = ((x % 9223372036854775808 : Nat) : Int) := rfl
 have h2 : decide (((x % 9223372036854775808 : Nat) : Int) <= 9218868437227405312) = decide (x % 9223372036854775808 <= 9218868437227405312) := decide_eq_decide.2 (by omega)
 refine aAd Tryz.func84 rfl (by kernel_rfl) aAc Tryz.mixed rfl rfl (by kernel_rfl) ?_
 simp only [aAl, Tryz.ntmps84, dyV, ivV, fxV, fxV]
 refine aAa fun K1 g1 => ?_
 refine aAb fun os => ?_
 try simp (disch := omega) only [xq, simprocAttr, dyV, ivV, fxV, fxV, r1, h2]
 refine g1 _ ?_
 refine aAa fun K2 g2 => ?_
 refine aAb fun os => ?_
 try simp (disch := omega) only [xq, simprocAttr, dyV, ivV, fxV, fxV, r1, h2]
 refine g2 _ ?_
 refine aAe ?_
 simp only [endX, resX, resV, Tryz.results84]
 try simp (disch := omega) only [xq, simprocAttr, dyV, ivV, fxV, fxV, r1, h2]
 first | done | rfl
theorem aDd (x : Nat) (hx : x < 18446744073709551616) : AC Tryz.prog TabW 85 [.lit (.int .u64 ((x : Nat) : Int))] (.tup [.lit (.bool (decide (9223372036854775808 < x))), .lit (.int .u64 ((x % 9223372036854775808 : Nat) : Int))]) := by
 have r1 : ((x : Nat) : Int).tmod 9223372036854775808 = ((x % 9223372036854775808 : Nat) : Int) := rfl
 have h2 : decide ((9223372036854775808 : Int) < ((x : Nat) : Int)) = decide (9223372036854775808 < x) := decide_eq_decide.2 (by omega)
 refine aAd Tryz.func85 rfl (by kernel_rfl) aAc Tryz.mixed rfl rfl (by kernel_rfl) ?_
 simp only [aAl, Tryz.ntmps85, dyV, ivV, fxV, fxV]
 refine aAa fun K1 g1 => ?_
 refine aAb fun os => ?_
 try simp (disch := omega) only [xq, simprocAttr, dyV, ivV, fxV, fxV, r1, h2]
 refine g1 _ ?_
 refine aAa fun K2 g2 => ?_
 refine aAb fun os => ?_
 try simp (disch := omega) only [xq, simprocAttr, dyV, ivV, fxV, fxV, r1, h2]
 refine g2 _ ?_
 refine aAe ?_
 simp only [endX, resX, resV, Tryz.results85]
 try simp (disch := omega) only [xq, simprocAttr, dyV, ivV, fxV, fxV, r1, h2]
 first | done | rfl
def aHw (x y : Nat) : Bool := decide (x % 9223372036854775808 <= 9218868437227405312) && decide (y % 9223372036854775808 <= 9218868437227405312) &&
 (if decide (9223372036854775808 < x) && decide (9223372036854775808 < y) then decide (y % 9223372036854775808 < x % 9223372036854775808) else
  if decide (9223372036854775808 < x) != decide (9223372036854775808 < y) then decide (9223372036854775808 < x) else decide (x % 9223372036854775808 < y % 9223372036854775808))
theorem aTr (x y : Nat) (hx : x < 18446744073709551616) (hy : y < 18446744073709551616) (hxf : x % 9223372036854775808 <= 9218868437227405312) (hyf : y % 9223372036854775808 <= 9218868437227405312) (h1 : decide (9223372036854775808 < x) = false) (h2 : decide (9223372036854775808 < y) = false) : AC Tryz.prog TabW 42 [.lit (.int .u64 ((x : Nat) : Int)), .lit (.int .u64 ((y : Nat) : Int))] (.lit (.bool (decide (x % 9223372036854775808 < y % 9223372036854775808)))) := by
 have n1 := aCH x hx
 have n2 := aCH y hy
 have p1 := aDd x hx
 have p2 := aDd y hy
 rw [decide_eq_true hxf] at n1
 rw [decide_eq_true hyf] at n2
 rw [h1] at p1
 rw [h2] at p2
 have ga : decide (((y % 9223372036854775808 : Nat) : Int) < ((x % 9223372036854775808 : Nat) : Int)) = decide (y % 9223372036854775808 < x % 9223372036854775808) := decide_eq_decide.2 (by omega)
 have gb : decide (((x % 9223372036854775808 : Nat) : Int) < ((y % 9223372036854775808 : Nat) : Int)) = decide (x % 9223372036854775808 < y % 9223372036854775808) := decide_eq_decide.2 (by omega)
 generalize x % 9223372036854775808 = xam at *
 generalize y % 9223372036854775808 = yam at *
 refine aAd Tryz.func42 rfl (by kernel_rfl) aAc Tryz.mixed rfl rfl (by kernel_rfl) ?_
 simp only [aAl, Tryz.ntmps42, dyV, ivV, fxV, fxV]
 repeat' first
  | refine aAa fun K g => ?_
  | refine goK (by assumption) ?_
  | refine aAv ?_
  | ((first | refine aAk ?_ | refine aAe ?_) <;> try simp only [aAm, aAg, reduceIte, Nat.reduceEqDiff])
  | ((first
  | refine aAU rfl fun os => ?_
  | refine aB7 ?_
  | refine cxo (n1) ?_
  | refine cxo (n2) ?_
  | refine cxo (p1) ?_
  | refine cxo (p2) ?_
  | simp only [endX, resX, resV, Tryz.results42]) <;> try (simp (disch := omega) only [xq, simprocAttr, dyV, ivV, fxV, fxV, ga, gb, Bool.and_true, Bool.and_false, Bool.true_and, Bool.false_and, Bool.true_beq, Bool.false_beq, if_true]))
  | (refine gx (fun c => ?_) (fun c => ?_) <;> first | exact absurd c (by decide) | ((try rw [c]); (try simp only [xn] at c); try (simp (disch := omega) only [xq, simprocAttr, dyV, ivV, fxV, fxV, ga, gb, Bool.and_true, Bool.and_false, Bool.true_and, Bool.false_and, Bool.true_beq, Bool.false_beq, if_true])))
  | (refine aAf (by first | rfl | assumption) (fun c => ?_) (fun c => ?_) <;> first | exact absurd c (by decide) | ((try rw [c]); try simp only [xn] at c))
  | (first | done | rfl
     done)
theorem aTq (x y : Nat) (hx : x < 18446744073709551616) (hy : y < 18446744073709551616) (hxf : x % 9223372036854775808 <= 9218868437227405312) (hyf : y % 9223372036854775808 <= 9218868437227405312) (h1 : decide (9223372036854775808 < x) = false) (h2 : decide (9223372036854775808 < y) = true) : AC Tryz.prog TabW 42 [.lit (.int .u64 ((x : Nat) : Int)), .lit (.int .u64 ((y : Nat) : Int))] (.lit (.bool (false))) := by
 have n1 := aCH x hx
 have n2 := aCH y hy
 have p1 := aDd x hx
 have p2 := aDd y hy
 rw [decide_eq_true hxf] at n1
 rw [decide_eq_true hyf] at n2
 rw [h1] at p1
 rw [h2] at p2
 have ga : decide (((y % 9223372036854775808 : Nat) : Int) < ((x % 9223372036854775808 : Nat) : Int)) = decide (y % 9223372036854775808 < x % 9223372036854775808) := decide_eq_decide.2 (by omega)
 have gb : decide (((x % 9223372036854775808 : Nat) : Int) < ((y % 9223372036854775808 : Nat) : Int)) = decide (x % 9223372036854775808 < y % 9223372036854775808) := decide_eq_decide.2 (by omega)
 generalize x % 9223372036854775808 = xam at *
 generalize y % 9223372036854775808 = yam at *
 refine aAd Tryz.func42 rfl (by kernel_rfl) aAc Tryz.mixed rfl rfl (by kernel_rfl) ?_
 simp only [aAl, Tryz.ntmps42, dyV, ivV, fxV, fxV]
 repeat' first
  | refine aAa fun K g => ?_
  | refine goK (by assumption) ?_
  | refine aAv ?_
  | ((first | refine aAk ?_ | refine aAe ?_) <;> try simp only [aAm, aAg, reduceIte, Nat.reduceEqDiff])
  | ((first
  | refine aAU rfl fun os => ?_
  | refine aB7 ?_
  | refine cxo (n1) ?_
  | refine cxo (n2) ?_
  | refine cxo (p1) ?_
  | refine cxo (p2) ?_
  | simp only [endX, resX, resV, Tryz.results42]) <;> try (simp (disch := omega) only [xq, simprocAttr, dyV, ivV, fxV, fxV, ga, gb, Bool.and_true, Bool.and_false, Bool.true_and, Bool.false_and, Bool.true_beq, Bool.false_beq, if_true]))
  | (refine gx (fun c => ?_) (fun c => ?_) <;> first | exact absurd c (by decide) | ((try rw [c]); (try simp only [xn] at c); try (simp (disch := omega) only [xq, simprocAttr, dyV, ivV, fxV, fxV, ga, gb, Bool.and_true, Bool.and_false, Bool.true_and, Bool.false_and, Bool.true_beq, Bool.false_beq, if_true])))
  | (refine aAf (by first | rfl | assumption) (fun c => ?_) (fun c => ?_) <;> first | exact absurd c (by decide) | ((try rw [c]); try simp only [xn] at c))
  | (first | done | rfl
     done)
theorem aTp (x y : Nat) (hx : x < 18446744073709551616) (hy : y < 18446744073709551616) (hxf : x % 9223372036854775808 <= 9218868437227405312) (hyf : y % 9223372036854775808 <= 9218868437227405312) (h1 : decide (9223372036854775808 < x) = true) (h2 : decide (9223372036854775808 < y) = false) : AC Tryz.prog TabW 42 [.lit (.int .u64 ((x : Nat) : Int)), .lit (.int .u64 ((y : Nat) : Int))] (.lit (.bool (true))) := by
 have n1 := aCH x hx
 have n2 := aCH y hy
 have p1 := aDd x hx
 have p2 := aDd y hy
 rw [decide_eq_true hxf] at n1
 rw [decide_eq_true hyf] at n2
 rw [h1] at p1
 rw [h2] at p2
 have ga : decide (((y % 9223372036854775808 : Nat) : Int) < ((x % 9223372036854775808 : Nat) : Int)) = decide (y % 9223372036854775808 < x % 9223372036854775808) := decide_eq_decide.2 (by omega)
 have gb : decide (((x % 9223372036854775808 : Nat) : Int) < ((y % 9223372036854775808 : Nat) : Int)) = decide (x % 9223372036854775808 < y % 9223372036854775808) := decide_eq_decide.2 (by omega)
 generalize x % 9223372036854775808 = xam at *
 generalize y % 9223372036854775808 = yam at *
 refine aAd Tryz.func42 rfl (by kernel_rfl) aAc Tryz.mixed rfl rfl (by kernel_rfl) ?_
 simp only [aAl, Tryz.ntmps42, dyV, ivV, fxV, fxV]
 repeat' first
  | refine aAa fun K g => ?_
  | refine goK (by assumption) ?_
  | refine aAv ?_
  | ((first | refine aAk ?_ | refine aAe ?_) <;> try simp only [aAm, aAg, reduceIte, Nat.reduceEqDiff])
  | ((first
  | refine aAU rfl fun os => ?_
  | refine aB7 ?_
  | refine cxo (n1) ?_
  | refine cxo (n2) ?_
  | refine cxo (p1) ?_
  | refine cxo (p2) ?_
  | simp only [endX, resX, resV, Tryz.results42]) <;> try (simp (disch := omega) only [xq, simprocAttr, dyV, ivV, fxV, fxV, ga, gb, Bool.and_true, Bool.and_false, Bool.true_and, Bool.false_and, Bool.true_beq, Bool.false_beq, if_true]))
  | (refine gx (fun c => ?_) (fun c => ?_) <;> first | exact absurd c (by decide) | ((try rw [c]); (try simp only [xn] at c); try (simp (disch := omega) only [xq, simprocAttr, dyV, ivV, fxV, fxV, ga, gb, Bool.and_true, Bool.and_false, Bool.true_and, Bool.false_and, Bool.true_beq, Bool.false_beq, if_true])))
  | (refine aAf (by first | rfl | assumption) (fun c => ?_) (fun c => ?_) <;> first | exact absurd c (by decide) | ((try rw [c]); try simp only [xn] at c))
  | (first | done | rfl
     done)
theorem aTo (x y : Nat) (hx : x < 18446744073709551616) (hy : y < 18446744073709551616) (hxf : x % 9223372036854775808 <= 9218868437227405312) (hyf : y % 9223372036854775808 <= 9218868437227405312) (h1 : decide (9223372036854775808 < x) = true) (h2 : decide (9223372036854775808 < y) = true) : AC Tryz.prog TabW 42 [.lit (.int .u64 ((x : Nat) : Int)), .lit (.int .u64 ((y : Nat) : Int))] (.lit (.bool (decide (y % 9223372036854775808 < x % 9223372036854775808)))) := by
 have n1 := aCH x hx
 have n2 := aCH y hy
 have p1 := aDd x hx
 have p2 := aDd y hy
 rw [decide_eq_true hxf] at n1
 rw [decide_eq_true hyf] at n2
 rw [h1] at p1
 rw [h2] at p2
 have ga : decide (((y % 9223372036854775808 : Nat) : Int) < ((x % 9223372036854775808 : Nat) : Int)) = decide (y % 9223372036854775808 < x % 9223372036854775808) := decide_eq_decide.2 (by omega)
 have gb : decide (((x % 9223372036854775808 : Nat) : Int) < ((y % 9223372036854775808 : Nat) : Int)) = decide (x % 9223372036854775808 < y % 9223372036854775808) := decide_eq_decide.2 (by omega)
 generalize x % 9223372036854775808 = xam at *
 generalize y % 9223372036854775808 = yam at *
 refine aAd Tryz.func42 rfl (by kernel_rfl) aAc Tryz.mixed rfl rfl (by kernel_rfl) ?_
 simp only [aAl, Tryz.ntmps42, dyV, ivV, fxV, fxV]
 repeat' first
  | refine aAa fun K g => ?_
  | refine goK (by assumption) ?_
  | refine aAv ?_
  | ((first | refine aAk ?_ | refine aAe ?_) <;> try simp only [aAm, aAg, reduceIte, Nat.reduceEqDiff])
  | ((first
  | refine aAU rfl fun os => ?_
  | refine aB7 ?_
  | refine cxo (n1) ?_
  | refine cxo (n2) ?_
  | refine cxo (p1) ?_
  | refine cxo (p2) ?_
  | simp only [endX, resX, resV, Tryz.results42]) <;> try (simp (disch := omega) only [xq, simprocAttr, dyV, ivV, fxV, fxV, ga, gb, Bool.and_true, Bool.and_false, Bool.true_and, Bool.false_and, Bool.true_beq, Bool.false_beq, if_true]))
  | (refine gx (fun c => ?_) (fun c => ?_) <;> first | exact absurd c (by decide) | ((try rw [c]); (try simp only [xn] at c); try (simp (disch := omega) only [xq, simprocAttr, dyV, ivV, fxV, fxV, ga, gb, Bool.and_true, Bool.and_false, Bool.true_and, Bool.false_and, Bool.true_beq, Bool.false_beq, if_true])))
  | (refine aAf (by first | rfl | assumption) (fun c => ?_) (fun c => ?_) <;> first | exact absurd c (by decide) | ((try rw [c]); try simp only [xn] at c))
  | (first | done | rfl
     done)
theorem aL8 (x y : Nat) (hx : x < 18446744073709551616) (hy : y < 18446744073709551616) (hxf : x % 9223372036854775808 <= 9218868437227405312) (hyf : y % 9223372036854775808 <= 9218868437227405312) : AC Tryz.prog TabW 42 [.lit (.int .u64 ((x : Nat) : Int)), .lit (.int .u64 ((y : Nat) : Int))] (.lit (.bool (aHw x y))) := by
 unfold aHw
 rw [decide_eq_true hxf, decide_eq_true hyf]
 cases h1 : decide (9223372036854775808 < x) <;> cases h2 : decide (9223372036854775808 < y)
 · exact aTr x y hx hy hxf hyf h1 h2
 · exact aTq x y hx hy hxf hyf h1 h2
 · exact aTp x y hx hy hxf hyf h1 h2
 · exact aTo x y hx hy hxf hyf h1 h2
end
section
theorem aRm {f : Int} {x y : Nat} {p q : Int} (h1 : (aAq f x p).2 = 0) (h2 : (aAq f y q).2 = 0) (h : fP x <= fP y) : cmpD (aAq f x p).1.lo (aAq f y q).1.hi <= 0 := by
 have a := (aAJ h1).2.2.2.2.1
 have b := (aAJ h2).2.2.2.2.1
 rw [aCV]
 exact aQr (aEa f) a b (aRD h)
theorem aEX {x : Nat} (h : bitE x ≠ 2047) : x % 9223372036854775808 <= 9218868437227405312 := by unfold bitE at h; omega
theorem aJ4 {x : Nat} (hx : x < 18446744073709551616) (h : aHw 0 x = true) : 0 < (fD x).v := by
 unfold aHw at h
 simp only [Bool.and_eq_true, decide_eq_true_eq] at h
 obtain ⟨_, h2⟩ := h
 rw [if_neg (by simp)] at h2
 have hn : fN x = false /\ 0 < x % 9223372036854775808 := by
   unfold fN
   by_cases hs : 9223372036854775808 < x
   · rw [if_pos (by simp [hs])] at h2; simp at h2
   · rw [if_neg (by simp [hs])] at h2
     have := of_decide_eq_true h2
     refine ⟨by rw [beq_eq_false_iff_ne]; omega, by omega⟩
 rw [fD_v, hn.1]
 have := aUI hn.2
 have := aAz (-1074)
 simp only [Bool.false_eq_true, if_false]
 grind
theorem aW0 : (fD 4607182418800017408).v = 1 := by decide +kernel
theorem aRk {x : Nat} (hx : x < 18446744073709551616) (he : bitE x ≠ 2047) (h0 : aHw 0 x = true) (h : aHw x 4607182418800017408 = false) : 1 <= (fD x).v := by
 have hp := aJ4 hx h0
 have hf := aEX he
 have hn : fN x = false := by
   cases hn : fN x
   · rfl
   · rw [fD_v, hn] at hp
     have := aTR x
     simp only [if_true] at hp
     grind
 have hn2 : ¬ x / 9223372036854775808 = 1 := by unfold fN at hn; simpa using hn
 rw [<- aW0]
 refine aRD ?_
 unfold aHw at h
 have c1 : decide (9223372036854775808 < x) = false := decide_eq_false (by omega)
 rw [decide_eq_true hf, c1] at h
 have c2 : decide (x % 9223372036854775808 < 4607182418800017408 % 9223372036854775808) = false := by
   revert h
   cases decide (x % 9223372036854775808 < 4607182418800017408 % 9223372036854775808) <;> simp
 have c3 := of_decide_eq_false c2
 unfold fP
 rw [hn]
 have : fN 4607182418800017408 = false := by decide
 rw [this]
 simp only [Bool.false_eq_true, if_false]
 omega
theorem aRn {x : Nat} {p : Int} (h2 : (aAq 2 x p).2 = 0) (h1 : (aAq 1 x p).2 = 0) (h3 : (aAq 3 x p).2 = 0) (h0 : 0 < (fD x).v) :
   cmpD (aAq 2 x p).1.lo (aAq 1 x p).1.hi < 0 /\ cmpD (aAq 1 x p).1.lo (aAq 3 x p).1.hi < 0 /\ (1 <= (fD x).v -> cmpD (aAq 2 x p).1.hi (aAq 1 x p).1.lo < 0 /\ cmpD (aAq 1 x p).1.hi (aAq 3 x p).1.lo < 0) := by
 obtain ⟨_, hp, _, _, a, _, _⟩ := aAJ h2
 have b := (aAJ h1).2.2.2.2.1
 have c := (aAJ h3).2.2.2.2.1
 have := aSf (p := p.toNat) (by omega) a b c h0
 rw [aGK, aGK, aGK, aGK]
 exact this
end
section
set_option maxRecDepth 10000
set_option maxHeartbeats 4000000
open Go.RowKit
def aXh (f : Int) (x : Nat) (p : Int) (σ : St) : Prop := ∃ (t : List (Nat × AV)) (rest : AMem) (mA mB : List AV), σ = ⟨t, 137, [(29, mA), (29, mB)]⟩ /\ getT t 0 = .lit (.int .u8 f) /\ getT t 1 = .lit (.int .u64 ((x : Nat) : Int)) /\ getT t 3 = .lit (.int .i64 p) /\ True
theorem aUk (f : Int) (x y : Nat) (hx : x < 18446744073709551616) (hy : y < 18446744073709551616) (p q : Int) : AC Tryz.prog TabF 9 [.lit (.int .u8 f), .lit (.int .u64 ((x : Nat) : Int)), .lit (.int .u64 ((y : Nat) : Int)), .lit (.int .i64 p), .lit (.int .i64 q)] (.lit (.bool true)) := by
 have e1 := aBj f x hx p
 have e2 := aBj f y hy q
 have e3 := aBj 2 x hx p
 have e4 := aBj 1 x hx p
 have e5 := aBj 3 x hx p
 have s1 := aBu f x p
 have d1 := aBY (aAq f x p).1 (aAq f x p).2 (by have := aBu f x p; omega) (fun h => (aAJ h).2.2.2.1)
 have s2 := aBu f y q
 have d2 := aBY (aAq f y q).1 (aAq f y q).2 (by have := aBu f y q; omega) (fun h => (aAJ h).2.2.2.1)
 have s3 := aBu 2 x p
 have d3 := aBY (aAq 2 x p).1 (aAq 2 x p).2 (by have := aBu 2 x p; omega) (fun h => (aAJ h).2.2.2.1)
 have s4 := aBu 1 x p
 have d4 := aBY (aAq 1 x p).1 (aAq 1 x p).2 (by have := aBu 1 x p; omega) (fun h => (aAJ h).2.2.2.1)
 have s5 := aBu 3 x p
 have d5 := aBY (aAq 3 x p).1 (aAq 3 x p).2 (by have := aBu 3 x p; omega) (fun h => (aAJ h).2.2.2.1)
 have hr : (aAq f x p).2 = 0 -> (aAq f y q).2 = 0 -> (decide (y % 9223372036854775808 <= 9218868437227405312) && decide (x % 9223372036854775808 <= 9218868437227405312) && decide (fP y < fP x)) = false -> cmpD (aAq f x p).1.lo (aAq f y q).1.hi <= 0 := fun h1 h2 h3 => by
   refine aRm h1 h2 ?_
   have g1 := aEX (aAJ h1).2.2.1
   have g2 := aEX (aAJ h2).2.2.1
   rw [decide_eq_true g1, decide_eq_true g2] at h3
   have := of_decide_eq_false (show decide (fP y < fP x) = false by simpa using h3)
   omega
 have hb : (aAq 2 x p).2 = 0 -> (aAq 1 x p).2 = 0 -> (aAq 3 x p).2 = 0 -> aHw 0 x = true -> cmpD (aAq 2 x p).1.lo (aAq 1 x p).1.hi < 0 /\ cmpD (aAq 1 x p).1.lo (aAq 3 x p).1.hi < 0 /\ (aHw x 4607182418800017408 = false -> cmpD (aAq 2 x p).1.hi (aAq 1 x p).1.lo < 0 /\ cmpD (aAq 1 x p).1.hi (aAq 3 x p).1.lo < 0) := fun h1 h2 h3 h4 => by
   obtain ⟨g1, g2, g3⟩ := aRn h1 h2 h3 (aJ4 hx h4)
   exact ⟨g1, g2, fun h5 => g3 (aRk hx (aAJ h1).2.2.1 h4 h5)⟩
 have b1 := aUc y x hy hx
 have b2 : (aAq 2 x p).2 = 0 -> AC Tryz.prog TabW 42 [.lit (.int .u64 0), .lit (.int .u64 ((x : Nat) : Int))] (.lit (.bool (aHw 0 x))) := fun h => aL8 0 x (by omega) hx (by omega) (aEX (aAJ h).2.2.1)
 have b3 : (aAq 2 x p).2 = 0 -> AC Tryz.prog TabW 42 [.lit (.int .u64 ((x : Nat) : Int)), .lit (.int .u64 4607182418800017408)] (.lit (.bool (aHw x 4607182418800017408))) := fun h => aL8 x 4607182418800017408 hx (by omega) (aEX (aAJ h).2.2.1) (by omega)
 generalize (decide (y % 9223372036854775808 <= 9218868437227405312) && decide (x % 9223372036854775808 <= 9218868437227405312) && decide (fP y < fP x)) = L1 at *
 generalize aHw 0 x = L2 at *
 generalize aHw x 4607182418800017408 = L3 at *
 generalize aAq f x p = A at *
 generalize aAq f y q = Bq at *
 generalize aAq 2 x p = Cq at *
 generalize aAq 1 x p = Dq at *
 generalize aAq 3 x p = Eq at *
 have vA := aBe A.1
 have vB := aBe Bq.1
 have vC := aBe Cq.1
 have vD := aBe Dq.1
 have vE := aBe Eq.1
 have o1 := aAI A.1.lo Bq.1.hi (by omega)
 have o2 := aAI Cq.1.lo Dq.1.hi (by omega)
 have o3 := aAI Dq.1.lo Eq.1.hi (by omega)
 have o4 := aAI Cq.1.hi Dq.1.lo (by omega)
 have o5 := aAI Dq.1.hi Eq.1.lo (by omega)
 generalize cmpD A.1.lo Bq.1.hi = q1 at *
 generalize cmpD Cq.1.lo Dq.1.hi = q2 at *
 generalize cmpD Dq.1.lo Eq.1.hi = q3 at *
 generalize cmpD Cq.1.hi Dq.1.lo = q4 at *
 generalize cmpD Dq.1.hi Eq.1.lo = q5 at *
 clear vA vB vC vD vE s1 s2 s3 s4 s5
 refine aAd Tryz.func9 rfl (by kernel_rfl) aCo Tryz.mixed rfl rfl (by kernel_rfl) ?_
 simp only [aAl, Tryz.ntmps9, dyV, ivV, fxV, fxV]
 refine aAa fun K1 g1 => ?_
 refine aAb fun os => ?_
 try simp (disch := omega) only [xq, simprocAttr, dyV, ivV, fxV, fxV]
 refine g1 _ ?_
 refine aAa fun K2 g2 => ?_
 refine aAa fun K3 g3 => ?_
 refine aAb fun os => ?_
 try simp (disch := omega) only [xq, simprocAttr, dyV, ivV, fxV, fxV]
 refine cxo (aCD) ?_
 try simp (disch := omega) only [xq, simprocAttr, dyV, ivV, fxV, fxV]
 refine g3 _ ?_
 refine aAf (by first | rfl | assumption) (fun c1 => ?_) (fun c1 => ?_)
 ·exact absurd c1 (by decide)
 ·try simp only [xn] at c1
  refine aAk ?_
  simp only [aAm, aAg, reduceIte, Nat.reduceEqDiff]
  refine g2 _ ?_
  refine aAa fun K4 g4 => ?_
  refine aAb fun os => ?_
  try simp (disch := omega) only [xq, simprocAttr, dyV, ivV, fxV, fxV]
  refine cxo (e1) ?_
  try simp (disch := omega) only [xq, simprocAttr, dyV, ivV, fxV, fxV]
  refine cxo (AC.weak (d1) fun _ q => q.1) ?_
  try simp (disch := omega) only [xq, simprocAttr, dyV, ivV, fxV, fxV]
  refine g4 _ ?_
  refine aAa fun K5 g5 => ?_
  refine aAb fun os => ?_
  try simp (disch := omega) only [xq, simprocAttr, dyV, ivV, fxV, fxV]
  refine cxo (e2) ?_
  try simp (disch := omega) only [xq, simprocAttr, dyV, ivV, fxV, fxV]
  refine cxo (AC.weak (d2) fun _ q => q.1) ?_
  try simp (disch := omega) only [xq, simprocAttr, dyV, ivV, fxV, fxV]
  refine g5 _ ?_
  refine aAa fun K6 g6 => ?_
  have hj6 : ∀ σ, aXh f x p σ -> K6 σ := by
   rintro _ ⟨t, rest, mA, mB, rfl, RisesJ_t0, RisesJ_t1, RisesJ_t3, -⟩
   refine g6 _ ?_
   refine aAa fun K7 g7 => ?_
   refine aAb fun os => ?_
   try simp (disch := omega) only [xq, simprocAttr, dyV, ivV, fxV, fxV, RisesJ_t0, RisesJ_t1, RisesJ_t3]
   refine cxo (e3) ?_
   try simp (disch := omega) only [xq, simprocAttr, dyV, ivV, fxV, fxV, RisesJ_t0, RisesJ_t1, RisesJ_t3]
   refine cxo (AC.weak (d3) fun _ q => q.1) ?_
   try simp (disch := omega) only [xq, simprocAttr, dyV, ivV, fxV, fxV, RisesJ_t0, RisesJ_t1, RisesJ_t3]
   refine g7 _ ?_
   refine aAa fun K8 g8 => ?_
   refine aAb fun os => ?_
   try simp (disch := omega) only [xq, simprocAttr, dyV, ivV, fxV, fxV, RisesJ_t0, RisesJ_t1, RisesJ_t3]
   refine cxo (e4) ?_
   try simp (disch := omega) only [xq, simprocAttr, dyV, ivV, fxV, fxV, RisesJ_t0, RisesJ_t1, RisesJ_t3]
   refine cxo (AC.weak (d4) fun _ q => q.1) ?_
   try simp (disch := omega) only [xq, simprocAttr, dyV, ivV, fxV, fxV, RisesJ_t0, RisesJ_t1, RisesJ_t3]
   refine g8 _ ?_
   refine aAa fun K9 g9 => ?_
   refine aAb fun os => ?_
   try simp (disch := omega) only [xq, simprocAttr, dyV, ivV, fxV, fxV, RisesJ_t0, RisesJ_t1, RisesJ_t3]
   refine cxo (e5) ?_
   try simp (disch := omega) only [xq, simprocAttr, dyV, ivV, fxV, fxV, RisesJ_t0, RisesJ_t1, RisesJ_t3]
   refine cxo (AC.weak (d5) fun _ q => q.1) ?_
   try simp (disch := omega) only [xq, simprocAttr, dyV, ivV, fxV, fxV, RisesJ_t0, RisesJ_t1, RisesJ_t3]
   refine g9 _ ?_
   refine aAa fun K10 g10 => ?_
   refine aAa fun K11 g11 => ?_
   refine aAx ?_
   try simp (disch := omega) only [xq, simprocAttr, dyV, ivV, fxV, fxV, RisesJ_t0, RisesJ_t1, RisesJ_t3]
   refine gx (fun c2 => ?_) (fun c2 => ?_)
   ·rw [c2]
    try simp only [xn] at c2
    try simp (disch := omega) only [xq, simprocAttr, dyV, ivV, fxV, fxV, RisesJ_t0, RisesJ_t1, RisesJ_t3]
    refine gx (fun c3 => ?_) (fun c3 => ?_)
    ·rw [c3]
     try simp only [xn] at c3
     try simp (disch := omega) only [xq, simprocAttr, dyV, ivV, fxV, fxV, RisesJ_t0, RisesJ_t1, RisesJ_t3]
     refine gx (fun c4 => ?_) (fun c4 => ?_)
     ·rw [c4]
      try simp only [xn] at c4
      try simp (disch := omega) only [xq, simprocAttr, dyV, ivV, fxV, fxV, RisesJ_t0, RisesJ_t1, RisesJ_t3]
      refine cxo (AC.weak (b2 (by omega)) fun _ q => q.1) ?_
      try simp (disch := omega) only [xq, simprocAttr, dyV, ivV, fxV, fxV, RisesJ_t0, RisesJ_t1, RisesJ_t3]
      refine g11 _ ?_
      refine aAf (by first | rfl | assumption) (fun c5 => ?_) (fun c5 => ?_)
      ·try simp only [xn] at c5
       refine aAa fun K12 g12 => ?_
       refine aAb fun os => ?_
       try simp (disch := omega) only [xq, simprocAttr, dyV, ivV, fxV, fxV, RisesJ_t0, RisesJ_t1, RisesJ_t3]
       refine g12 _ ?_
       refine aAe ?_
       simp only [aAm, aAg, reduceIte, Nat.reduceEqDiff]
       simp only [endX, resX, resV, Tryz.results9]
       try simp (disch := omega) only [xq, simprocAttr, dyV, ivV, fxV, fxV, RisesJ_t0, RisesJ_t1, RisesJ_t3]
       first | done | rfl | (exfalso; have := hr (by assumption) (by assumption) (by assumption); omega) | (exfalso; obtain ⟨y4, y5⟩ := y3 (by assumption); omega) | (obtain ⟨y4, y5⟩ := y3 (by assumption); simp [y4, y5]; done) | (simp [*]; done)
      ·try simp only [xn] at c5
       refine aAk ?_
       simp only [aAm, aAg, reduceIte, Nat.reduceEqDiff]
       refine g10 _ ?_
       refine aAa fun K13 g13 => ?_
       obtain ⟨y1, y2, y3⟩ := hb (by assumption) (by assumption) (by assumption) (by assumption)
       have dg1 := decide_eq_true y1
       have dg2 := decide_eq_true y2
       refine aAx ?_
       try simp (disch := omega) only [xq, simprocAttr, dyV, ivV, fxV, fxV, RisesJ_t0, RisesJ_t1, RisesJ_t3, dg1, dg2]
       refine cxo (AC.weak (o2) fun _ q => q.1) ?_
       try simp (disch := omega) only [xq, simprocAttr, dyV, ivV, fxV, fxV, RisesJ_t0, RisesJ_t1, RisesJ_t3, dg1, dg2]
       refine cxo (AC.weak (o3) fun _ q => q.1) ?_
       try simp (disch := omega) only [xq, simprocAttr, dyV, ivV, fxV, fxV, RisesJ_t0, RisesJ_t1, RisesJ_t3, dg1, dg2]
       refine cxo (AC.weak (b3 (by omega)) fun _ q => q.1) ?_
       try simp (disch := omega) only [xq, simprocAttr, dyV, ivV, fxV, fxV, RisesJ_t0, RisesJ_t1, RisesJ_t3, dg1, dg2]
       refine gx (fun c6 => ?_) (fun c6 => ?_)
       ·rw [c6]
        try simp only [xn] at c6
        try simp (disch := omega) only [xq, simprocAttr, dyV, ivV, fxV, fxV, RisesJ_t0, RisesJ_t1, RisesJ_t3, dg1, dg2]
        refine cxo (AC.weak (o4) fun _ q => q.1) ?_
        try simp (disch := omega) only [xq, simprocAttr, dyV, ivV, fxV, fxV, RisesJ_t0, RisesJ_t1, RisesJ_t3, dg1, dg2]
        refine gx (fun c7 => ?_) (fun c7 => ?_)
        ·rw [c7]
         try simp only [xn] at c7
         try simp (disch := omega) only [xq, simprocAttr, dyV, ivV, fxV, fxV, RisesJ_t0, RisesJ_t1, RisesJ_t3, dg1, dg2]
         refine cxo (AC.weak (o5) fun _ q => q.1) ?_
         try simp (disch := omega) only [xq, simprocAttr, dyV, ivV, fxV, fxV, RisesJ_t0, RisesJ_t1, RisesJ_t3, dg1, dg2]
         refine g13 _ ?_
         refine aAe ?_
         simp only [endX, resX, resV, Tryz.results9]
         try simp (disch := omega) only [xq, simprocAttr, dyV, ivV, fxV, fxV, RisesJ_t0, RisesJ_t1, RisesJ_t3, dg1, dg2]
         first | done | rfl | (exfalso; have := hr (by assumption) (by assumption) (by assumption); omega) | (exfalso; obtain ⟨y4, y5⟩ := y3 (by assumption); omega) | (obtain ⟨y4, y5⟩ := y3 (by assumption); simp [y4, y5]; done) | (simp [*]; done)
        ·rw [c7]
         try simp only [xn] at c7
         try simp (disch := omega) only [xq, simprocAttr, dyV, ivV, fxV, fxV, RisesJ_t0, RisesJ_t1, RisesJ_t3, dg1, dg2]
         refine g13 _ ?_
         refine aAe ?_
         simp only [endX, resX, resV, Tryz.results9]
         try simp (disch := omega) only [xq, simprocAttr, dyV, ivV, fxV, fxV, RisesJ_t0, RisesJ_t1, RisesJ_t3, dg1, dg2]
         first | done | rfl | (exfalso; have := hr (by assumption) (by assumption) (by assumption); omega) | (exfalso; obtain ⟨y4, y5⟩ := y3 (by assumption); omega) | (obtain ⟨y4, y5⟩ := y3 (by assumption); simp [y4, y5]; done) | (simp [*]; done)
       ·rw [c6]
        try simp only [xn] at c6
        try simp (disch := omega) only [xq, simprocAttr, dyV, ivV, fxV, fxV, RisesJ_t0, RisesJ_t1, RisesJ_t3, dg1, dg2]
        refine g13 _ ?_
        refine aAe ?_
        simp only [endX, resX, resV, Tryz.results9]
        try simp (disch := omega) only [xq, simprocAttr, dyV, ivV, fxV, fxV, RisesJ_t0, RisesJ_t1, RisesJ_t3, dg1, dg2]
        first | done | rfl | (exfalso; have := hr (by assumption) (by assumption) (by assumption); omega) | (exfalso; obtain ⟨y4, y5⟩ := y3 (by assumption); omega) | (obtain ⟨y4, y5⟩ := y3 (by assumption); simp [y4, y5]; done) | (simp [*]; done)
     ·rw [c4]
      try simp only [xn] at c4
      try simp (disch := omega) only [xq, simprocAttr, dyV, ivV, fxV, fxV, RisesJ_t0, RisesJ_t1, RisesJ_t3]
      refine g11 _ ?_
      refine aAf (by first | rfl | assumption) (fun c8 => ?_) (fun c8 => ?_)
      ·try simp only [xn] at c8
       refine aAa fun K14 g14 => ?_
       refine aAb fun os => ?_
       try simp (disch := omega) only [xq, simprocAttr, dyV, ivV, fxV, fxV, RisesJ_t0, RisesJ_t1, RisesJ_t3]
       refine g14 _ ?_
       refine aAe ?_
       simp only [aAm, aAg, reduceIte, Nat.reduceEqDiff]
       simp only [endX, resX, resV, Tryz.results9]
       try simp (disch := omega) only [xq, simprocAttr, dyV, ivV, fxV, fxV, RisesJ_t0, RisesJ_t1, RisesJ_t3]
       first | done | rfl | (exfalso; have := hr (by assumption) (by assumption) (by assumption); omega) | (exfalso; obtain ⟨y4, y5⟩ := y3 (by assumption); omega) | (obtain ⟨y4, y5⟩ := y3 (by assumption); simp [y4, y5]; done) | (simp [*]; done)
      ·exact absurd c8 (by decide)
    ·rw [c3]
     try simp only [xn] at c3
     try simp (disch := omega) only [xq, simprocAttr, dyV, ivV, fxV, fxV, RisesJ_t0, RisesJ_t1, RisesJ_t3]
     refine g11 _ ?_
     refine aAf (by first | rfl | assumption) (fun c9 => ?_) (fun c9 => ?_)
     ·try simp only [xn] at c9
      refine aAa fun K15 g15 => ?_
      refine aAb fun os => ?_
      try simp (disch := omega) only [xq, simprocAttr, dyV, ivV, fxV, fxV, RisesJ_t0, RisesJ_t1, RisesJ_t3]
      refine g15 _ ?_
      refine aAe ?_
      simp only [aAm, aAg, reduceIte, Nat.reduceEqDiff]
      simp only [endX, resX, resV, Tryz.results9]
      try simp (disch := omega) only [xq, simprocAttr, dyV, ivV, fxV, fxV, RisesJ_t0, RisesJ_t1, RisesJ_t3]
      first | done | rfl | (exfalso; have := hr (by assumption) (by assumption) (by assumption); omega) | (exfalso; obtain ⟨y4, y5⟩ := y3 (by assumption); omega) | (obtain ⟨y4, y5⟩ := y3 (by assumption); simp [y4, y5]; done) | (simp [*]; done)
     ·exact absurd c9 (by decide)
   ·rw [c2]
    try simp only [xn] at c2
    try simp (disch := omega) only [xq, simprocAttr, dyV, ivV, fxV, fxV, RisesJ_t0, RisesJ_t1, RisesJ_t3]
    refine g11 _ ?_
    refine aAf (by first | rfl | assumption) (fun c10 => ?_) (fun c10 => ?_)
    ·try simp only [xn] at c10
     refine aAa fun K16 g16 => ?_
     refine aAb fun os => ?_
     try simp (disch := omega) only [xq, simprocAttr, dyV, ivV, fxV, fxV, RisesJ_t0, RisesJ_t1, RisesJ_t3]
     refine g16 _ ?_
     refine aAe ?_
     simp only [aAm, aAg, reduceIte, Nat.reduceEqDiff]
     simp only [endX, resX, resV, Tryz.results9]
     try simp (disch := omega) only [xq, simprocAttr, dyV, ivV, fxV, fxV, RisesJ_t0, RisesJ_t1, RisesJ_t3]
     first | done | rfl | (exfalso; have := hr (by assumption) (by assumption) (by assumption); omega) | (exfalso; obtain ⟨y4, y5⟩ := y3 (by assumption); omega) | (obtain ⟨y4, y5⟩ := y3 (by assumption); simp [y4, y5]; done) | (simp [*]; done)
    ·exact absurd c10 (by decide)
  refine aAa fun K17 g17 => ?_
  refine aAx ?_
  try simp (disch := omega) only [xq, simprocAttr, dyV, ivV, fxV, fxV]
  refine gx (fun c11 => ?_) (fun c11 => ?_)
  ·rw [c11]
   try simp only [xn] at c11
   try simp (disch := omega) only [xq, simprocAttr, dyV, ivV, fxV, fxV]
   refine gx (fun c12 => ?_) (fun c12 => ?_)
   ·rw [c12]
    try simp only [xn] at c12
    try simp (disch := omega) only [xq, simprocAttr, dyV, ivV, fxV, fxV]
    refine cxo (AC.weak (b1) fun _ q => q.1) ?_
    try simp (disch := omega) only [xq, simprocAttr, dyV, ivV, fxV, fxV]
    refine gx (fun c13 => ?_) (fun c13 => ?_)
    ·rw [c13]
     try simp only [xn] at c13
     try simp (disch := omega) only [xq, simprocAttr, dyV, ivV, fxV, fxV]
     refine cxo (AC.weak (o1) fun _ q => q.1) ?_
     try simp (disch := omega) only [xq, simprocAttr, dyV, ivV, fxV, fxV]
     refine g17 _ ?_
     refine aAf (by first | rfl | assumption) (fun c14 => ?_) (fun c14 => ?_)
     ·try simp only [xn] at c14
      refine aAa fun K18 g18 => ?_
      refine aAb fun os => ?_
      try simp (disch := omega) only [xq, simprocAttr, dyV, ivV, fxV, fxV]
      refine g18 _ ?_
      refine aAe ?_
      simp only [aAm, aAg, reduceIte, Nat.reduceEqDiff]
      simp only [endX, resX, resV, Tryz.results9]
      try simp (disch := omega) only [xq, simprocAttr, dyV, ivV, fxV, fxV]
      first | done | rfl | (exfalso; have := hr (by assumption) (by assumption) (by assumption); omega) | (exfalso; obtain ⟨y4, y5⟩ := y3 (by assumption); omega) | (obtain ⟨y4, y5⟩ := y3 (by assumption); simp [y4, y5]; done) | (simp [*]; done)
     ·try simp only [xn] at c14
      refine aAk ?_
      simp only [aAm, aAg, reduceIte, Nat.reduceEqDiff]
      exact hj6 _ ⟨_, [], _, _, rfl, (by first | rfl | assumption | (simp (disch := omega) only [xq, simprocAttr, dyV, ivV, fxV, fxV] <;> rfl)), (by first | rfl | assumption | (simp (disch := omega) only [xq, simprocAttr, dyV, ivV, fxV, fxV] <;> rfl)), (by first | rfl | assumption | (simp (disch := omega) only [xq, simprocAttr, dyV, ivV, fxV, fxV] <;> rfl)), trivial⟩
    ·rw [c13]
     try simp only [xn] at c13
     try simp (disch := omega) only [xq, simprocAttr, dyV, ivV, fxV, fxV]
     refine g17 _ ?_
     refine aAf (by first | rfl | assumption) (fun c15 => ?_) (fun c15 => ?_)
     ·exact absurd c15 (by decide)
     ·try simp only [xn] at c15
      refine aAk ?_
      simp only [aAm, aAg, reduceIte, Nat.reduceEqDiff]
      exact hj6 _ ⟨_, [], _, _, rfl, (by first | rfl | assumption | (simp (disch := omega) only [xq, simprocAttr, dyV, ivV, fxV, fxV] <;> rfl)), (by first | rfl | assumption | (simp (disch := omega) only [xq, simprocAttr, dyV, ivV, fxV, fxV] <;> rfl)), (by first | rfl | assumption | (simp (disch := omega) only [xq, simprocAttr, dyV, ivV, fxV, fxV] <;> rfl)), trivial⟩
   ·rw [c12]
    try simp only [xn] at c12
    try simp (disch := omega) only [xq, simprocAttr, dyV, ivV, fxV, fxV]
    refine g17 _ ?_
    refine aAf (by first | rfl | assumption) (fun c16 => ?_) (fun c16 => ?_)
    ·exact absurd c16 (by decide)
    ·try simp only [xn] at c16
     refine aAk ?_
     simp only [aAm, aAg, reduceIte, Nat.reduceEqDiff]
     exact hj6 _ ⟨_, [], _, _, rfl, (by first | rfl | assumption | (simp (disch := omega) only [xq, simprocAttr, dyV, ivV, fxV, fxV] <;> rfl)), (by first | rfl | assumption | (simp (disch := omega) only [xq, simprocAttr, dyV, ivV, fxV, fxV] <;> rfl)), (by first | rfl | assumption | (simp (disch := omega) only [xq, simprocAttr, dyV, ivV, fxV, fxV] <;> rfl)), trivial⟩
  ·rw [c11]
   try simp only [xn] at c11
   try simp (disch := omega) only [xq, simprocAttr, dyV, ivV, fxV, fxV]
   refine g17 _ ?_
   refine aAf (by first | rfl | assumption) (fun c17 => ?_) (fun c17 => ?_)
   ·exact absurd c17 (by decide)
   ·try simp only [xn] at c17
    refine aAk ?_
    simp only [aAm, aAg, reduceIte, Nat.reduceEqDiff]
    exact hj6 _ ⟨_, [], _, _, rfl, (by first | rfl | assumption | (simp (disch := omega) only [xq, simprocAttr, dyV, ivV, fxV, fxV] <;> rfl)), (by first | rfl | assumption | (simp (disch := omega) only [xq, simprocAttr, dyV, ivV, fxV, fxV] <;> rfl)), (by first | rfl | assumption | (simp (disch := omega) only [xq, simprocAttr, dyV, ivV, fxV, fxV] <;> rfl)), trivial⟩
end
end Go.Proofs.YtgdkokgeldnliaaGreatDoor
