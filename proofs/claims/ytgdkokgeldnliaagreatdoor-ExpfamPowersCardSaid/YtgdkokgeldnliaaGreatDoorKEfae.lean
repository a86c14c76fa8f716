/- Contracts of functions and plain lemmas that the laws of this seat lean on. -/
import Derived.Test.YtgdkokgeldnliaaGreatDoorKEfaa
import Derived.Test.YtgdkokgeldnliaaGreatDoorKEfab
import Derived.Test.YtgdkokgeldnliaaGreatDoorKEfac
import Derived.Test.YtgdkokgeldnliaaGreatDoorKEfad
import Derived.Test.YtgdkokgeldnliaaGreatDoorRows
import Derived.WalkKit
import Derived.WalkSpells
import Derived.WalkLawsBesides
import Derived.Lib.Hide
import Derived.Deep.QuietTactic
import Derived.BigQuiet
import Derived.Test.YtgdkokgeldnliaaGreatDoorShelf
import Derived.Lib.BitFns
import Derived.Lib.ItoaNum
import Derived.Lib.TrailingZeros
import Derived.Deep.DeepCutAuto
import Derived.Deep.CutBlock
import Derived.Laws.AppendOwn
import Derived.Laws.AppendOwnNone
import Derived.Laws.CopyOwn
import Derived.StillTail
import Derived.Below
import Derived.Deep.MidRow
import Derived.Laws.Tables
import Derived.Laws.CopyRow
import Derived.IntWalk
namespace Go.Proofs.YtgdkokgeldnliaaGreatDoor
set_option linter.unusedSimpArgs false
set_option linter.unusedVariables false
set_option linter.unusedSectionVars false
set_option linter.constructorNameAsVariable false
set_option linter.unnecessarySimpa false
section
theorem aAO {a b c d : Rat} (h1 : a <= b) (h2 : c <= d) (h3 : 0 <= c) (h4 : 0 <= b) : a * c <= b * d :=
 Rat.le_trans (Rat.mul_le_mul_of_nonneg_right h1 h3) (Rat.mul_le_mul_of_nonneg_left h2 h4)
theorem aBw {a b c : Rat} (hc : 0 < c) : a <= b / c <-> a * c <= b := by
 rw [<- Rat.not_lt, <- Rat.not_lt, Rat.div_lt_iff hc]
theorem aA0 {a b c : Rat} (hc : 0 < c) : a / c <= b <-> a <= b * c := by
 rw [<- Rat.not_lt, <- Rat.not_lt, Rat.lt_div_iff hc]
theorem aCf {a b : Rat} (ha : 0 <= a) (hb : 0 < b) : 0 <= a / b := by rw [aBw hb]; grind
def aA5 (f : Nat -> Rat) : Nat -> Rat
 | 0 => 0
 | n + 1 => aA5 f n + f n
theorem aCG {f g : Nat -> Rat} : ∀ n : Nat, (∀ i, i < n -> f i = g i) -> aA5 f n = aA5 g n
 | 0, _ => rfl
 | n + 1, h => by simp only [aA5]; rw [aCG n (fun i hi => h i (by omega)), h n (by omega)]
theorem aID (f g : Nat -> Rat) : ∀ n : Nat, aA5 (fun i => f i + g i) n = aA5 f n + aA5 g n
 | 0 => by simp only [aA5]; grind
 | n + 1 => by simp only [aA5]; rw [aID f g n]; grind
theorem aDk (c : Rat) (f : Nat -> Rat) : ∀ n : Nat, aA5 (fun i => c * f i) n = c * aA5 f n
 | 0 => by simp only [aA5]; grind
 | n + 1 => by simp only [aA5]; rw [aDk c f n]; grind
theorem aGs (f : Nat -> Rat) : ∀ n : Nat, aA5 f (n + 1) = f 0 + aA5 (fun i => f (i + 1)) n
 | 0 => by simp only [aA5]; grind
 | n + 1 => by rw [aA5, aGs f n]; simp only [aA5]; grind
theorem aGU {f g : Nat -> Rat} : ∀ n : Nat, (∀ i, i < n -> f i <= g i) -> aA5 f n <= aA5 g n
 | 0, _ => by simp only [aA5]; grind
 | n + 1, h => by simp only [aA5]; have := aGU n (fun i hi => h i (by omega)); have := h n (by omega); grind
theorem aFW {f : Nat -> Rat} (h : ∀ i, 0 <= f i) (m : Nat) : ∀ k : Nat, aA5 f m <= aA5 f (m + k)
 | 0 => by simp only [Nat.add_zero]; grind
 | k + 1 => by rw [<- Nat.add_assoc, aA5]; have := aFW h m k; have := h (m + k); grind
theorem aFs {f : Nat -> Rat} (h : ∀ i, 0 <= f i) (n : Nat) : 0 <= aA5 f n := by
 have := aFW h 0 n; rwa [Nat.zero_add] at this
def expT (t : Rat) : Nat -> Rat
 | 0 => 1
 | n + 1 => expT t n * t / ((n : Rat) + 1)
def expS (t : Rat) (n : Nat) : Rat := aA5 (expT t) n
theorem aEm (n : Nat) : (0 : Rat) <= (n : Rat) := Rat.natCast_nonneg
theorem aDr (n : Nat) : (0 : Rat) < (n : Rat) + 1 := by
 have := aEm n
 grind
theorem aJf (t : Rat) (n : Nat) : ((n : Rat) + 1) * expT t (n + 1) = expT t n * t := by
 have := aDr n
 simp only [expT]; grind
theorem aBC {t : Rat} (h : 0 <= t) : ∀ n : Nat, 0 <= expT t n
 | 0 => by simp only [expT]; grind
 | n + 1 => aCf (Rat.mul_nonneg (aBC h n) h) (aDr n)
def cv (a b : Nat -> Rat) (n : Nat) : Rat := aA5 (fun i => a i * b (n - i)) (n + 1)
theorem aV7 (s t : Rat) (n : Nat) : ((n : Rat) + 1) * cv (expT s) (expT t) (n + 1) = (s + t) * cv (expT s) (expT t) n := by
 have e1 : ((n : Rat) + 1) * cv (expT s) (expT t) (n + 1) = aA5 (fun i => (i : Rat) * (expT s i * expT t (n + 1 - i))) (n + 2) + aA5 (fun i => ((n : Rat) + 1 - i) * (expT s i * expT t (n + 1 - i))) (n + 2) := by
   rw [cv, <- aDk, <- aID]
   exact aCG _ fun i _ => by grind
 have e2 : aA5 (fun i => (i : Rat) * (expT s i * expT t (n + 1 - i))) (n + 2) = s * cv (expT s) (expT t) n := by
   rw [aGs, cv, <- aDk]
   rw [aCG (g := fun i => s * (expT s i * expT t (n - i))) (n + 1) (fun i hi => by
     have h := aJf s i
     have e : n + 1 - (i + 1) = n - i := by omega
     show ((i + 1 : Nat) : Rat) * (expT s (i + 1) * expT t (n + 1 - (i + 1))) = _
     rw [e, Rat.natCast_add]
     show ((i : Rat) + 1) * _ = _
     grind)]
   show ((0 : Nat) : Rat) * _ + _ = _
   have : ((0 : Nat) : Rat) = 0 := rfl
   grind
 have e3 : aA5 (fun i => ((n : Rat) + 1 - i) * (expT s i * expT t (n + 1 - i))) (n + 2) = t * cv (expT s) (expT t) n := by
   rw [aA5, cv, <- aDk]
   have e : ((n + 1 : Nat) : Rat) = (n : Rat) + 1 := by rw [Rat.natCast_add]; rfl
   rw [e, aCG (g := fun i => t * (expT s i * expT t (n - i))) (n + 1) (fun i hi => by
     have h := aJf t (n - i)
     have e : n + 1 - i = n - i + 1 := by omega
     have e2 : (n : Rat) = ((n - i : Nat) : Rat) + (i : Rat) := by rw [<- Rat.natCast_add]; congr 1; omega
     rw [e]
     grind)]
   grind
 rw [e1, e2, e3]; grind
theorem aLj (s t : Rat) : ∀ n : Nat, expT (s + t) n = cv (expT s) (expT t) n
 | 0 => by
   have h : ∀ u, expT u 0 = 1 := fun _ => rfl
   simp only [cv, aA5, h]; grind
 | n + 1 => by
   have h1 := aV7 s t n
   have h2 := aJf (s + t) n
   rw [aLj s t n] at h2
   have hn := aDr n
   have h3 : ((n : Rat) + 1) * expT (s + t) (n + 1) = ((n : Rat) + 1) * cv (expT s) (expT t) (n + 1) := by rw [h1, h2, Rat.mul_comm]
   exact Rat.le_antisymm (Rat.le_of_mul_le_mul_left (by rw [h3]; exact Rat.le_refl) hn) (Rat.le_of_mul_le_mul_left (by rw [h3]; exact Rat.le_refl) hn)
theorem aKy (a b : Nat -> Rat) : ∀ n : Nat, aA5 (cv a b) n = aA5 (fun i => a i * aA5 b (n - i)) n
 | 0 => rfl
 | n + 1 => by
   rw [aA5, aKy a b n]
   rw [aCG (f := fun i => a i * aA5 b (n + 1 - i)) (g := fun i => a i * aA5 b (n - i) + a i * b (n - i)) (n + 1) (fun i hi => by
     have e : n + 1 - i = n - i + 1 := by omega
     rw [e, aA5]; grind)]
   rw [aID, aA5, cv, Nat.sub_self]
   have : aA5 b 0 = 0 := rfl
   grind
theorem aJg {t : Rat} (h : 0 <= t) (n : Nat) : 0 <= expS t n := aFs (aBC h) n
theorem aG7 {t : Rat} (h : 0 <= t) {m n : Nat} (hm : m <= n) : expS t m <= expS t n := by
 have := aFW (aBC h) m (n - m)
 rwa [show m + (n - m) = n by omega] at this
theorem aJh {s t : Rat} (hs : 0 <= s) (ht : 0 <= t) (n : Nat) : expS (s + t) n <= expS s n * expS t n := by
 unfold expS
 rw [aCG n (fun i _ => aLj s t i), aKy, Rat.mul_comm, <- aDk]
 exact aGU n fun i _ => by
   rw [Rat.mul_comm]
   exact Rat.mul_le_mul_of_nonneg_right (aG7 ht (Nat.sub_le _ _)) (aBC hs i)
theorem aGI {s t : Rat} (hs : 0 <= s) (ht : 0 <= t) (m n : Nat) : expS s m * expS t n <= expS (s + t) (m + n) := by
 unfold expS
 rw [aCG (m + n) (fun i _ => aLj s t i), aKy]
 refine Rat.le_trans ?_ (aFW (fun i => Rat.mul_nonneg (aBC hs i) (aFs (aBC ht) _)) m n)
 rw [Rat.mul_comm, <- aDk]
 exact aGU m fun i hi => by
   rw [Rat.mul_comm]
   exact Rat.mul_le_mul_of_nonneg_left (aG7 ht (by omega)) (aBC hs i)
theorem aFg (t : Rat) : expS t 1 = 1 := by simp only [expS, aA5, expT]; grind
theorem aTW {t : Rat} (h : 0 <= t) (n : Nat) : 1 <= expS t (n + 1) := by
 have := aG7 h (show 1 <= n + 1 by omega); rwa [aFg] at this
theorem aMq {t : Rat} (h : 0 <= t) (n : Nat) (hn : 2 * t <= (n : Rat) + 1) : expT t (n + 1) <= expT t n / 2 := by
 have h1 := aBC h n
 simp only [expT]
 rw [aA0 (aDr n)]
 have := Rat.mul_le_mul_of_nonneg_left hn h1
 grind
theorem aMr {t : Rat} (h : 0 <= t) (n : Nat) (hn : 2 * t <= (n : Rat) + 1) : ∀ k : Nat, expS t (n + k) + 2 * expT t (n + k) <= expS t n + 2 * expT t n
 | 0 => by simp only [Nat.add_zero]; grind
 | k + 1 => by
   have h1 := aMr h n hn k
   have h2 := aMq h (n + k) (by rw [Rat.natCast_add]; have := aEm k; grind)
   rw [<- Nat.add_assoc]
   have h3 : expS t (n + k + 1) = expS t (n + k) + expT t (n + k) := rfl
   grind
end
section
theorem aDt {n k : Nat} (h : bl n <= 64 * k) : (limbsOf n).length <= k := by
 refine aA4 ?_
 rw [aDo]
 exact Nat.lt_of_lt_of_le (aDO n) (Nat.pow_le_pow_right (by decide) h)
theorem aVW (m : Nat) : fAbs m <= m := Nat.div_le_self _ _
theorem aTQ {m : Nat} (h : m % 2 = 1) : fAbs m = m := by unfold fAbs; rw [aN4 h]; simp
theorem aOw {m : Nat} {x : Int} (h : m % 2 = 1) : fExp m x = x := by
 unfold fExp; rw [aN4 h, if_neg (by omega)]; simp
theorem aSb (m : Nat) : bl (fAbs m) <= bl m := aFR (aVW m)
end
section
def p2 (e : Int) : Rat := (2 : Rat) ^ e
theorem aAz (e : Int) : 0 < p2 e := Rat.zpow_pos (by decide)
theorem aWH (e : Int) : p2 e ≠ 0 := by have := aAz e; grind
theorem aA9 (a b : Int) : p2 (a + b) = p2 a * p2 b := Rat.zpow_add (by decide) a b
theorem aBE (n : Nat) : p2 (n : Int) = ((2 ^ n : Nat) : Rat) := by
 unfold p2; rw [Rat.zpow_natCast, Rat.natCast_pow]; rfl
theorem aCt : p2 0 = 1 := Rat.zpow_zero _
theorem aIX : p2 1 = 2 := Rat.zpow_one _
theorem aEC {e : Int} (h : 0 <= e) : ((2 ^ e.toNat : Nat) : Rat) = p2 e := by rw [<- aBE, Int.toNat_of_nonneg h]
theorem aOk (a b : Int) : p2 (a - b) * p2 b = p2 a := by rw [<- aA9]; congr 1; omega
theorem aDA (a : Int) : p2 (-a) * p2 a = 1 := by rw [<- aA9, show -a + a = 0 by omega, aCt]
theorem aWI {a : Int} (h : 0 <= a) : 1 <= p2 a := by
 rw [<- aEC h]
 have := Nat.pow_pos (n := a.toNat) (show 0 < 2 by decide)
 exact_mod_cast this
theorem aA7 {a b : Int} (h : a <= b) : p2 a <= p2 b := by
 have h1 := aWI (show 0 <= b - a by omega)
 have h2 := aOk b a
 have h3 := Rat.mul_le_mul_of_nonneg_right h1 (Rat.le_of_lt (aAz a))
 grind
theorem aXw {a b : Int} (h : a < b) : p2 a < p2 b := by
 have h1 := aA7 (show a + 1 <= b by omega)
 rw [aA9, aIX] at h1
 have := aAz a
 grind
theorem aFC {a b : Int} : p2 a <= p2 b <-> a <= b :=
 ⟨fun h => by apply Int.not_lt.1; intro h2; have := aXw h2; grind, aA7⟩
structure D where
 neg : Bool
 m : Nat
 e : Int
def sg (b : Bool) : Rat := if b then -1 else 1
def D.v (d : D) : Rat := sg d.neg * (d.m : Rat) * p2 d.e
def aAL (neg : Bool) (m : Nat) (e : Int) : D := ⟨fNeg neg m, fAbs m, fExp m e⟩
theorem D.ext' {a b : D} (h1 : a.neg = b.neg) (h2 : a.m = b.m) (h3 : a.e = b.e) : a = b := by cases a; cases b; simp_all
theorem aMn {m : Nat} (h : m ≠ 0) (e : Int) : (m : Rat) * p2 e = (fAbs m : Rat) * p2 (fExp m e) := by
 obtain ⟨k, hk, _⟩ := aGr h
 have h1 : fAbs m = k := by
   unfold fAbs; conv => lhs; arg 1; rw [hk]
   rw [Nat.mul_comm]; exact Nat.mul_div_cancel _ (Nat.pow_pos (by decide))
 unfold fExp
 rw [if_neg h, aA9, h1, aBE]
 conv => lhs; rw [hk]
 rw [Rat.natCast_mul]
 grind
theorem aRE {m : Nat} (h : m ≠ 0) : fAbs m % 2 = 1 := by
 obtain ⟨k, hk, hk2⟩ := aGr h
 have h1 : fAbs m = k := by
   unfold fAbs; conv => lhs; arg 1; rw [hk]
   rw [Nat.mul_comm]; exact Nat.mul_div_cancel _ (Nat.pow_pos (by decide))
 rw [h1]; exact hk2
theorem aEY : fAbs 0 = 0 := by unfold fAbs; simp
theorem aCy (neg : Bool) (m : Nat) (e : Int) : (aAL neg m e).v = sg neg * (m : Rat) * p2 e := by
 unfold aAL D.v
 by_cases h : m = 0
 · subst h
   show sg _ * ((fAbs 0 : Nat) : Rat) * _ = sg _ * ((0 : Nat) : Rat) * _
   rw [aEY]
   have : ((0 : Nat) : Rat) = 0 := rfl
   grind
 · show sg (fNeg neg m) * (fAbs m : Rat) * p2 (fExp m e) = _
   have h1 := aMn h e
   have h2 : fNeg neg m = neg := by unfold fNeg; rw [if_neg h]
   rw [h2]
   grind
def D.canon (d : D) : Prop := d.m % 2 = 1 \/ (d.m = 0 /\ d.neg = false /\ d.e = 0)
theorem aCz (neg : Bool) (m : Nat) (e : Int) : (aAL neg m e).canon := by
 by_cases h : m = 0
 · subst h; exact .inr ⟨aEY, rfl, rfl⟩
 · exact .inl (aRE h)
theorem aKl {d : D} (h : d.canon) : aAL d.neg d.m d.e = d := by
 unfold aAL
 rcases h with h | ⟨h1, h2, h3⟩
 · apply D.ext'
   · show fNeg _ _ = _; unfold fNeg; rw [if_neg (by omega)]
   · exact aTQ h
   · exact aOw h
 · apply D.ext'
   · show fNeg _ _ = _; rw [h1, h2]; rfl
   · show fAbs _ = _; rw [h1]; exact aEY
   · show fExp _ _ = _; rw [h1, h3]; rfl
def oneD (d : D) : D := aAL d.neg d.m d.e
theorem aC6 (d : D) : (oneD d).v = d.v := aCy _ _ _
theorem aB2 (d : D) : (oneD d).canon := aCz _ _ _
theorem aCL {d : D} (h : d.canon) : oneD d = d := aKl h
theorem aVc (b : Bool) : sg b ≠ 0 := by unfold sg; cases b <;> decide
theorem aBL {d : D} : d.v = 0 <-> d.m = 0 := by
 unfold D.v
 constructor
 · intro h
   have h1 := aWH d.e
   have h2 := aVc d.neg
   rcases Rat.mul_eq_zero.1 h with h | h
   · rcases Rat.mul_eq_zero.1 h with h | h
     · contradiction
     · exact_mod_cast h
   · contradiction
 · intro h
   rw [h]
   have : ((0 : Nat) : Rat) = 0 := rfl
   grind
theorem aU5 {d : D} (h : d.m ≠ 0) : 0 < (d.m : Rat) * p2 d.e := by
 have : (0 : Rat) < (d.m : Rat) := Rat.natCast_pos.2 (by omega)
 exact Rat.mul_pos this (aAz _)
theorem aB0 {d : D} (h : d.m ≠ 0) : d.neg = true <-> d.v < 0 := by
 have h1 := aU5 h
 unfold D.v sg
 cases d.neg
 · simp only [Bool.false_eq_true, if_false, false_iff]; grind
 · simp only [if_true, true_iff]; grind
def negD (d : D) : D := aAL (!d.neg) d.m d.e
def absD (d : D) : D := aAL false d.m d.e
def aAs (d : D) (n : Int) : D := aAL d.neg d.m (d.e + n)
def intD (n : Int) : D := aAL (decide (n < 0)) n.natAbs 0
theorem aGj (d : D) : (negD d).v = -d.v := by
 unfold negD; rw [aCy]; unfold D.v sg; cases d.neg <;> simp <;> grind
theorem aE6 (d : D) (n : Int) : (aAs d n).v = d.v * p2 n := by
 unfold aAs; rw [aCy, aA9]; unfold D.v; grind
theorem aPK (d : D) : (absD d).v = if d.v < 0 then -d.v else d.v := by
 unfold absD; rw [aCy]
 by_cases h0 : d.m = 0
 · have := aBL.2 h0
   rw [this, h0, if_neg (by decide)]
   have : ((0 : Nat) : Rat) = 0 := rfl
   grind
 · have h1 := aU5 h0
   by_cases hn : d.neg = true
   · rw [if_pos ((aB0 h0).1 hn)]; unfold D.v sg; rw [hn]; simp; grind
   · rw [if_neg (fun h => hn ((aB0 h0).2 h))]; unfold D.v sg; simp only [Bool.not_eq_true] at hn; rw [hn]
theorem aEw (n : Int) : (intD n).v = (n : Rat) := by
 unfold intD; rw [aCy, aCt]; unfold sg
 by_cases h : n < 0
 · rw [decide_eq_true h, if_pos rfl]
   have : ((n.natAbs : Nat) : Rat) = (-n : Int) := by rw [show ((n.natAbs : Nat) : Rat) = ((n.natAbs : Int) : Rat) from rfl]; congr 1; omega
   rw [this, Rat.intCast_neg]; grind
 · rw [decide_eq_false h, if_neg (by decide)]
   have : ((n.natAbs : Nat) : Rat) = (n : Int) := by rw [show ((n.natAbs : Nat) : Rat) = ((n.natAbs : Int) : Rat) from rfl]; congr 1; omega
   rw [this]; grind
def addD (a b : D) : D :=
 if a.m = 0 then oneD b else if b.m = 0 then oneD a else
 if (oneD a).neg = (oneD b).neg then aAL (oneD a).neg ((oneD a).m * 2 ^ ((oneD a).e - min (oneD a).e (oneD b).e).toNat + (oneD b).m * 2 ^ ((oneD b).e - min (oneD a).e (oneD b).e).toNat) (min (oneD a).e (oneD b).e)
 else if (oneD b).m * 2 ^ ((oneD b).e - min (oneD a).e (oneD b).e).toNat <= (oneD a).m * 2 ^ ((oneD a).e - min (oneD a).e (oneD b).e).toNat then
   aAL (oneD a).neg ((oneD a).m * 2 ^ ((oneD a).e - min (oneD a).e (oneD b).e).toNat - (oneD b).m * 2 ^ ((oneD b).e - min (oneD a).e (oneD b).e).toNat) (min (oneD a).e (oneD b).e)
 else aAL (oneD b).neg ((oneD b).m * 2 ^ ((oneD b).e - min (oneD a).e (oneD b).e).toNat - (oneD a).m * 2 ^ ((oneD a).e - min (oneD a).e (oneD b).e).toNat) (min (oneD a).e (oneD b).e)
theorem aFb {a b : Nat} (h : b <= a) : ((a - b : Nat) : Rat) = (a : Rat) - (b : Rat) := by
 have : ((a - b + b : Nat) : Rat) = (a : Rat) := by rw [Nat.sub_add_cancel h]
 rw [Rat.natCast_add] at this; grind
theorem aLu (x : D) (e : Int) (h : e <= x.e) : ((x.m * 2 ^ (x.e - e).toNat : Nat) : Rat) * p2 e = (x.m : Rat) * p2 x.e := by
 rw [Rat.natCast_mul, aEC (by omega)]
 have := aOk x.e e
 grind
theorem aMH (a b : D) : (addD a b).v = a.v + b.v := by
 unfold addD
 by_cases ha : a.m = 0
 · rw [if_pos ha, aC6, aBL.2 ha]; grind
 rw [if_neg ha]
 by_cases hb : b.m = 0
 · rw [if_pos hb, aC6, aBL.2 hb]; grind
 rw [if_neg hb, <- aC6 a, <- aC6 b]
 generalize oneD a = x
 generalize oneD b = y
 have hx := aLu x (min x.e y.e) (by omega)
 have hy := aLu y (min x.e y.e) (by omega)
 have vx : x.v = sg x.neg * ((x.m : Rat) * p2 x.e) := by unfold D.v; grind
 have vy : y.v = sg y.neg * ((y.m : Rat) * p2 y.e) := by unfold D.v; grind
 rw [vx, vy, <- hx, <- hy]
 generalize x.m * 2 ^ (x.e - min x.e y.e).toNat = X
 generalize y.m * 2 ^ (y.e - min x.e y.e).toNat = Y
 split
 · rename_i hs
   rw [aCy, Rat.natCast_add, hs]
   grind
 · rename_i hs
   have hsg : sg x.neg = -sg y.neg := by
     unfold sg
     cases hx : x.neg <;> cases hy : y.neg <;> simp_all
   split
   · rename_i hle
     rw [aCy, aFb hle]
     grind
   · rename_i hle
     rw [aCy, aFb (by omega)]
     grind
def mulD (a b : D) : D := aAL (a.neg != b.neg) (a.m * b.m) (a.e + b.e)
theorem aGA (a b : D) : (mulD a b).v = a.v * b.v := by
 unfold mulD; rw [aCy, aA9, Rat.natCast_mul]; unfold D.v sg
 cases a.neg <;> cases b.neg <;> simp <;> grind
end
section
def cmpD (a b : D) : Int := if a.v < b.v then -1 else if b.v < a.v then 1 else 0
theorem aCV (a b : D) : cmpD a b <= 0 <-> a.v <= b.v := by
 unfold cmpD; split
 · constructor <;> intro <;> first | omega | grind
 · split <;> constructor <;> intro <;> first | omega | grind
theorem aHH (a b : D) : 0 < cmpD a b <-> b.v < a.v := by
 have := aCV a b
 constructor <;> intro h
 · apply Rat.not_le.1; intro h2; have := this.2 h2; omega
 · apply Int.not_le.1; intro h2; have := this.1 h2; grind
theorem aGK (a b : D) : cmpD a b < 0 <-> a.v < b.v := by
 unfold cmpD; split
 · constructor <;> intro <;> first | omega | grind
 · split <;> constructor <;> intro <;> first | omega | grind
def aAK (d : D) : Int := if d.m = 0 then 0 else if d.neg then -1 else 1
theorem aIF (d : D) : aAK d = if d.v < 0 then -1 else if 0 < d.v then 1 else 0 := by
 unfold aAK
 by_cases h : d.m = 0
 · rw [if_pos h, aBL.2 h, if_neg (by decide), if_neg (by decide)]
 · rw [if_neg h]
   have h1 : d.v ≠ 0 := fun h2 => h (aBL.1 h2)
   by_cases hn : d.neg = true
   · rw [if_pos hn, if_pos ((aB0 h).1 hn)]
   · have h2 : ¬ d.v < 0 := fun h2 => hn ((aB0 h).2 h2)
     rw [if_neg hn, if_neg h2, if_pos (by grind)]
def D.av (d : D) : Rat := (d.m : Rat) * p2 d.e
theorem aHf (d : D) : 0 <= d.av := Rat.mul_nonneg Rat.natCast_nonneg (Rat.le_of_lt (aAz _))
theorem v_av (d : D) : d.v = sg d.neg * d.av := by unfold D.v D.av; grind
def topD (d : D) : Int := d.e + ((bl d.m : Nat) : Int) - 1
theorem aFq {d : D} (h : d.m ≠ 0) : p2 (topD d) <= d.av := by
 have h1 := aHJ h
 have h2 := aD6 h
 unfold topD D.av
 rw [show d.e + ((bl d.m : Nat) : Int) - 1 = ((bl d.m - 1 : Nat) : Int) + d.e by omega, aA9, aBE]
 exact Rat.mul_le_mul_of_nonneg_right (Rat.natCast_le_natCast.2 h1) (Rat.le_of_lt (aAz _))
theorem aFk (d : D) : d.av < p2 (topD d + 1) := by
 have h1 := aDO d.m
 unfold topD D.av
 rw [show d.e + ((bl d.m : Nat) : Int) - 1 + 1 = ((bl d.m : Nat) : Int) + d.e by omega, aA9, aBE]
 exact Rat.mul_lt_mul_of_pos_right (Rat.natCast_lt_natCast.2 h1) (aAz _)
def cutD (d : D) (p : Int) (up : Bool) : D :=
 if ((bl (oneD d).m : Nat) : Int) - p <= 0 then oneD d else
 aAL (oneD d).neg ((oneD d).m / 2 ^ (((bl (oneD d).m : Nat) : Int) - p).toNat + (if up != (oneD d).neg then 1 else 0)) ((oneD d).e + (((bl (oneD d).m : Nat) : Int) - p))
theorem aCY (a b : Nat) (hb : 0 < b) : ((a / b : Nat) : Rat) * b <= a /\ (a : Rat) < (((a / b : Nat) : Rat) + 1) * b := by
 have h1 := Nat.div_add_mod a b
 have h2 := Nat.mod_lt a hb
 generalize a / b = q at *
 generalize a % b = r at *
 subst h1
 rw [Rat.natCast_add, Rat.natCast_mul]
 have h3 : (r : Rat) < (b : Rat) := Rat.natCast_lt_natCast.2 h2
 have h4 : (0 : Rat) <= (r : Rat) := Rat.natCast_nonneg
 constructor <;> grind
theorem aKm {d : D} (h : d.canon) {k : Nat} (hk : 0 < k) (hm : d.m ≠ 0) : ¬ (d.m / 2 ^ k * 2 ^ k = d.m) := by
 intro h2
 rcases h with h | ⟨h, _⟩
 · obtain ⟨j, rfl⟩ : ∃ j, k = j + 1 := ⟨k - 1, by omega⟩
   rw [Nat.pow_succ, <- Nat.mul_assoc] at h2
   omega
 · exact hm h
def Cutd (x : Rat) (p : Int) (up : Bool) (r : D) : Prop := r.canon /\ (if up then x <= r.v else r.v <= x) /\
   (0 <= x -> 0 <= r.v /\ r.v <= x + x * p2 (1 - p) /\ x - x * p2 (1 - p) <= r.v) /\
   (x <= 0 -> r.v <= 0 /\ x + x * p2 (1 - p) <= r.v /\ r.v <= x - x * p2 (1 - p))
theorem aDM (d : D) {p : Int} (hp : 1 <= p) (up : Bool) : Cutd d.v p up (cutD d p up) := by
 unfold Cutd
 unfold cutD
 have hc := aB2 d
 rw [<- aC6 d]
 generalize oneD d = d at *
 have hpp := aAz (1 - p)
 split
 · refine ⟨hc, ?_, ?_, ?_⟩
   · cases up <;> simp
   · intro h; have := Rat.mul_nonneg h (Rat.le_of_lt hpp); refine ⟨h, ?_, ?_⟩ <;> grind
   · intro h
     have := Rat.mul_nonneg (show 0 <= -d.v by grind) (Rat.le_of_lt hpp)
     refine ⟨h, ?_, ?_⟩ <;> grind
 rename_i hn
 refine ⟨aCz _ _ _, ?_⟩
 obtain ⟨n, hn2⟩ : ∃ n : Nat, ((bl d.m : Nat) : Int) - p = ((n : Nat) : Int) := ⟨(((bl d.m : Nat) : Int) - p).toNat, by omega⟩
 rw [hn2] at hn ⊢
 rw [Int.toNat_natCast, aCy, v_av]
 have hm0 : d.m ≠ 0 := by intro h; rw [h, aGM] at hn2; omega
 have h1 := aCY d.m (2 ^ n) (Nat.pow_pos (by decide))
 generalize hq : d.m / 2 ^ n = q at *
 have hav : d.av = (d.m : Rat) * p2 d.e := rfl
 have e1 : ((2 ^ n : Nat) : Rat) * p2 d.e = p2 (d.e + n) := by rw [aA9, aBE]; grind
 have hP := aAz (d.e + n)
 have g1 : (q : Rat) * p2 (d.e + n) <= d.av := by
   have := Rat.mul_le_mul_of_nonneg_right h1.1 (Rat.le_of_lt (aAz d.e))
   rw [hav, <- e1]; grind
 have g2 : d.av <= ((q : Rat) + 1) * p2 (d.e + n) := by
   have := Rat.mul_le_mul_of_nonneg_right (Rat.le_of_lt h1.2) (Rat.le_of_lt (aAz d.e))
   rw [hav, <- e1]; grind
 have g3 : p2 (d.e + n) <= d.av * p2 (1 - p) := by
   have h2 := aFq hm0
   have h3 := Rat.mul_le_mul_of_nonneg_right h2 (Rat.le_of_lt hpp)
   rw [<- aA9] at h3
   have : topD d + (1 - p) = d.e + n := by unfold topD; omega
   rwa [this] at h3
 have g4 := aHf d
 have g5 : (0 : Rat) <= (q : Rat) := Rat.natCast_nonneg
 have g6 : 0 <= (q : Rat) * p2 (d.e + n) := Rat.mul_nonneg g5 (Rat.le_of_lt hP)
 have g7 : p2 (1 - p) <= 1 := by
   have := aA7 (show 1 - p <= 0 by omega); rwa [aCt] at this
 have g8 : 0 <= d.av * p2 (1 - p) := Rat.mul_nonneg g4 (Rat.le_of_lt hpp)
 have g9 : 0 < d.av := by have := aFq hm0; have := aAz (topD d); grind
 have e3 : ((q + 0 : Nat) : Rat) = (q : Rat) := by rw [Nat.add_zero]
 have e4 : ((q + 1 : Nat) : Rat) = (q : Rat) + 1 := by rw [Rat.natCast_add]; rfl
 have s1 : sg true = -1 := rfl
 have s2 : sg false = 1 := rfl
 generalize d.av = A at *
 generalize p2 (d.e + n) = P at *
 generalize p2 (1 - p) = ε at *
 cases hneg : d.neg <;> cases up <;> simp only [bne_self_eq_false, Bool.false_eq_true, if_false, if_true, Bool.bne_true, Bool.bne_false, Bool.not_false, e3, e4, s1, s2] <;> refine ⟨?_, ?_, ?_⟩ <;> grind
end
section
def stk (q : Nat) (more : Bool) : Nat := q * 2 + (if more then 1 else 0)
theorem aW6 {q : Nat} (h : q ≠ 0) (more : Bool) : bl (stk q more) = bl q + 1 := by
 unfold stk
 have h1 := aDO q
 have h2 := aHJ h
 have h3 := aD6 h
 obtain ⟨k, hk⟩ : ∃ k, bl q = k + 1 := ⟨bl q - 1, by omega⟩
 rw [hk] at h1 h2 ⊢; simp only [Nat.add_sub_cancel] at h2
 apply aFQ
 · rw [Nat.pow_succ]; split <;> omega
 · rw [Nat.pow_succ]; split <;> omega
theorem aSQ {x : Rat} {q : Nat} {E p : Int} (hp : 1 <= p) (hq : 2 ^ p.toNat <= q) (h1 : (q : Rat) * p2 E <= x) (h2 : x < ((q : Rat) + 1) * p2 E)
   (more : Bool) (hm : more = false -> x = (q : Rat) * p2 E) (neg up : Bool) :
   (cutD (aAL neg (stk q more) (E - 1)) p up).canon /\
   (if up then sg neg * x <= (cutD (aAL neg (stk q more) (E - 1)) p up).v else (cutD (aAL neg (stk q more) (E - 1)) p up).v <= sg neg * x) /\
   (neg = false -> 0 <= (cutD (aAL neg (stk q more) (E - 1)) p up).v /\ (cutD (aAL neg (stk q more) (E - 1)) p up).v <= x + x * p2 (1 - p) /\ x - x * p2 (1 - p) <= (cutD (aAL neg (stk q more) (E - 1)) p up).v) /\
   (neg = true -> (cutD (aAL neg (stk q more) (E - 1)) p up).v <= 0 /\ -(x + x * p2 (1 - p)) <= (cutD (aAL neg (stk q more) (E - 1)) p up).v /\ (cutD (aAL neg (stk q more) (E - 1)) p up).v <= -(x - x * p2 (1 - p))) := by
 have hP := aAz E
 have hx0 : 0 <= x := Rat.le_trans (Rat.mul_nonneg Rat.natCast_nonneg (Rat.le_of_lt hP)) h1
 have hq1 : 0 < 2 ^ p.toNat := Nat.pow_pos (by decide)
 have hq0 : q ≠ 0 := by omega
 cases more with
 | false =>
   have hx := hm rfl
   have hv : (aAL neg (stk q false) (E - 1)).v = sg neg * x := by
     rw [aCy, hx]
     unfold stk
     have e1 := aOk E 1
     rw [aIX] at e1
     rw [if_neg (by decide), Nat.add_zero, Rat.natCast_mul, <- e1]
     have : ((2 : Nat) : Rat) = 2 := rfl
     grind
   have hc := aDM (aAL neg (stk q false) (E - 1)) hp up
   unfold Cutd at hc
   rw [hv] at hc
   obtain ⟨c1, c2, c3, c4⟩ := hc
   refine ⟨c1, c2, fun hn => ?_, fun hn => ?_⟩
   · subst hn
     have e : sg false * x = x := by unfold sg; simp
     rw [e] at c3
     exact c3 hx0
   · subst hn
     have e : sg true * x = -x := by unfold sg; simp; grind
     rw [e] at c4
     have := c4 (by grind)
     refine ⟨this.1, ?_, ?_⟩ <;> grind
 | true =>
   have hodd : stk q true % 2 = 1 := by unfold stk; rw [if_pos rfl]; omega
   have hf : aAL neg (stk q true) (E - 1) = ⟨neg, stk q true, E - 1⟩ := aKl (d := ⟨neg, stk q true, E - 1⟩) (.inl hodd)
   rw [hf]
   have h1' : oneD ⟨neg, stk q true, E - 1⟩ = ⟨neg, stk q true, E - 1⟩ := aCL (.inl hodd)
   unfold cutD
   rw [h1']
   dsimp only
   rw [aW6 hq0]
   have hb := aDO q
   have hb2 := aHJ hq0
   have hbp : p.toNat < bl q := by
     apply Nat.lt_of_not_le; intro hle
     have := Nat.pow_le_pow_right (show 0 < 2 by decide) hle
     omega
   obtain ⟨j, hj⟩ : ∃ j, bl q = j + p.toNat := ⟨bl q - p.toNat, by omega⟩
   have hk : ((bl q + 1 : Nat) : Int) - p = ((j + 1 : Nat) : Int) := by omega
   rw [hk, if_neg (by omega), Int.toNat_natCast]
   have hdiv : stk q true / 2 ^ (j + 1) = q / 2 ^ j := by
     rw [Nat.pow_succ, Nat.mul_comm, <- Nat.div_div_eq_div_mul]
     congr 1
     unfold stk; rw [if_pos rfl]; omega
   rw [hdiv]
   refine ⟨aCz _ _ _, ?_⟩
   rw [aCy, show E - 1 + ((j + 1 : Nat) : Int) = (j : Int) + E by omega, aA9, aBE]
   have d1 := Nat.div_mul_le_self q (2 ^ j)
   have d2 := Nat.lt_div_mul_add (a := q) (Nat.pow_pos (n := j) (show 0 < 2 by decide))
   have hJ : ((2 ^ j : Nat) : Rat) * p2 E <= x * p2 (1 - p) := by
     have e : ((2 ^ (bl q - 1) : Nat) : Rat) * p2 E <= x := Rat.le_trans (Rat.mul_le_mul_of_nonneg_right (Rat.natCast_le_natCast.2 hb2) (Rat.le_of_lt hP)) h1
     have e2 := Rat.mul_le_mul_of_nonneg_right e (Rat.le_of_lt (aAz (1 - p)))
     have e3 : ((2 ^ (bl q - 1) : Nat) : Rat) * p2 (1 - p) = ((2 ^ j : Nat) : Rat) := by
       rw [<- aBE, <- aA9, <- aBE]; congr 1; omega
     rw [<- e3]; grind
   have r1 : ((q / 2 ^ j * 2 ^ j : Nat) : Rat) <= (q : Rat) := Rat.natCast_le_natCast.2 d1
   have r2 : ((q + 1 : Nat) : Rat) <= ((q / 2 ^ j * 2 ^ j + 2 ^ j : Nat) : Rat) := Rat.natCast_le_natCast.2 d2
   rw [Rat.natCast_add, Rat.natCast_add, Rat.natCast_mul, show ((1 : Nat) : Rat) = 1 from rfl] at r2
   rw [Rat.natCast_mul] at r1
   have r3 := Rat.mul_le_mul_of_nonneg_right r1 (Rat.le_of_lt hP)
   have r4 := Rat.mul_le_mul_of_nonneg_right r2 (Rat.le_of_lt hP)
   have r5 : (0 : Rat) <= ((q / 2 ^ j : Nat) : Rat) * (((2 ^ j : Nat) : Rat) * p2 E) := Rat.mul_nonneg Rat.natCast_nonneg (Rat.mul_nonneg Rat.natCast_nonneg (Rat.le_of_lt hP))
   have r6 : (0 : Rat) <= (((2 ^ j : Nat) : Rat) * p2 E) := Rat.mul_nonneg Rat.natCast_nonneg (Rat.le_of_lt hP)
   have e3 : ((q / 2 ^ j + 0 : Nat) : Rat) = ((q / 2 ^ j : Nat) : Rat) := by rw [Nat.add_zero]
   have e4 : ((q / 2 ^ j + 1 : Nat) : Rat) = ((q / 2 ^ j : Nat) : Rat) + 1 := by rw [Rat.natCast_add]; rfl
   have s1 : sg true = -1 := rfl
   have s2 : sg false = 1 := rfl
   clear hm hf h1' hodd hdiv d1 d2 r1 r2 hb hb2
   cases neg <;> cases up <;> simp only [bne_self_eq_false, Bool.false_eq_true, if_false, if_true, Bool.bne_true, Bool.bne_false, Bool.not_false, e3, e4, s1, s2] <;>
     generalize ((q / 2 ^ j : Nat) : Rat) = Q at * <;> generalize ((2 ^ j : Nat) : Rat) = J at * <;> generalize p2 E = P at * <;> refine ⟨?_, fun h => ?_, fun h => ?_⟩ <;> first | contradiction | grind
def aCe (a b : D) (p : Int) (up : Bool) : D :=
 if (oneD a).m = 0 then ⟨false, 0, 0⟩ else
 cutD (aAL ((oneD a).neg != (oneD b).neg)
   (stk ((oneD a).m * 2 ^ (max (p + 2 + ((bl (oneD b).m : Nat) : Int) - ((bl (oneD a).m : Nat) : Int)) 0).toNat / (oneD b).m)
     ((oneD a).m * 2 ^ (max (p + 2 + ((bl (oneD b).m : Nat) : Int) - ((bl (oneD a).m : Nat) : Int)) 0).toNat % (oneD b).m != 0))
   ((oneD a).e - (oneD b).e - max (p + 2 + ((bl (oneD b).m : Nat) : Int) - ((bl (oneD a).m : Nat) : Int)) 0 - 1)) p up
theorem aMZ {x : Rat} {q : Nat} {E p : Int} (hp : 1 <= p) (hq : 2 ^ p.toNat <= q) (h1 : (q : Rat) * p2 E <= x) (h2 : x < ((q : Rat) + 1) * p2 E)
   (more : Bool) (hm : more = false -> x = (q : Rat) * p2 E) (neg up : Bool) : Cutd (sg neg * x) p up (cutD (aAL neg (stk q more) (E - 1)) p up) := by
 obtain ⟨c1, c2, c3, c4⟩ := aSQ hp hq h1 h2 more hm neg up
 have hx0 : 0 < x := by
   have h3 : (0 : Rat) < (q : Rat) := Rat.natCast_pos.2 (by have : 0 < 2 ^ p.toNat := Nat.pow_pos (by decide); omega)
   have := Rat.mul_pos h3 (aAz E)
   grind
 refine ⟨c1, c2, fun hx => ?_, fun hx => ?_⟩
 · cases neg with
   | false =>
              have := c3 rfl; have e : sg false * x = x := by unfold sg; simp
              rw [e]; exact this
   | true =>
             have e : sg true * x = -x := by unfold sg; simp; grind
             rw [e] at hx; grind
 · cases neg with
   | false =>
              have e : sg false * x = x := by unfold sg; simp
              rw [e] at hx; grind
   | true =>
             have := c4 rfl; have e : sg true * x = -x := by unfold sg; simp; grind
             rw [e]; refine ⟨this.1, ?_, ?_⟩ <;> grind
theorem aOM {d : D} (h : d.m ≠ 0) : 0 < d.av := aU5 h
theorem aWy (a b : Bool) : sg (a != b) = sg a * sg b := by cases a <;> cases b <;> unfold sg <;> simp <;> grind
theorem aXu (a : Bool) : sg a * sg a = 1 := by cases a <;> unfold sg <;> simp <;> grind
theorem aL6 (a b : D) (ha : a.m ≠ 0) (hb : b.m ≠ 0) {p : Int} (hp : 1 <= p) (up : Bool) {q : Nat} {more : Bool} {k : Int}
   (hk : p + 2 + ((bl b.m : Nat) : Int) - ((bl a.m : Nat) : Int) <= k)
   (h1 : (q : Rat) * (b.m : Rat) <= (a.m : Rat) * p2 k) (h2 : (a.m : Rat) * p2 k < ((q : Rat) + 1) * (b.m : Rat)) (hm : more = false -> (a.m : Rat) * p2 k = (q : Rat) * (b.m : Rat)) :
   Cutd (a.v / b.v) p up (cutD (aAL (a.neg != b.neg) (stk q more) (a.e - b.e - k - 1)) p up) := by
 have hb0 : (0 : Rat) < (b.m : Rat) := Rat.natCast_pos.2 (by omega)
 have ex : a.v / b.v = sg (a.neg != b.neg) * (a.av / b.av) := by
   have n1 : b.av ≠ 0 := by have := aOM hb; grind
   have n2 := aVc b.neg
   have n3 : sg b.neg * b.av ≠ 0 := fun h => by rcases Rat.mul_eq_zero.1 h with h | h <;> contradiction
   have n4 := aXu b.neg
   rw [v_av, v_av, aWy]; grind
 have eP : p2 (a.e - b.e - k) * p2 k * p2 b.e = p2 a.e := by rw [<- aA9, <- aA9]; congr 1; omega
 have ebav : b.av = (b.m : Rat) * p2 b.e := rfl
 have eaav : a.av = (a.m : Rat) * p2 a.e := rfl
 have hpb := aAz b.e
 have hpE := aAz (a.e - b.e - k)
 have hbav := aOM hb
 have ev : a.av = (a.m : Rat) * p2 k * (p2 (a.e - b.e - k) * p2 b.e) := by rw [eaav, <- eP]; grind
 have hpp : 0 < p2 (a.e - b.e - k) * p2 b.e := Rat.mul_pos hpE hpb
 have g1 : (q : Rat) * p2 (a.e - b.e - k) <= a.av / b.av := by
   rw [aBw hbav, ev, ebav]
   have := Rat.mul_le_mul_of_nonneg_right h1 (Rat.le_of_lt hpp)
   grind
 have g2 : a.av / b.av < ((q : Rat) + 1) * p2 (a.e - b.e - k) := by
   rw [Rat.div_lt_iff hbav, ev, ebav]
   have := Rat.mul_lt_mul_of_pos_right h2 hpp
   grind
 have g3 : more = false -> a.av / b.av = (q : Rat) * p2 (a.e - b.e - k) := fun h => by
   have := hm h
   have n1 : b.av ≠ 0 := by grind
   have e : a.av = (q : Rat) * p2 (a.e - b.e - k) * b.av := by rw [ev, this, ebav]; grind
   rw [e]; grind
 have hq : 2 ^ p.toNat <= q := by
   have t1 := aHJ ha
   have t2 := aDO b.m
   have t3 : p2 (((bl a.m - 1 : Nat) : Int) + k) <= (a.m : Rat) * p2 k := by
     rw [aA9, aBE]; exact Rat.mul_le_mul_of_nonneg_right (Rat.natCast_le_natCast.2 t1) (Rat.le_of_lt (aAz k))
   have t4 : (b.m : Rat) <= p2 ((bl b.m : Nat) : Int) := by rw [aBE]; exact Rat.natCast_le_natCast.2 (by omega)
   have t5 := aD6 ha
   have t6 := aA7 (show p + 1 + ((bl b.m : Nat) : Int) <= ((bl a.m - 1 : Nat) : Int) + k by omega)
   rw [aA9] at t6
   have t7 := aAz (p + 1)
   have t8 : p2 (p + 1) * (b.m : Rat) < ((q : Rat) + 1) * (b.m : Rat) := by
     have := Rat.mul_le_mul_of_nonneg_left t4 (Rat.le_of_lt t7)
     grind
   have t9 := Rat.lt_of_mul_lt_mul_right t8 (Rat.le_of_lt hb0)
   rw [<- aEC (by omega)] at t9
   have t10 : ((2 ^ (p + 1).toNat : Nat) : Rat) < ((q + 1 : Nat) : Rat) := by rw [Rat.natCast_add]; exact t9
   have t11 := Rat.natCast_lt_natCast.1 t10
   rw [show (p + 1).toNat = p.toNat + 1 by omega, Nat.pow_succ] at t11
   omega
 rw [ex]
 exact aMZ hp hq g1 g2 more g3 _ up
theorem aLA (p : Int) (up : Bool) : Cutd 0 p up ⟨false, 0, 0⟩ := by
 have h : D.v ⟨false, 0, 0⟩ = 0 := aBL.2 rfl
 refine ⟨.inr ⟨rfl, rfl, rfl⟩, ?_, ?_, ?_⟩
 · rw [h]; cases up <;> simp
 · intro _; rw [h]; refine ⟨?_, ?_, ?_⟩ <;> grind
 · intro _; rw [h]; refine ⟨?_, ?_, ?_⟩ <;> grind
theorem aWJ (a b : D) (hb : b.v ≠ 0) {p : Int} (hp : 1 <= p) (up : Bool) : Cutd (a.v / b.v) p up (aCe a b p up) := by
 unfold aCe
 rw [<- aC6 a, <- aC6 b] at *
 generalize oneD a = a at *
 generalize oneD b = b at *
 have hbm : b.m ≠ 0 := fun h => hb (aBL.2 h)
 by_cases ha : a.m = 0
 · rw [if_pos ha, aBL.2 ha]
   have e : (0 : Rat) / b.v = 0 := by grind
   rw [e]; exact aLA p up
 rw [if_neg ha]
 obtain ⟨k, hk⟩ : ∃ k : Nat, max (p + 2 + ((bl b.m : Nat) : Int) - ((bl a.m : Nat) : Int)) 0 = (k : Int) := ⟨(max (p + 2 + ((bl b.m : Nat) : Int) - ((bl a.m : Nat) : Int)) 0).toNat, by omega⟩
 rw [hk, Int.toNat_natCast]
 have hd := aCY (a.m * 2 ^ k) b.m (by omega)
 have em : ((a.m * 2 ^ k : Nat) : Rat) = (a.m : Rat) * p2 (k : Int) := by rw [aBE, Rat.natCast_mul]
 rw [em] at hd
 refine aL6 a b ha hbm hp up (by omega) ?_ ?_ ?_
 · exact hd.1
 · exact hd.2
 · intro h
   have h0 : a.m * 2 ^ k % b.m = 0 := by simpa using h
   rw [<- em, <- Rat.natCast_mul, Rat.natCast_inj]
   have := Nat.div_add_mod (a.m * 2 ^ k) b.m
   rw [h0, Nat.add_zero, Nat.mul_comm] at this
   exact this.symm
def aBm (d : D) : D :=
 if 0 <= (oneD d).e then oneD d else
 aAL (oneD d).neg ((oneD d).m / 2 ^ (-(oneD d).e).toNat + (if (oneD d).m % 2 ^ (-(oneD d).e).toNat != 0 && (oneD d).neg then 1 else 0)) 0
theorem aRB {m : Nat} {e : Int} (h : 0 <= e) : 0 <= fExp m e := by unfold fExp; split <;> omega
theorem aHC (d : D) : (aBm d).canon /\ 0 <= (aBm d).e /\ (aBm d).v <= d.v /\ d.v < (aBm d).v + 1 := by
 unfold aBm
 have hc := aB2 d
 rw [<- aC6 d]
 generalize oneD d = d at *
 split
 · rename_i h
   exact ⟨hc, h, Rat.le_refl, by grind⟩
 rename_i h
 refine ⟨aCz _ _ _, aRB (Int.le_refl 0), ?_⟩
 obtain ⟨k, hk⟩ : ∃ k : Nat, -d.e = (k : Int) := ⟨(-d.e).toNat, by omega⟩
 rw [hk, Int.toNat_natCast, aCy, aCt, v_av]
 have hm : d.m % 2 = 1 := by rcases hc with hc | ⟨_, _, hc⟩ <;> omega
 have hlost : (d.m % 2 ^ k != 0) = true := by
   obtain ⟨j, rfl⟩ : ∃ j, k = j + 1 := ⟨k - 1, by omega⟩
   rw [bne_iff_ne]; intro h0
   have := Nat.dvd_of_mod_eq_zero h0
   have := Nat.dvd_trans (Nat.dvd_mul_left 2 (2 ^ j)) (by rwa [Nat.pow_succ] at this)
   omega
 have hne : d.m ≠ d.m / 2 ^ k * 2 ^ k := fun h0 => aKm hc (k := k) (by omega) (by omega) h0.symm
 rw [hlost, Bool.true_and]
 have hd := aCY d.m (2 ^ k) (Nat.pow_pos (by decide))
 have hlt : ((d.m / 2 ^ k : Nat) : Rat) * ((2 ^ k : Nat) : Rat) < (d.m : Rat) := by
   rw [<- Rat.natCast_mul]; exact Rat.natCast_lt_natCast.2 (by have := Nat.div_mul_le_self d.m (2 ^ k); omega)
 have hP : ((2 ^ k : Nat) : Rat) * p2 d.e = 1 := by rw [<- aBE, <- aA9, <- hk, show -d.e + d.e = 0 by omega, aCt]
 have hPP := aAz d.e
 have hav : d.av = (d.m : Rat) * p2 d.e := rfl
 have g1 : ((d.m / 2 ^ k : Nat) : Rat) < d.av := by
   have := Rat.mul_lt_mul_of_pos_right hlt hPP
   have e : ((d.m / 2 ^ k : Nat) : Rat) * ((2 ^ k : Nat) : Rat) * p2 d.e = ((d.m / 2 ^ k : Nat) : Rat) := by rw [Rat.mul_assoc, hP, Rat.mul_one]
   rw [e] at this; exact this
 have g2 : d.av < ((d.m / 2 ^ k : Nat) : Rat) + 1 := by
   have := Rat.mul_lt_mul_of_pos_right hd.2 hPP
   have e : (((d.m / 2 ^ k : Nat) : Rat) + 1) * ((2 ^ k : Nat) : Rat) * p2 d.e = ((d.m / 2 ^ k : Nat) : Rat) + 1 := by rw [Rat.mul_assoc, hP, Rat.mul_one]
   rw [e] at this; exact this
 generalize d.av = A at *
 cases d.neg with
 | false =>
   have e : sg false = 1 := rfl
   rw [if_neg (by decide), Nat.add_zero, e]
   constructor <;> grind
 | true =>
   have e : sg true = -1 := rfl
   rw [if_pos rfl, Rat.natCast_add, e]
   have : ((1 : Nat) : Rat) = 1 := rfl
   constructor <;> grind
end
section
open Go.RowKit
theorem Tryz.aggBool : aggT Tryz.prog 4 = some false := by kernel_rfl
theorem Tryz.aggInt : aggT Tryz.prog 3 = some false := by kernel_rfl
theorem Tryz.aggI64 : aggT Tryz.prog 2 = some false := by kernel_rfl
theorem Tryz.aggU64 : aggT Tryz.prog 23 = some false := by kernel_rfl
theorem Tryz.aggNat : aggT Tryz.prog 25 = some false := by kernel_rfl
theorem Tryz.aggDyad : aggT Tryz.prog 27 = some true := by kernel_rfl
theorem Tryz.aggIval : aggT Tryz.prog 29 = some true := by kernel_rfl
theorem Tryz.szInt : szT Tryz.prog 3 = some 1 := by kernel_rfl
theorem Tryz.szBool : szT Tryz.prog 4 = some 1 := by kernel_rfl
theorem Tryz.szNat : szT Tryz.prog 25 = some 1 := by kernel_rfl
theorem Tryz.szDyad : szT Tryz.prog 27 = some 3 := by kernel_rfl
theorem Tryz.szIval : szT Tryz.prog 29 = some 6 := by kernel_rfl
theorem Tryz.fldDyad0 : fldT Tryz.prog 27 0 = some 0 := by kernel_rfl
theorem Tryz.fldDyad1 : fldT Tryz.prog 27 1 = some 1 := by kernel_rfl
theorem Tryz.fldDyad2 : fldT Tryz.prog 27 2 = some 2 := by kernel_rfl
theorem Tryz.fldIval0 : fldT Tryz.prog 29 0 = some 0 := by kernel_rfl
theorem Tryz.fldIval1 : fldT Tryz.prog 29 1 = some 3 := by kernel_rfl
theorem Tryz.bldDyad : bldT Tryz.prog 27 = some ([(0, 1), (1, 1), (2, 1)], [.bool false, .slice none 0 0, .int .i64 0]) := by kernel_rfl
theorem Tryz.bldIval : bldT Tryz.prog 29 = some ([(0, 3), (3, 3)], [.bool false, .slice none 0 0, .int .i64 0, .bool false, .slice none 0 0, .int .i64 0]) := by kernel_rfl
theorem Tryz.zerDyad : zerT Tryz.prog 27 = some [.bool false, .slice none 0 0, .int .i64 0] := by kernel_rfl
theorem Tryz.zerIval : zerT Tryz.prog 29 = some [.bool false, .slice none 0 0, .int .i64 0, .bool false, .slice none 0 0, .int .i64 0] := by kernel_rfl
theorem Tryz.boolTB : aNN Tryz.prog 4 = true := by kernel_rfl
theorem Tryz.sliNat : sliT Tryz.prog 25 = true := by kernel_rfl
theorem Tryz.mixed : Tryz.prog.follows .mixedOrders = true := by kernel_rfl
theorem aAc : aHK TabW := fun _ _ h hb => h.call hb
def dyV (d : D) : AV := .agg [.lit (.bool d.neg), .num d.m, .lit (.int .i64 d.e)]
theorem aCC {S : Nat -> Prop} {β : List Nat} {w : World} {n : Nat} {e : Ending} {w' : World} (hS : ∀ b, S b -> b < w.heap.size) (h : aCW w w.heap.size n e w') : ∃ v, e = .returned v /\ Rep S β w' (.num n) v /\ Below w.heap.size w w' := by
 obtain ⟨v, h1, h2, h3⟩ := h
 refine ⟨v, h1, ?_, h3⟩
 simp only [Rep]
 refine ⟨aAE.mono h2 (Nat.zero_le _), fun b o s n c e hl hs => ?_⟩
 obtain ⟨x, cap, e1, _, _, _, h5⟩ := h2
 obtain ⟨b', off, e2, hlo, _⟩ := h5 0 hl
 rw [e1, e2] at e
 injection e with e3
 injection e3 with e3
 injection e3 with e3
 have := hS b hs
 omega
theorem aJm {S : Nat -> Prop} {β : List Nat} {w : World} {d : D} {e : Ending} {w' : World} (hS : ∀ b, S b -> b < w.heap.size) (h : aMP w d.neg d.m d.e e w') : ∃ v, e = .returned v /\ Rep S β w' (dyV d) v /\ Below w.heap.size w w' := by
 obtain ⟨v, h1, ⟨a, rfl, h2⟩, h3⟩ := h
 obtain ⟨u, h4, h5, _⟩ := aCC (β := β) (n := d.m) (e := .returned a) hS ⟨a, rfl, h2, h3⟩
 cases h4
 refine ⟨_, h1, ?_, h3⟩
 simp only [dyV, Rep, RepL]
 refine ⟨[_, _, _], rfl, _, _, rfl, rfl, _, _, rfl, ?_, _, _, rfl, rfl, rfl⟩
 simpa only [Rep] using h5
def Sm (n : Nat) : Prop := bl n <= 1000000000000
theorem aGl {n : Nat} (h : Sm n) : (limbsOf n).length <= 549755813888 := Nat.le_trans (aDt (k := 15625000001) (by unfold Sm at h; omega)) (by decide)
def Se (e : Int) : Prop := -1000000000000000000 <= e /\ e <= 1000000000000000000
theorem aGB (a b : Nat) (ha : Sm a) (hb : Sm b) : AC Tryz.prog TabW 89 [.num a, .num b] (.num (a + b)) := by
 refine ⟨by kernel_rfl, fun S β w vs hI hS h => ?_⟩
 simp only [RepL, Rep] at h
 obtain ⟨va, _, rfl, h1, vb, _, rfl, h2, rfl⟩ := h
 have := aWp 0 va vb _ _ w h1.1 h2.1 (by have := aGl ha; omega) (by have := aGl hb; omega)
 rw [aAi, aAi] at this
 exact this.mono fun e w' h => aCC hS h
theorem aK8 (a b : Nat) (ha : Sm a) (hb : Sm b) : AC Tryz.prog TabW 165 [.num a, .num b] (.num (a * b)) := by
 refine ⟨by kernel_rfl, fun S β w vs hI hS h => ?_⟩
 simp only [RepL, Rep] at h
 obtain ⟨va, _, rfl, h1, vb, _, rfl, h2, rfl⟩ := h
 have := aWi 0 va vb _ _ w h1.1 h2.1 (aGl ha) (aGl hb)
 rw [aAi, aAi] at this
 exact this.mono fun e w' h => aCC hS h
theorem aDn (neg : Bool) (m : Nat) (e : Int) (hm : Sm m) (he : Se e) : AC Tryz.prog TabW 86 [.lit (.bool neg), .num m, .lit (.int .i64 e)] (dyV (aAL neg m e)) := by
 refine ⟨by kernel_rfl, fun S β w vs hI hS h => ?_⟩
 simp only [RepL, Rep] at h
 obtain ⟨_, _, rfl, rfl, va, _, rfl, h1, _, _, rfl, rfl, rfl⟩ := h
 have := aOW 0 neg va (limbsOf m) e w h1.1 (aGl hm) (by have := he.1; omega) (by have := he.2; omega) hI
 rw [aAi] at this
 exact this.mono fun e w' h => aJm hS h
theorem Tryz.tys : aggT Tryz.prog 4 = some false /\ aggT Tryz.prog 3 = some false /\ aggT Tryz.prog 2 = some false /\ aggT Tryz.prog 23 = some false /\ aggT Tryz.prog 25 = some false /\ aggT Tryz.prog 27 = some true /\ aggT Tryz.prog 29 = some true /\
   szT Tryz.prog 3 = some 1 /\ szT Tryz.prog 4 = some 1 /\ szT Tryz.prog 25 = some 1 /\ szT Tryz.prog 27 = some 3 /\ szT Tryz.prog 29 = some 6 /\
   fldT Tryz.prog 27 0 = some 0 /\ fldT Tryz.prog 27 1 = some 1 /\ fldT Tryz.prog 27 2 = some 2 /\ fldT Tryz.prog 29 0 = some 0 /\ fldT Tryz.prog 29 1 = some 3 /\
   bldT Tryz.prog 27 = some ([(0, 1), (1, 1), (2, 1)], [.bool false, .slice none 0 0, .int .i64 0]) /\ bldT Tryz.prog 29 = some ([(0, 3), (3, 3)], [.bool false, .slice none 0 0, .int .i64 0, .bool false, .slice none 0 0, .int .i64 0]) /\
   zerT Tryz.prog 27 = some [.bool false, .slice none 0 0, .int .i64 0] /\ zerT Tryz.prog 29 = some [.bool false, .slice none 0 0, .int .i64 0, .bool false, .slice none 0 0, .int .i64 0] /\
   aNN Tryz.prog 4 = true /\ sliT Tryz.prog 25 = true /\ sliT Tryz.prog 24 = true :=
 ⟨Tryz.aggBool, Tryz.aggInt, Tryz.aggI64, Tryz.aggU64, Tryz.aggNat, Tryz.aggDyad, Tryz.aggIval, Tryz.szInt, Tryz.szBool, Tryz.szNat, Tryz.szDyad, Tryz.szIval, Tryz.fldDyad0, Tryz.fldDyad1, Tryz.fldDyad2, Tryz.fldIval0, Tryz.fldIval1, Tryz.bldDyad, Tryz.bldIval, Tryz.zerDyad, Tryz.zerIval, Tryz.boolTB, Tryz.sliNat, (by kernel_rfl)⟩
theorem aHo (d : D) (hm : Sm d.m) (he : Se d.e) : AC Tryz.prog TabW 64 [dyV d] (dyV (aAL d.neg d.m d.e)) := by
 refine aAd Tryz.func64 rfl (by kernel_rfl) aAc Tryz.mixed rfl rfl (by kernel_rfl) ?_
 simp only [dyV, aAl, Tryz.ntmps64]
 refine aAa fun K hK => aAx ?_
 simp only [xo, xv, xw, xe, xb, xl, xlw, xlf, xbq, Tryz.tys, aAS, aAQ, aAy, dyV, reduceIte, Nat.reduceLT, Nat.reduceEqDiff, Nat.reduceAdd, Nat.reduceLeDiff]
 refine hK _ (aAa fun K hK => aAx ?_)
 simp only [xo, xv, xw, xe, xb, xl, xlw, xlf, xbq, Tryz.tys, aAS, aAQ, aAy, dyV, reduceIte, Nat.reduceLT, Nat.reduceEqDiff, Nat.reduceAdd, Nat.reduceLeDiff]
 refine cxo (aDn _ _ _ hm he) ?_
 simp only [xo, xv, xw, xe, xb, xl, xlw, xlf, xbq, Tryz.tys, aAS, aAQ, aAy, dyV, reduceIte, Nat.reduceLT, Nat.reduceEqDiff, Nat.reduceAdd, Nat.reduceLeDiff]
 refine hK _ (aAe ?_)
 simp only [endX, resX, resV, Tryz.results64]
 simp only [xo, xv, xw, xe, xb, xl, xlw, xlf, xbq, Tryz.tys, aAS, aAQ, aAy, dyV, reduceIte, Nat.reduceLT, Nat.reduceEqDiff, Nat.reduceAdd, Nat.reduceLeDiff]
theorem aVk (a b : D) (ha : Sm a.m) (hb : Sm b.m) (hp : Sm (a.m * b.m)) (he : Se (a.e + b.e)) : AC Tryz.prog TabW 134 [dyV a, dyV b] (dyV (mulD a b)) := by
 have hw : IntKind.i64.wrap (a.e + b.e) = a.e + b.e := IntWalk.i64_in _ (by unfold Se at he; omega)
 refine aAd Tryz.func134 rfl (by kernel_rfl) aAc Tryz.mixed rfl rfl (by kernel_rfl) ?_
 simp only [dyV, aAl, Tryz.ntmps134]
 refine aAa fun K hK => aAx ?_
 simp only [xo, xv, xw, xe, xb, xl, xlw, xlf, xbq, Tryz.tys, aAS, aAQ, aAy, dyV, reduceIte, Nat.reduceLT, Nat.reduceEqDiff, Nat.reduceAdd, Nat.reduceLeDiff]
 refine hK _ (aAa fun K hK => aD3 16 (by kernel_rfl) (by kernel_rfl) ?_)
 simp only [xq, xh, simprocAttr, dyV]
 refine cxh (aK8 _ _ ha hb) ?_
 simp only [xq, xh, simprocAttr, dyV]
 rw [hw]
 refine cxh (aDn _ _ _ hp he) ?_
 simp only [xq, xh, simprocAttr, dyV]
 refine hK _ (aAe ?_)
 simp only [endX, resX, resV, Tryz.results134]
 simp only [xo, xv, xw, xe, xb, xl, xlw, xlf, xbq, Tryz.tys, aAS, aAQ, aAy, dyV, reduceIte, Nat.reduceLT, Nat.reduceEqDiff, Nat.reduceAdd, Nat.reduceLeDiff]
 rfl
end
section
open Go.RowKit
section
variable {S : Nat -> Prop} {β : List Nat} {w w' : World}
theorem aFE {n : Nat} {v : Value} (hS : ∀ b, S b -> b < w.heap.size) (h : Num w.heap.size w' v n) : Rep S β w' (.num n) v := by
 simp only [Rep]
 refine ⟨aAE.mono h (Nat.zero_le _), fun b o s n c e hl hs => ?_⟩
 obtain ⟨x, cap, e1, _, _, _, h5⟩ := h
 obtain ⟨b', off, e2, hlo, _⟩ := h5 0 hl
 rw [e1, e2] at e
 injection e with e3
 injection e3 with e3
 injection e3 with e3
 have := hS b hs
 omega
end
theorem aK6 (a b : Nat) (ha : Sm a) (hb : b <= a) : AC Tryz.prog TabW 91 [.num a, .num b] (.num (a - b)) := by
 refine ⟨by kernel_rfl, fun S β w vs hI hS h => ?_⟩
 simp only [RepL, Rep] at h
 obtain ⟨va, _, rfl, h1, vb, _, rfl, h2, rfl⟩ := h
 have := aWg 0 va vb _ _ w h1.1 h2.1 (by have := aGl ha; omega) (by rw [aAi, aAi]; exact hb)
 rw [aAi, aAi] at this
 exact this.mono fun e w' h => aCC hS h
theorem aHx (a : Nat) (k : Int) (ha : Sm a) (h0 : 0 <= k) (hk : k <= 17592186044416) : AC Tryz.prog TabW 118 [.num a, .lit (.int .i64 k)] (.num (a * 2 ^ k.toNat)) := by
 obtain ⟨n, rfl⟩ := Int.eq_ofNat_of_zero_le h0
 refine ⟨by kernel_rfl, fun S β w vs hI hS h => ?_⟩
 simp only [RepL, Rep] at h
 obtain ⟨va, _, rfl, h1, _, _, rfl, rfl, rfl⟩ := h
 have := aNU 0 va _ n w h1.1 (aGl ha) (by omega)
 rw [aAi] at this
 exact this.mono fun e w' h => aCC hS h
theorem aK7 (a : Nat) (k : Int) (ha : Sm a) (h0 : 0 <= k) (hk : k <= 4611686018427387904) : AC Tryz.prog TabW 115 [.num a, .lit (.int .i64 k)] (.tup [.num (a / 2 ^ k.toNat), .lit (.bool (aEL a k.toNat))]) := by
 obtain ⟨n, rfl⟩ := Int.eq_ofNat_of_zero_le h0
 refine ⟨by kernel_rfl, fun S β w vs hI hS h => ?_⟩
 simp only [RepL, Rep] at h
 obtain ⟨va, _, rfl, h1, _, _, rfl, rfl, rfl⟩ := h
 have := aNT 0 va _ n w h1.1 (aGl ha) (by omega) hI
 rw [aAi] at this
 refine this.mono fun e w' h => ?_
 obtain ⟨v, h2, h3, h4⟩ := h
 refine ⟨_, h2, ?_, h4⟩
 have hr := aFE (β := β) hS h3
 simp only [Rep, RepL] at hr ⊢
 exact ⟨[_, _], rfl, _, _, rfl, hr, _, _, rfl, rfl, rfl⟩
theorem aVJ (a b : Nat) (ha : Sm a) (hb : Sm b) (h0 : b ≠ 0) : AC Tryz.prog TabW 175 [.num a, .num b] (.tup [.num (a / b), .num (a % b)]) := by
 refine ⟨by kernel_rfl, fun S β w vs hI hS h => ?_⟩
 simp only [RepL, Rep] at h
 obtain ⟨va, _, rfl, h1, vb, _, rfl, h2, rfl⟩ := h
 have hla : (limbsOf a).length <= 137438953472 := Nat.le_trans (aDt (k := 15625000001) (by unfold Sm at ha; omega)) (by decide)
 have hlb : (limbsOf b).length <= 137438953472 := Nat.le_trans (aDt (k := 15625000001) (by unfold Sm at hb; omega)) (by decide)
 have := aWn 0 va vb _ _ w h1.1 h2.1 hla hlb (by rw [aAi]; exact h0) hI
 rw [aAi, aAi] at this
 refine this.mono fun e w' h => ?_
 obtain ⟨v, u, h2, h3, h4, h5⟩ := h
 refine ⟨_, h2, ?_, h5⟩
 have hr := aFE (β := β) hS h3
 have hs := aFE (β := β) hS h4
 simp only [Rep, RepL] at hr hs ⊢
 exact ⟨[_, _], rfl, _, _, rfl, hr, _, _, rfl, hs, rfl⟩
theorem aNr (a b : Nat) : AC Tryz.prog TabW 90 [.num a, .num b] (.lit (.int .i64 (cmpN a b))) := by
 refine ⟨by kernel_rfl, fun S β w vs hI hS h => ?_⟩
 simp only [RepL, Rep] at h
 obtain ⟨va, _, rfl, h1, vb, _, rfl, h2, rfl⟩ := h
 have := aSC 0 va vb _ _ w h1.1 h2.1
 rw [aAi, aAi] at this
 exact this.mono fun e w' ⟨h1, h2⟩ => ⟨_, h1, (by simp only [Rep]), h2⟩
theorem aK9 (a : Nat) (ha : Sm a) : AC Tryz.prog TabW 149 [.num a] (.lit (.int .i64 ((bl a : Nat) : Int))) := by
 refine ⟨by kernel_rfl, fun S β w vs hI hS h => ?_⟩
 simp only [RepL, Rep] at h
 obtain ⟨va, _, rfl, h1, rfl⟩ := h
 have := aWl 0 va _ w h1.1 (by have := aGl ha; omega)
 rw [aAi] at this
 exact this.mono fun e w' ⟨h1, h2⟩ => ⟨_, h1, (by simp only [Rep]), h2 ▸ Below.refl _ _⟩
theorem aHS (n : Int) (h0 : 0 <= n) (h1 : n < 18446744073709551616) : AC Tryz.prog TabW 92 [.lit (.int .u64 n)] (.num n.toNat) := by
 refine ⟨by kernel_rfl, fun S β w vs hI hS h => ?_⟩
 simp only [RepL, Rep] at h
 obtain ⟨_, _, rfl, rfl, rfl⟩ := h
 exact (aUV n w h0 h1).mono fun e w' h => aCC hS h
theorem aCB (d : D) : AC Tryz.prog TabW 49 [dyV d] (.lit (.bool (d.m == 0))) := by
 refine ⟨by kernel_rfl, fun S β w vs hI hS h => ?_⟩
 simp only [dyV, RepL, Rep] at h
 obtain ⟨_, _, rfl, ⟨us, rfl, _, _, rfl, rfl, va, _, rfl, h1, _, _, rfl, rfl, rfl⟩, rfl⟩ := h
 have := aOT 0 (.agg #[.bool d.neg, va, .int .i64 d.e]) d.neg (limbsOf d.m) d.e w ⟨va, rfl, h1.1⟩
 rw [aAi] at this
 exact this.mono fun e w' ⟨h1, h2⟩ => ⟨_, h1, (by simp only [Rep]), h2⟩
end
section
open Go.RowKit
theorem aM5 (d : D) (hm : Sm d.m) (he : Se d.e) : AC Tryz.prog TabW 161 [dyV d] (dyV (negD d)) := by
 refine aAd Tryz.func161 rfl (by kernel_rfl) aAc Tryz.mixed rfl rfl (by kernel_rfl) ?_
 simp only [dyV, aAl, Tryz.ntmps161]
 refine aAa fun K0 h0 => aAx ?_
 simp only [xo, xv, xw, xe, xb, xl, xlw, xlf, xbq, Tryz.tys, aAS, aAQ, aAy, dyV, reduceIte, Nat.reduceLT, Nat.reduceEqDiff, Nat.reduceAdd, Nat.reduceLeDiff]
 refine h0 _ (aAa fun K1 h1 => aAx ?_)
 simp only [xo, xv, xw, xe, xb, xl, xlw, xlf, xbq, Tryz.tys, aAS, aAQ, aAy, dyV, reduceIte, Nat.reduceLT, Nat.reduceEqDiff, Nat.reduceAdd, Nat.reduceLeDiff]
 refine cxo (aDn _ _ _ hm he) ?_
 simp only [xo, xv, xw, xe, xb, xl, xlw, xlf, xbq, Tryz.tys, aAS, aAQ, aAy, dyV, reduceIte, Nat.reduceLT, Nat.reduceEqDiff, Nat.reduceAdd, Nat.reduceLeDiff]
 refine h1 _ (aAe ?_)
 simp only [aAg, aAm, endX, resX, resV, Tryz.results161]
 simp only [xo, xv, xw, xe, xb, xl, xlw, xlf, xbq, Tryz.tys, aAS, aAQ, aAy, dyV, reduceIte, Nat.reduceLT, Nat.reduceEqDiff, Nat.reduceAdd, Nat.reduceLeDiff]
 rfl
theorem aVn (d : D) (hm : Sm d.m) (he : Se d.e) : AC Tryz.prog TabW 122 [dyV d] (dyV (absD d)) := by
 refine aAd Tryz.func122 rfl (by kernel_rfl) aAc Tryz.mixed rfl rfl (by kernel_rfl) ?_
 simp only [dyV, aAl, Tryz.ntmps122]
 refine aAa fun K0 h0 => aAx ?_
 simp only [xo, xv, xw, xe, xb, xl, xlw, xlf, xbq, Tryz.tys, aAS, aAQ, aAy, dyV, reduceIte, Nat.reduceLT, Nat.reduceEqDiff, Nat.reduceAdd, Nat.reduceLeDiff]
 refine h0 _ (aAa fun K1 h1 => aAx ?_)
 simp only [xo, xv, xw, xe, xb, xl, xlw, xlf, xbq, Tryz.tys, aAS, aAQ, aAy, dyV, reduceIte, Nat.reduceLT, Nat.reduceEqDiff, Nat.reduceAdd, Nat.reduceLeDiff]
 refine cxo (aDn _ _ _ hm he) ?_
 simp only [xo, xv, xw, xe, xb, xl, xlw, xlf, xbq, Tryz.tys, aAS, aAQ, aAy, dyV, reduceIte, Nat.reduceLT, Nat.reduceEqDiff, Nat.reduceAdd, Nat.reduceLeDiff]
 refine h1 _ (aAe ?_)
 simp only [aAg, aAm, endX, resX, resV, Tryz.results122]
 simp only [xo, xv, xw, xe, xb, xl, xlw, xlf, xbq, Tryz.tys, aAS, aAQ, aAy, dyV, reduceIte, Nat.reduceLT, Nat.reduceEqDiff, Nat.reduceAdd, Nat.reduceLeDiff]
 rfl
theorem aQv (d : D) (n : Int) (hm : Sm d.m) (he : Se (d.e + n)) : AC Tryz.prog TabW 150 [dyV d, .lit (.int .i64 n)] (dyV (aAs d n)) := by
 have hw : IntKind.i64.wrap (d.e + n) = d.e + n := IntWalk.i64_in _ (by unfold Se at he; omega)
 refine aAd Tryz.func150 rfl (by kernel_rfl) aAc Tryz.mixed rfl rfl (by kernel_rfl) ?_
 simp only [dyV, aAl, Tryz.ntmps150]
 refine aAa fun K0 h0 => aAx ?_
 simp only [xo, xv, xw, xe, xb, xl, xlw, xlf, xbq, Tryz.tys, aAS, aAQ, aAy, dyV, reduceIte, Nat.reduceLT, Nat.reduceEqDiff, Nat.reduceAdd, Nat.reduceLeDiff]
 refine h0 _ (aAa fun K1 h1 => aAx ?_)
 simp only [xo, xv, xw, xe, xb, xl, xlw, xlf, xbq, Tryz.tys, aAS, aAQ, aAy, dyV, reduceIte, Nat.reduceLT, Nat.reduceEqDiff, Nat.reduceAdd, Nat.reduceLeDiff]
 rw [hw]
 refine cxo (aDn _ _ _ hm he) ?_
 simp only [xo, xv, xw, xe, xb, xl, xlw, xlf, xbq, Tryz.tys, aAS, aAQ, aAy, dyV, reduceIte, Nat.reduceLT, Nat.reduceEqDiff, Nat.reduceAdd, Nat.reduceLeDiff]
 refine h1 _ (aAe ?_)
 simp only [aAg, aAm, endX, resX, resV, Tryz.results150]
 simp only [xo, xv, xw, xe, xb, xl, xlw, xlf, xbq, Tryz.tys, aAS, aAQ, aAy, dyV, reduceIte, Nat.reduceLT, Nat.reduceEqDiff, Nat.reduceAdd, Nat.reduceLeDiff]
 rfl
theorem aKJ (d : D) : AC Tryz.prog TabW 116 [dyV d] (.lit (.int .i64 (aAK d))) := by
 refine aAd Tryz.func116 rfl (by kernel_rfl) aAc Tryz.mixed rfl rfl (by kernel_rfl) ?_
 simp only [dyV, aAl, Tryz.ntmps116]
 refine aAa fun K0 h0 => aAx ?_
 simp only [xo, xv, xw, xe, xb, xl, xlw, xlf, xbq, Tryz.tys, aAS, aAQ, aAy, dyV, reduceIte, Nat.reduceLT, Nat.reduceEqDiff, Nat.reduceAdd, Nat.reduceLeDiff]
 refine h0 _ (aAa fun K1 h1 => aAv (aAa fun K2 h2 => aAx ?_))
 simp only [xo, xv, xw, xe, xb, xl, xlw, xlf, xbq, Tryz.tys, aAS, aAQ, aAy, dyV, reduceIte, Nat.reduceLT, Nat.reduceEqDiff, Nat.reduceAdd, Nat.reduceLeDiff]
 refine cxo (aCB d) ?_
 simp only [xo, xv, xw, xe, xb, xl, xlw, xlf, xbq, Tryz.tys, aAS, aAQ, aAy, dyV, reduceIte, Nat.reduceLT, Nat.reduceEqDiff, Nat.reduceAdd, Nat.reduceLeDiff]
 refine h2 _ (aAf rfl (fun c1 => ?_) (fun c1 => ?_))
 · refine aAa fun K3 h3 => aAx ?_
   simp only [xo, xv, xw, xe, xb, xl, xlw, xlf, xbq, Tryz.tys, aAS, aAQ, aAy, dyV, reduceIte, Nat.reduceLT, Nat.reduceEqDiff, Nat.reduceAdd, Nat.reduceLeDiff]
   refine h3 _ (aAe ?_)
   simp only [aAg, aAm, endX, resX, resV, Tryz.results116]
   simp only [xo, xv, xw, xe, xb, xl, xlw, xlf, xbq, Tryz.tys, aAS, aAQ, aAy, dyV, reduceIte, Nat.reduceLT, Nat.reduceEqDiff, Nat.reduceAdd, Nat.reduceLeDiff]
   have : d.m = 0 := by simpa using c1
   simp [aAK, this]
 · have hm : d.m ≠ 0 := by simpa using c1
   refine aAa fun K3 h3 => aAx ?_
   simp only [xo, xv, xw, xe, xb, xl, xlw, xlf, xbq, Tryz.tys, aAS, aAQ, aAy, dyV, reduceIte, Nat.reduceLT, Nat.reduceEqDiff, Nat.reduceAdd, Nat.reduceLeDiff]
   refine h3 _ (aAf rfl (fun c2 => ?_) (fun c2 => ?_))
   · refine aAa fun K4 h4 => aAx ?_
     simp only [xo, xv, xw, xe, xb, xl, xlw, xlf, xbq, Tryz.tys, aAS, aAQ, aAy, dyV, reduceIte, Nat.reduceLT, Nat.reduceEqDiff, Nat.reduceAdd, Nat.reduceLeDiff]
     refine h4 _ (aAe ?_)
     simp only [aAg, aAm, endX, resX, resV, Tryz.results116]
     simp only [xo, xv, xw, xe, xb, xl, xlw, xlf, xbq, Tryz.tys, aAS, aAQ, aAy, dyV, reduceIte, Nat.reduceLT, Nat.reduceEqDiff, Nat.reduceAdd, Nat.reduceLeDiff]
     simp [aAK, hm, c2]
   · refine aAk ?_
     simp only [aAg, aAm]
     refine h1 _ (aAa fun K5 h5 => aAx ?_)
     simp only [xo, xv, xw, xe, xb, xl, xlw, xlf, xbq, Tryz.tys, aAS, aAQ, aAy, dyV, reduceIte, Nat.reduceLT, Nat.reduceEqDiff, Nat.reduceAdd, Nat.reduceLeDiff]
     refine h5 _ (aAe ?_)
     simp only [aAg, aAm, endX, resX, resV, Tryz.results116]
     simp only [xo, xv, xw, xe, xb, xl, xlw, xlf, xbq, Tryz.tys, aAS, aAQ, aAy, dyV, reduceIte, Nat.reduceLT, Nat.reduceEqDiff, Nat.reduceAdd, Nat.reduceLeDiff]
     simp [aAK, hm, c2]
theorem aGv (a b : D) (ha : Sm a.m) (hb : Sm b.m) (hd1 : a.e - b.e <= 1000000000000) (hd2 : b.e - a.e <= 1000000000000) :
   AC Tryz.prog TabW 88 [dyV a, dyV b] (.tup [.num (a.m * 2 ^ (a.e - min a.e b.e).toNat), .num (b.m * 2 ^ (b.e - min a.e b.e).toNat), .lit (.int .i64 (min a.e b.e))]) := by
 have hmin : (if b.e < a.e then b.e else a.e) = min a.e b.e := by split <;> omega
 have h1 : a.e - min a.e b.e <= 1000000000000 := by omega
 have h2 : b.e - min a.e b.e <= 1000000000000 := by omega
 have h3 : 0 <= a.e - min a.e b.e := by omega
 have h4 : 0 <= b.e - min a.e b.e := by omega
 generalize hM : min a.e b.e = M at *
 have hw1 : IntKind.i64.wrap (a.e - M) = a.e - M := IntWalk.i64_in _ (by omega)
 have hw2 : IntKind.i64.wrap (b.e - M) = b.e - M := IntWalk.i64_in _ (by omega)
 refine aAd Tryz.func88 rfl (by kernel_rfl) aAc Tryz.mixed rfl rfl (by kernel_rfl) ?_
 simp only [dyV, aAl, Tryz.ntmps88]
 refine aAa fun K0 h0 => aAx ?_
 simp only [xo, xv, xw, xe, xb, xl, xlw, xlf, xbq, Tryz.tys, aAS, aAQ, aAy, dyV, reduceIte, Nat.reduceLT, Nat.reduceEqDiff, Nat.reduceAdd, Nat.reduceLeDiff]
 refine h0 _ (aAa fun K1 h1 => aAx ?_)
 simp only [xo, xv, xw, xe, xb, xl, xlw, xlf, xbq, Tryz.tys, aAS, aAQ, aAy, dyV, reduceIte, Nat.reduceLT, Nat.reduceEqDiff, Nat.reduceAdd, Nat.reduceLeDiff]
 rw [hmin]
 refine h1 _ (aAa fun K2 h2 => aD3 18 (by kernel_rfl) (by kernel_rfl) ?_)
 simp only [xq, xh, simprocAttr, dyV]
 rw [hw1]
 refine cxh (aHx _ _ ha h3 (by omega)) ?_
 simp only [xq, xh, simprocAttr, dyV]
 rw [hw2]
 refine cxh (aHx _ _ hb h4 (by omega)) ?_
 simp only [xq, xh, simprocAttr, dyV]
 refine h2 _ (aAe ?_)
 simp only [aAg, aAm, endX, resX, resV, Tryz.results88]
 simp only [xo, xv, xw, xe, xb, xl, xlw, xlf, xbq, Tryz.tys, aAS, aAQ, aAy, dyV, reduceIte, Nat.reduceLT, Nat.reduceEqDiff, Nat.reduceAdd, Nat.reduceLeDiff]
 rfl
end
section
structure Iv where
 lo : D
 hi : D
def Iv.has (v : Iv) (x : Rat) : Prop := v.lo.v <= x /\ x <= v.hi.v
def aAY : D := ⟨false, 0, 0⟩
theorem aKt : aAY.v = 0 := aBL.2 rfl
theorem aIt : aAY.canon := .inr ⟨rfl, rfl, rfl⟩
def aAn (d : D) : Iv := ⟨oneD d, oneD d⟩
theorem aCx (d : D) : (aAn d).has d.v := by unfold aAn Iv.has; rw [aC6]; exact ⟨Rat.le_refl, Rat.le_refl⟩
def aAD (v : Iv) (p : Int) : Iv := ⟨cutD v.lo p false, cutD v.hi p true⟩
theorem aDL {x : Rat} {p : Int} {r : D} (h : Cutd x p false r) : r.v <= x := by have := h.2.1; simpa using this
theorem aDK {x : Rat} {p : Int} {r : D} (h : Cutd x p true r) : x <= r.v := by have := h.2.1; simpa using this
theorem aGQ {v : Iv} {x : Rat} {p : Int} (hp : 1 <= p) (h : v.has x) : (aAD v p).has x :=
 ⟨Rat.le_trans (aDL (aDM v.lo hp false)) h.1, Rat.le_trans h.2 (aDK (aDM v.hi hp true))⟩
def aCd (v : Iv) : Iv := ⟨negD v.hi, negD v.lo⟩
def aH4 (a b : Iv) (p : Int) : Iv := aAD ⟨addD a.lo b.lo, addD a.hi b.hi⟩ p
def aFn (a b : Iv) (p : Int) : Iv := aH4 a (aCd b) p
def minD (x d : D) : D := if cmpD d x < 0 then d else x
def maxD (x d : D) : D := if 0 < cmpD d x then d else x
theorem aQ5 (x d : D) : (minD x d).v <= x.v /\ (minD x d).v <= d.v /\ (minD x d = x \/ minD x d = d) := by
 unfold minD
 split
 · rename_i h; have := (aGK d x).1 h; exact ⟨by grind, Rat.le_refl, .inr rfl⟩
 · rename_i h; have h2 : ¬ d.v < x.v := fun h2 => h ((aGK d x).2 h2); exact ⟨Rat.le_refl, by grind, .inl rfl⟩
theorem aQ8 (x d : D) : x.v <= (maxD x d).v /\ d.v <= (maxD x d).v /\ (maxD x d = x \/ maxD x d = d) := by
 unfold maxD
 split
 · rename_i h; have := (aHH d x).1 h; exact ⟨by grind, Rat.le_refl, .inr rfl⟩
 · rename_i h; have h2 : ¬ x.v < d.v := fun h2 => h ((aHH d x).2 h2); exact ⟨Rat.le_refl, by grind, .inl rfl⟩
def lo4 (a b c d : D) : D := minD (minD (minD a b) c) d
def hi4 (a b c d : D) : D := maxD (maxD (maxD a b) c) d
theorem aMb (a b c d : D) : (lo4 a b c d).v <= a.v /\ (lo4 a b c d).v <= b.v /\ (lo4 a b c d).v <= c.v /\ (lo4 a b c d).v <= d.v /\ (lo4 a b c d = a \/ lo4 a b c d = b \/ lo4 a b c d = c \/ lo4 a b c d = d) := by
 unfold lo4
 obtain ⟨h1, h2, h3⟩ := aQ5 a b
 obtain ⟨h4, h5, h6⟩ := aQ5 (minD a b) c
 obtain ⟨h7, h8, h9⟩ := aQ5 (minD (minD a b) c) d
 refine ⟨by grind, by grind, by grind, by grind, ?_⟩
 rcases h9 with h | h
 · rcases h6 with h' | h'
   · rcases h3 with h'' | h''
     · exact .inl (by rw [h, h', h''])
     · exact .inr (.inl (by rw [h, h', h'']))
   · exact .inr (.inr (.inl (by rw [h, h'])))
 · exact .inr (.inr (.inr h))
theorem aMh (a b c d : D) : a.v <= (hi4 a b c d).v /\ b.v <= (hi4 a b c d).v /\ c.v <= (hi4 a b c d).v /\ d.v <= (hi4 a b c d).v /\ (hi4 a b c d = a \/ hi4 a b c d = b \/ hi4 a b c d = c \/ hi4 a b c d = d) := by
 unfold hi4
 obtain ⟨h1, h2, h3⟩ := aQ8 a b
 obtain ⟨h4, h5, h6⟩ := aQ8 (maxD a b) c
 obtain ⟨h7, h8, h9⟩ := aQ8 (maxD (maxD a b) c) d
 refine ⟨by grind, by grind, by grind, by grind, ?_⟩
 rcases h9 with h | h
 · rcases h6 with h' | h'
   · rcases h3 with h'' | h''
     · exact .inl (by rw [h, h', h''])
     · exact .inr (.inl (by rw [h, h', h'']))
   · exact .inr (.inr (.inl (by rw [h, h'])))
 · exact .inr (.inr (.inr h))
def aAF (a b : Iv) (p : Int) : Iv :=
 aAD ⟨lo4 (mulD a.lo b.lo) (mulD a.lo b.hi) (mulD a.hi b.lo) (mulD a.hi b.hi), hi4 (mulD a.lo b.lo) (mulD a.lo b.hi) (mulD a.hi b.lo) (mulD a.hi b.hi)⟩ p
theorem aUN {a b x c d y L : Rat} (h1 : a <= x) (h2 : x <= b) (h3 : c <= y) (h4 : y <= d) (l1 : L <= a * c) (l2 : L <= a * d) (l3 : L <= b * c) (l4 : L <= b * d) : L <= x * y := by
 have ha : L <= a * y := by
   by_cases h : 0 <= a
   · have := Rat.mul_le_mul_of_nonneg_left h3 h; grind
   · have := Rat.mul_le_mul_of_nonneg_left h4 (show 0 <= -a by grind); grind
 have hb : L <= b * y := by
   by_cases h : 0 <= b
   · have := Rat.mul_le_mul_of_nonneg_left h3 h; grind
   · have := Rat.mul_le_mul_of_nonneg_left h4 (show 0 <= -b by grind); grind
 by_cases h : 0 <= y
 · have := Rat.mul_le_mul_of_nonneg_right h1 h; grind
 · have := Rat.mul_le_mul_of_nonneg_right h2 (show 0 <= -y by grind); grind
theorem aR2 {a b x c d y L : Rat} (h1 : a <= x) (h2 : x <= b) (h3 : c <= y) (h4 : y <= d) (l1 : a * c <= L) (l2 : a * d <= L) (l3 : b * c <= L) (l4 : b * d <= L) : x * y <= L := by
 have := aUN (L := -L) (a := a) (b := b) (x := x) (c := -d) (d := -c) (y := -y) h1 h2 (by grind) (by grind) (by grind) (by grind) (by grind) (by grind)
 grind
theorem aFr {a b : Iv} {x y : Rat} {p : Int} (hp : 1 <= p) (ha : a.has x) (hb : b.has y) : (aAF a b p).has (x * y) := by
 refine aGQ hp ⟨?_, ?_⟩
 · obtain ⟨h1, h2, h3, h4, _⟩ := aMb (mulD a.lo b.lo) (mulD a.lo b.hi) (mulD a.hi b.lo) (mulD a.hi b.hi)
   rw [aGA] at h1 h2 h3 h4
   exact aUN ha.1 ha.2 hb.1 hb.2 h1 h2 h3 h4
 · obtain ⟨h1, h2, h3, h4, _⟩ := aMh (mulD a.lo b.lo) (mulD a.lo b.hi) (mulD a.hi b.lo) (mulD a.hi b.hi)
   rw [aGA] at h1 h2 h3 h4
   exact aR2 ha.1 ha.2 hb.1 hb.2 h1 h2 h3 h4
end
section
open Go.RowKit
def ivV (v : Iv) : AV := .agg [.lit (.bool v.lo.neg), .num v.lo.m, .lit (.int .i64 v.lo.e), .lit (.bool v.hi.neg), .num v.hi.m, .lit (.int .i64 v.hi.e)]
theorem aQw (d : D) (hm : Sm d.m) (he : Se d.e) : AC Tryz.prog TabW 50 [dyV d] (ivV (aAn d)) := by
 refine aAd Tryz.func50 rfl (by kernel_rfl) aAc Tryz.mixed rfl rfl (by kernel_rfl) ?_
 simp only [dyV, ivV, aAl, Tryz.ntmps50]
 refine aAa fun K0 g0 => aAx ?_
 simp only [xo, xv, xw, xe, xb, xl, xlw, xlf, xbq, Tryz.tys, aAS, aAQ, aAy, bldV, dyV, ivV, reduceIte, Nat.reduceLT, Nat.reduceEqDiff, Nat.reduceAdd, Nat.reduceLeDiff, and_self]
 refine g0 _ (aAa fun K1 g1 => aD3 5 (by kernel_rfl) (by kernel_rfl) ?_)
 simp only [xq, xh, simprocAttr, dyV, ivV]
 refine cxh (aHo d hm he) ?_
 simp only [xq, xh, simprocAttr, dyV, ivV]
 refine cxh (aHo d hm he) ?_
 simp only [xq, xh, simprocAttr, dyV, ivV]
 refine g1 _ (aAe ?_)
 simp only [aAg, aAm, endX, resX, resV, Tryz.results50]
 simp only [xo, xv, xw, xe, xb, xl, xlw, xlf, xbq, Tryz.tys, aAS, aAQ, aAy, bldV, dyV, ivV, reduceIte, Nat.reduceLT, Nat.reduceEqDiff, Nat.reduceAdd, Nat.reduceLeDiff, and_self]
 rfl
theorem aVm (d : D) (p : Int) (up : Bool) (hm : Sm d.m) (he : Se d.e) (h1 : Sm (oneD d).m) (h1' : Sm ((oneD d).m + 1)) (h3 : Se ((oneD d).e + (((bl (oneD d).m : Nat) : Int) - p))) (hp0 : -1000000000000 <= p) (hp1 : p <= 1000000000000) :
   AC Tryz.prog TabW 129 [dyV d, .lit (.int .i64 p), .lit (.bool up)] (dyV (cutD d p up)) := by
 have hr : cutD d p up = if ((bl (oneD d).m : Nat) : Int) - p <= 0 then oneD d else
   aAL (oneD d).neg ((oneD d).m / 2 ^ (((bl (oneD d).m : Nat) : Int) - p).toNat + (if up != (oneD d).neg then 1 else 0)) ((oneD d).e + (((bl (oneD d).m : Nat) : Int) - p)) := rfl
 have hone := aHo d hm he
 have hone' : aAL d.neg d.m d.e = oneD d := rfl
 rw [hone'] at hone
 generalize oneD d = x at *
 have hb : bl x.m <= 1000000000000 := h1
 have hw1 : IntKind.i64.wrap (((bl x.m : Nat) : Int) - p) = ((bl x.m : Nat) : Int) - p := IntWalk.i64_in _ (by omega)
 generalize hk : ((bl x.m : Nat) : Int) - p = k at *
 have hke : Se (x.e + k) := h3
 have hw2 : IntKind.i64.wrap (x.e + k) = x.e + k := IntWalk.i64_in _ (by unfold Se at hke; omega)
 have hle : x.m / 2 ^ k.toNat <= x.m := Nat.div_le_self _ _
 have s1 : Sm (x.m / 2 ^ k.toNat) := Nat.le_trans (aFR hle) h1
 have s2 : Sm (x.m / 2 ^ k.toNat + (1 : Int).toNat) := Nat.le_trans (aFR (Nat.add_le_add_right hle 1)) h1'
 have s0 : Sm (1 : Int).toNat := by unfold Sm; decide
 rw [hr]
 refine aAd Tryz.func129 rfl (by kernel_rfl) aAc Tryz.mixed rfl rfl (by kernel_rfl) ?_
 simp only [dyV, ivV, aAl, Tryz.ntmps129]
 refine aAa fun K0 g0 => aAx ?_
 simp only [xo, xv, xw, xe, xb, xl, xlw, xlf, xbq, Tryz.tys, aAS, aAQ, aAy, bldV, dyV, ivV, reduceIte, Nat.reduceLT, Nat.reduceEqDiff, Nat.reduceAdd, Nat.reduceLeDiff, and_self]
 refine g0 _ (aAa fun K1 g1 => aAx ?_)
 simp only [xo, xv, xw, xe, xb, xl, xlw, xlf, xbq, Tryz.tys, aAS, aAQ, aAy, bldV, dyV, ivV, reduceIte, Nat.reduceLT, Nat.reduceEqDiff, Nat.reduceAdd, Nat.reduceLeDiff, and_self]
 refine cxo (hone) ?_
 simp only [xo, xv, xw, xe, xb, xl, xlw, xlf, xbq, Tryz.tys, aAS, aAQ, aAy, bldV, dyV, ivV, reduceIte, Nat.reduceLT, Nat.reduceEqDiff, Nat.reduceAdd, Nat.reduceLeDiff, and_self]
 refine g1 _ (aAa fun K2 g2 => aAx ?_)
 simp only [xo, xv, xw, xe, xb, xl, xlw, xlf, xbq, Tryz.tys, aAS, aAQ, aAy, bldV, dyV, ivV, reduceIte, Nat.reduceLT, Nat.reduceEqDiff, Nat.reduceAdd, Nat.reduceLeDiff, and_self]
 refine cxo (aK9 _ h1) ?_
 simp only [xo, xv, xw, xe, xb, xl, xlw, xlf, xbq, Tryz.tys, aAS, aAQ, aAy, bldV, dyV, ivV, reduceIte, Nat.reduceLT, Nat.reduceEqDiff, Nat.reduceAdd, Nat.reduceLeDiff, and_self]
 rw [hk, hw1]
 refine g2 _ (aAa fun K3 g3 => aAa fun K4 g4 => aAx ?_)
 simp only [xo, xv, xw, xe, xb, xl, xlw, xlf, xbq, Tryz.tys, aAS, aAQ, aAy, bldV, dyV, ivV, reduceIte, Nat.reduceLT, Nat.reduceEqDiff, Nat.reduceAdd, Nat.reduceLeDiff, and_self]
 refine g4 _ (aAf rfl (fun c1 => ?_) (fun c1 => ?_))
 · have c1' : k <= 0 := by simpa using c1
   rw [if_pos c1']
   refine aAa fun K5 g5 => aAx ?_
   simp only [xo, xv, xw, xe, xb, xl, xlw, xlf, xbq, Tryz.tys, aAS, aAQ, aAy, bldV, dyV, ivV, reduceIte, Nat.reduceLT, Nat.reduceEqDiff, Nat.reduceAdd, Nat.reduceLeDiff, and_self]
   refine g5 _ (aAe ?_)
   simp only [aAg, aAm, endX, resX, resV, Tryz.results129]
   simp only [xo, xv, xw, xe, xb, xl, xlw, xlf, xbq, Tryz.tys, aAS, aAQ, aAy, bldV, dyV, ivV, reduceIte, Nat.reduceLT, Nat.reduceEqDiff, Nat.reduceAdd, Nat.reduceLeDiff, and_self]
 · have c1' : ¬ k <= 0 := by simpa using c1
   refine aAk ?_
   simp only [aAg, aAm]
   refine g3 _ (aAa fun K5 g5 => aAx ?_)
   simp only [xo, xv, xw, xe, xb, xl, xlw, xlf, xbq, Tryz.tys, aAS, aAQ, aAy, bldV, dyV, ivV, reduceIte, Nat.reduceLT, Nat.reduceEqDiff, Nat.reduceAdd, Nat.reduceLeDiff, and_self]
   refine cxo (aK7 _ _ h1 (by omega) (by omega)) ?_
   simp only [xo, xv, xw, xe, xb, xl, xlw, xlf, xbq, Tryz.tys, aAS, aAQ, aAy, bldV, dyV, ivV, reduceIte, Nat.reduceLT, Nat.reduceEqDiff, Nat.reduceAdd, Nat.reduceLeDiff, and_self]
   refine g5 _ (aAa fun K6 g6 => aAa fun K7 g7 => aAx ?_)
   simp only [xo, xv, xw, xe, xb, xl, xlw, xlf, xbq, Tryz.tys, aAS, aAQ, aAy, bldV, dyV, ivV, reduceIte, Nat.reduceLT, Nat.reduceEqDiff, Nat.reduceAdd, Nat.reduceLeDiff, and_self]
   refine g7 _ (aAf rfl (fun c2 => ?_) (fun c2 => ?_))
   · refine aAx ?_
     simp only [xo, xv, xw, xe, xb, xl, xlw, xlf, xbq, Tryz.tys, aAS, aAQ, aAy, bldV, dyV, ivV, reduceIte, Nat.reduceLT, Nat.reduceEqDiff, Nat.reduceAdd, Nat.reduceLeDiff, and_self]
     refine cxo (aHS 1 (by decide) (by decide)) ?_
     simp only [xo, xv, xw, xe, xb, xl, xlw, xlf, xbq, Tryz.tys, aAS, aAQ, aAy, bldV, dyV, ivV, reduceIte, Nat.reduceLT, Nat.reduceEqDiff, Nat.reduceAdd, Nat.reduceLeDiff, and_self]
     refine cxo (aGB _ _ s1 s0) ?_
     simp only [xo, xv, xw, xe, xb, xl, xlw, xlf, xbq, Tryz.tys, aAS, aAQ, aAy, bldV, dyV, ivV, reduceIte, Nat.reduceLT, Nat.reduceEqDiff, Nat.reduceAdd, Nat.reduceLeDiff, and_self]
     refine g6 _ (aAa fun K8 g8 => aAx ?_)
     simp only [xo, xv, xw, xe, xb, xl, xlw, xlf, xbq, Tryz.tys, aAS, aAQ, aAy, bldV, dyV, ivV, reduceIte, Nat.reduceLT, Nat.reduceEqDiff, Nat.reduceAdd, Nat.reduceLeDiff, and_self]
     rw [hw2]
     refine cxo (aDn _ _ _ s2 hke) ?_
     simp only [xo, xv, xw, xe, xb, xl, xlw, xlf, xbq, Tryz.tys, aAS, aAQ, aAy, bldV, dyV, ivV, reduceIte, Nat.reduceLT, Nat.reduceEqDiff, Nat.reduceAdd, Nat.reduceLeDiff, and_self]
     refine g8 _ (aAe ?_)
     simp only [aAg, aAm, endX, resX, resV, Tryz.results129]
     simp only [xo, xv, xw, xe, xb, xl, xlw, xlf, xbq, Tryz.tys, aAS, aAQ, aAy, bldV, dyV, ivV, reduceIte, Nat.reduceLT, Nat.reduceEqDiff, Nat.reduceAdd, Nat.reduceLeDiff, and_self]
     have c2' : (up != x.neg) = true := c2
     rw [if_neg c1', if_pos c2']
     rfl
   · refine aAk ?_
     simp only [aAg, aAm]
     refine g6 _ (aAa fun K8 g8 => aAx ?_)
     simp only [xo, xv, xw, xe, xb, xl, xlw, xlf, xbq, Tryz.tys, aAS, aAQ, aAy, bldV, dyV, ivV, reduceIte, Nat.reduceLT, Nat.reduceEqDiff, Nat.reduceAdd, Nat.reduceLeDiff, and_self]
     rw [hw2]
     refine cxo (aDn _ _ _ s1 hke) ?_
     simp only [xo, xv, xw, xe, xb, xl, xlw, xlf, xbq, Tryz.tys, aAS, aAQ, aAy, bldV, dyV, ivV, reduceIte, Nat.reduceLT, Nat.reduceEqDiff, Nat.reduceAdd, Nat.reduceLeDiff, and_self]
     refine g8 _ (aAe ?_)
     simp only [aAg, aAm, endX, resX, resV, Tryz.results129]
     simp only [xo, xv, xw, xe, xb, xl, xlw, xlf, xbq, Tryz.tys, aAS, aAQ, aAy, bldV, dyV, ivV, reduceIte, Nat.reduceLT, Nat.reduceEqDiff, Nat.reduceAdd, Nat.reduceLeDiff, and_self]
     have c2' : ¬ (up != x.neg) = true := by rw [show (up != x.neg) = false from c2]; decide
     rw [if_neg c1', if_neg c2']
     rfl
end
section
open Go.RowKit
def aPP (d : D) (p : Int) : Prop := (Sm d.m /\ Se d.e) /\ (Sm (oneD d).m /\ Sm ((oneD d).m + 1)) /\ Se ((oneD d).e + (((bl (oneD d).m : Nat) : Int) - p)) /\ -1000000000000 <= p /\ p <= 1000000000000
theorem aM6 {d : D} {p : Int} (up : Bool) (h : aPP d p) : AC Tryz.prog TabW 129 [dyV d, .lit (.int .i64 p), .lit (.bool up)] (dyV (cutD d p up)) :=
 aVm d p up h.1.1 h.1.2 h.2.1.1 h.2.1.2 h.2.2.1 h.2.2.2.1 h.2.2.2.2
def aJA (d : D) : Prop := Sm d.m /\ Se d.e
theorem aOf (v : Iv) (h1 : aJA v.lo) (h2 : aJA v.hi) : AC Tryz.prog TabW 128 [ivV v] (ivV (aCd v)) := by
 refine aAd Tryz.func128 rfl (by kernel_rfl) aAc Tryz.mixed rfl rfl (by kernel_rfl) ?_
 simp only [dyV, ivV, aAl, Tryz.ntmps128]
 refine aAa fun K0 g0 => aAx ?_
 simp only [xo, xv, xw, xe, xb, xl, xlw, xlf, xbq, Tryz.tys, aAS, aAQ, aAy, bldV, dyV, ivV, reduceIte, Nat.reduceLT, Nat.reduceEqDiff, Nat.reduceAdd, Nat.reduceLeDiff, and_self]
 refine g0 _ (aAa fun K1 g1 => aD3 7 (by kernel_rfl) (by kernel_rfl) ?_)
 simp only [xq, xh, simprocAttr, dyV, ivV]
 refine cxh (aM5 v.hi h2.1 h2.2) ?_
 simp only [xq, xh, simprocAttr, dyV, ivV]
 refine cxh (aM5 v.lo h1.1 h1.2) ?_
 simp only [xq, xh, simprocAttr, dyV, ivV]
 refine g1 _ (aAe ?_)
 simp only [aAg, aAm, endX, resX, resV, Tryz.results128]
 simp only [xo, xv, xw, xe, xb, xl, xlw, xlf, xbq, Tryz.tys, aAS, aAQ, aAy, bldV, dyV, ivV, reduceIte, Nat.reduceLT, Nat.reduceEqDiff, Nat.reduceAdd, Nat.reduceLeDiff, and_self]
 rfl
theorem aOg (v : Iv) (p : Int) (h1 : aPP v.lo p) (h2 : aPP v.hi p) : AC Tryz.prog TabW 97 [ivV v, .lit (.int .i64 p)] (ivV (aAD v p)) := by
 refine aAd Tryz.func97 rfl (by kernel_rfl) aAc Tryz.mixed rfl rfl (by kernel_rfl) ?_
 simp only [dyV, ivV, aAl, Tryz.ntmps97]
 refine aAa fun K0 g0 => aAx ?_
 simp only [xo, xv, xw, xe, xb, xl, xlw, xlf, xbq, Tryz.tys, aAS, aAQ, aAy, bldV, dyV, ivV, reduceIte, Nat.reduceLT, Nat.reduceEqDiff, Nat.reduceAdd, Nat.reduceLeDiff, and_self]
 refine g0 _ (aAa fun K1 g1 => aD3 9 (by kernel_rfl) (by kernel_rfl) ?_)
 simp only [xq, xh, simprocAttr, dyV, ivV]
 refine cxh (aM6 (d := v.lo) false h1) ?_
 simp only [xq, xh, simprocAttr, dyV, ivV]
 refine cxh (aM6 (d := v.hi) true h2) ?_
 simp only [xq, xh, simprocAttr, dyV, ivV]
 refine g1 _ (aAe ?_)
 simp only [aAg, aAm, endX, resX, resV, Tryz.results97]
 simp only [xo, xv, xw, xe, xb, xl, xlw, xlf, xbq, Tryz.tys, aAS, aAQ, aAy, bldV, dyV, ivV, reduceIte, Nat.reduceLT, Nat.reduceEqDiff, Nat.reduceAdd, Nat.reduceLeDiff, and_self]
 rfl
end
section
def alA (x y : D) : Nat := x.m * 2 ^ (x.e - min x.e y.e).toNat
def alB (x y : D) : Nat := y.m * 2 ^ (y.e - min x.e y.e).toNat
theorem aUO (d : D) : (oneD d).av = d.av := by
 show (fAbs d.m : Rat) * p2 (fExp d.m d.e) = d.av
 by_cases h : d.m = 0
 · unfold D.av; rw [h, aEY]; simp
 · exact (aMn h d.e).symm
theorem aXK (x y : D) : ((alA x y : Nat) : Rat) * p2 (min x.e y.e) = x.av := aLu x (min x.e y.e) (by omega)
theorem aXJ (x y : D) : ((alB x y : Nat) : Rat) * p2 (min x.e y.e) = y.av := aLu y (min x.e y.e) (by omega)
theorem aXI (x y : D) : (alA x y < alB x y <-> x.av < y.av) /\ (alB x y < alA x y <-> y.av < x.av) := by
 have h1 := aXK x y
 have h2 := aXJ x y
 have hp := aAz (min x.e y.e)
 generalize p2 (min x.e y.e) = u at *
 rw [<- h1, <- h2]
 have key : ∀ a b : Nat, a < b <-> (a : Rat) * u < (b : Rat) * u := fun a b => by
   constructor
   · intro h; exact Rat.mul_lt_mul_of_pos_right (Rat.natCast_lt_natCast.2 h) hp
   · intro h
     apply Classical.byContradiction
     intro hn
     have h3 : (b : Rat) <= (a : Rat) := Rat.natCast_le_natCast.2 (by omega)
     have h4 := Rat.mul_le_mul_of_nonneg_right h3 (Rat.le_of_lt hp)
     exact absurd h (Rat.not_lt.2 h4)
 exact ⟨key _ _, key _ _⟩
theorem aUt {a b : D} (hb : b.m ≠ 0) (h : topD a < topD b) : a.av < b.av := by
 have h1 := aFk a
 have h2 := aFq hb
 have h3 : p2 (topD a + 1) <= p2 (topD b) := aA7 (by omega)
 grind
def cmpP (a b : D) : Int :=
 if aAK a < aAK b then -1 else if aAK b < aAK a then 1 else if aAK a = 0 then 0 else
 if topD a ≠ topD b then (if topD a < topD b then -aAK a else aAK a) else aAK a * (if alA (oneD a) (oneD b) < alB (oneD a) (oneD b) then -1 else if alB (oneD a) (oneD b) < alA (oneD a) (oneD b) then 1 else 0)
theorem aNL (a b : D) : cmpP a b = cmpD a b := by
 have hl := aXI (oneD a) (oneD b)
 rw [aUO, aUO] at hl
 obtain ⟨l1, l2⟩ := hl
 have sa := aIF a
 have sb := aIF b
 have va := v_av a
 have vb := v_av b
 have na := aHf a
 have nb := aHf b
 unfold cmpP cmpD
 by_cases hs : aAK a < aAK b
 · rw [if_pos hs, if_pos]
   rw [sa, sb] at hs
   grind
 rw [if_neg hs]
 by_cases hs2 : aAK b < aAK a
 · have : ¬ a.v < b.v := by rw [sa, sb] at hs2; grind
   have h2 : b.v < a.v := by rw [sa, sb] at hs2; grind
   rw [if_pos hs2, if_neg this, if_pos h2]
 rw [if_neg hs2]
 by_cases h0 : aAK a = 0
 · have h1 : a.v = 0 := by rw [sa] at h0; grind
   have h2 : b.v = 0 := by
                           have : aAK b = 0 := by omega
                           rw [sb] at this; grind
   rw [if_pos h0, h1, h2]; rfl
 rw [if_neg h0]
 have ha : a.m ≠ 0 := fun e => h0 (by unfold aAK; rw [if_pos e])
 have hb : b.m ≠ 0 := fun e => by
   have : aAK b = 0 := by unfold aAK; rw [if_pos e]
   omega
 have hneg : a.neg = b.neg := by
   have h1 : aAK a = aAK b := by omega
   unfold aAK at h1
   rw [if_neg ha, if_neg hb] at h1
   cases h2 : a.neg <;> cases h3 : b.neg <;> simp_all
 have hsg : aAK a = if a.neg then -1 else 1 := by unfold aAK; rw [if_neg ha]
 rw [hsg]
 rw [va, vb, <- hneg]
 have ht1 : topD a < topD b -> a.av < b.av := aUt hb
 have ht2 : topD b < topD a -> b.av < a.av := aUt ha
 cases hn : a.neg
 · have e : sg false = 1 := rfl
   simp only [e, Rat.one_mul, Bool.false_eq_true, if_false]
   by_cases ht : topD a < topD b
   · rw [if_pos (by omega), if_pos ht, if_pos (ht1 ht)]
   · by_cases ht' : topD b < topD a
     · have := ht2 ht'
       rw [if_pos (by omega), if_neg ht, if_neg (by grind), if_pos this]
     · rw [if_neg (by omega)]
       simp only [l1, l2]
       split
       · rfl
       · split <;> rfl
 · have e : sg true = -1 := rfl
   simp only [e, if_true]
   by_cases ht : topD a < topD b
   · have := ht1 ht
     rw [if_pos (by omega), if_pos ht, if_neg (by grind), if_pos (by grind)]; rfl
   · by_cases ht' : topD b < topD a
     · have := ht2 ht'
       rw [if_pos (by omega), if_neg ht, if_pos (by grind)]
     · rw [if_neg (by omega)]
       simp only [l1, l2]
       by_cases h5 : a.av < b.av
       · rw [if_pos h5, if_neg (by grind), if_pos (by grind)]; rfl
       · rw [if_neg h5]
         by_cases h6 : b.av < a.av
         · rw [if_pos h6, if_pos (by grind)]; rfl
         · rw [if_neg h6, if_neg (by grind), if_neg (by grind)]; rfl
end
section
open Go.RowKit
def aUr (a b : D) : Prop := (aJA a /\ aJA b) /\ (aJA (oneD a) /\ aJA (oneD b)) /\ ((oneD a).e - (oneD b).e <= 1000000000000 /\ (oneD b).e - (oneD a).e <= 1000000000000) /\
 (Sm (alA (oneD a) (oneD b)) /\ Sm (alB (oneD a) (oneD b)) /\ Sm (alA (oneD a) (oneD b) + alB (oneD a) (oneD b))) /\ Se (min (oneD a).e (oneD b).e)
theorem aGY (d : D) : (oneD d).m = 0 <-> d.m = 0 := by
 show fAbs d.m = 0 <-> d.m = 0
 constructor
 · intro h
   apply Classical.byContradiction
   intro hn
   have := aRE hn
   omega
 · intro h; rw [h]; exact aEY
theorem aLr (a b : Nat) : (0 <= cmpN a b) <-> b <= a := by
 unfold cmpN
 split
 · constructor <;> intro h <;> omega
 · split <;> constructor <;> intro h <;> omega
theorem aM7 (a b : D) (hok : aUr a b) : AC Tryz.prog TabW 46 [dyV a, dyV b] (dyV (addD a b)) := by
 obtain ⟨⟨na, nb⟩, ⟨nx, ny⟩, ⟨q1, q2⟩, ⟨sX, sY, sXY⟩, sM⟩ := hok
 have hr : addD a b = if a.m = 0 then oneD b else if b.m = 0 then oneD a else
   if (oneD a).neg = (oneD b).neg then aAL (oneD a).neg (alA (oneD a) (oneD b) + alB (oneD a) (oneD b)) (min (oneD a).e (oneD b).e)
   else if alB (oneD a) (oneD b) <= alA (oneD a) (oneD b) then aAL (oneD a).neg (alA (oneD a) (oneD b) - alB (oneD a) (oneD b)) (min (oneD a).e (oneD b).e)
   else aAL (oneD b).neg (alB (oneD a) (oneD b) - alA (oneD a) (oneD b)) (min (oneD a).e (oneD b).e) := rfl
 have ha := aHo a na.1 na.2
 have hb := aHo b nb.1 nb.2
 have za := aGY a
 have zb := aGY b
 have ea : aAL a.neg a.m a.e = oneD a := rfl
 have eb : aAL b.neg b.m b.e = oneD b := rfl
 rw [ea] at ha
 rw [eb] at hb
 generalize oneD a = x at *
 generalize oneD b = y at *
 have hm := aGv x y nx.1 ny.1 q1 q2
 have eX : x.m * 2 ^ (x.e - min x.e y.e).toNat = alA x y := rfl
 have eY : y.m * 2 ^ (y.e - min x.e y.e).toNat = alB x y := rfl
 rw [eX, eY] at hm
 generalize alA x y = X at *
 generalize alB x y = Y at *
 generalize min x.e y.e = M at *
 rw [hr]
 refine aAd Tryz.func46 rfl (by kernel_rfl) aAc Tryz.mixed rfl rfl (by kernel_rfl) ?_
 simp only [dyV, ivV, aAl, Tryz.ntmps46]
 refine aAa fun K0 g0 => aAx ?_
 simp only [xo, xv, xw, xe, xb, xl, xlw, xlf, xbq, Tryz.tys, aAS, aAQ, aAy, bldV, dyV, ivV, reduceIte, Nat.reduceLT, Nat.reduceEqDiff, Nat.reduceAdd, Nat.reduceLeDiff, and_self]
 refine g0 _ (aAa fun K1 g1 => aD3 4 (by kernel_rfl) (by kernel_rfl) ?_)
 simp only [xq, xh, simprocAttr, dyV, ivV]
 refine cxh (ha) ?_
 simp only [xq, xh, simprocAttr, dyV, ivV]
 refine cxh (hb) ?_
 simp only [xq, xh, simprocAttr, dyV, ivV]
 refine g1 _ (aAa fun K2 g2 => aAv (aAa fun K3 g3 => aAx ?_))
 simp only [xo, xv, xw, xe, xb, xl, xlw, xlf, xbq, Tryz.tys, aAS, aAQ, aAy, bldV, dyV, ivV, reduceIte, Nat.reduceLT, Nat.reduceEqDiff, Nat.reduceAdd, Nat.reduceLeDiff, and_self]
 refine cxo (aCB x) ?_
 simp only [xo, xv, xw, xe, xb, xl, xlw, xlf, xbq, Tryz.tys, aAS, aAQ, aAy, bldV, dyV, ivV, reduceIte, Nat.reduceLT, Nat.reduceEqDiff, Nat.reduceAdd, Nat.reduceLeDiff, and_self]
 refine g3 _ (aAf rfl (fun c1 => ?_) (fun c1 => ?_))
 · have d1 : a.m = 0 := za.1 (by simpa using c1)
   refine aAa fun K4 g4 => aAx ?_
   simp only [xo, xv, xw, xe, xb, xl, xlw, xlf, xbq, Tryz.tys, aAS, aAQ, aAy, bldV, dyV, ivV, reduceIte, Nat.reduceLT, Nat.reduceEqDiff, Nat.reduceAdd, Nat.reduceLeDiff, and_self]
   refine g4 _ (aAe ?_)
   simp only [aAg, aAm, endX, resX, resV, Tryz.results46]
   simp only [xo, xv, xw, xe, xb, xl, xlw, xlf, xbq, Tryz.tys, aAS, aAQ, aAy, bldV, dyV, ivV, reduceIte, Nat.reduceLT, Nat.reduceEqDiff, Nat.reduceAdd, Nat.reduceLeDiff, and_self]
   rw [if_pos d1]
 have d1 : ¬ a.m = 0 := fun e => by rw [za.2 e] at c1; cases c1
 refine aAa fun K4 g4 => aAx ?_
 simp only [xo, xv, xw, xe, xb, xl, xlw, xlf, xbq, Tryz.tys, aAS, aAQ, aAy, bldV, dyV, ivV, reduceIte, Nat.reduceLT, Nat.reduceEqDiff, Nat.reduceAdd, Nat.reduceLeDiff, and_self]
 refine cxo (aCB y) ?_
 simp only [xo, xv, xw, xe, xb, xl, xlw, xlf, xbq, Tryz.tys, aAS, aAQ, aAy, bldV, dyV, ivV, reduceIte, Nat.reduceLT, Nat.reduceEqDiff, Nat.reduceAdd, Nat.reduceLeDiff, and_self]
 refine g4 _ (aAf rfl (fun c2 => ?_) (fun c2 => ?_))
 · have d2 : b.m = 0 := zb.1 (by simpa using c2)
   refine aAa fun K5 g5 => aAx ?_
   simp only [xo, xv, xw, xe, xb, xl, xlw, xlf, xbq, Tryz.tys, aAS, aAQ, aAy, bldV, dyV, ivV, reduceIte, Nat.reduceLT, Nat.reduceEqDiff, Nat.reduceAdd, Nat.reduceLeDiff, and_self]
   refine g5 _ (aAe ?_)
   simp only [aAg, aAm, endX, resX, resV, Tryz.results46]
   simp only [xo, xv, xw, xe, xb, xl, xlw, xlf, xbq, Tryz.tys, aAS, aAQ, aAy, bldV, dyV, ivV, reduceIte, Nat.reduceLT, Nat.reduceEqDiff, Nat.reduceAdd, Nat.reduceLeDiff, and_self]
   rw [if_neg d1, if_pos d2]
 have d2 : ¬ b.m = 0 := fun e => by rw [zb.2 e] at c2; cases c2
 refine aAk ?_
 simp only [aAg, aAm]
 refine g2 _ (aAa fun K5 g5 => aAx ?_)
 simp only [xo, xv, xw, xe, xb, xl, xlw, xlf, xbq, Tryz.tys, aAS, aAQ, aAy, bldV, dyV, ivV, reduceIte, Nat.reduceLT, Nat.reduceEqDiff, Nat.reduceAdd, Nat.reduceLeDiff, and_self]
 refine cxo (hm) ?_
 simp only [xo, xv, xw, xe, xb, xl, xlw, xlf, xbq, Tryz.tys, aAS, aAQ, aAy, bldV, dyV, ivV, reduceIte, Nat.reduceLT, Nat.reduceEqDiff, Nat.reduceAdd, Nat.reduceLeDiff, and_self]
 refine g5 _ (aAa fun K6 g6 => aAa fun K7 g7 => aAx ?_)
 simp only [xo, xv, xw, xe, xb, xl, xlw, xlf, xbq, Tryz.tys, aAS, aAQ, aAy, bldV, dyV, ivV, reduceIte, Nat.reduceLT, Nat.reduceEqDiff, Nat.reduceAdd, Nat.reduceLeDiff, and_self]
 refine g7 _ (aAf rfl (fun c3 => ?_) (fun c3 => ?_))
 · have d3 : x.neg = y.neg := by simpa using c3
   refine aAa fun K8 g8 => aD3 7 (by kernel_rfl) (by kernel_rfl) ?_
   simp only [xq, xh, simprocAttr, dyV, ivV]
   refine cxh (aGB _ _ sX sY) ?_
   simp only [xq, xh, simprocAttr, dyV, ivV]
   refine cxh (aDn _ _ _ sXY sM) ?_
   simp only [xq, xh, simprocAttr, dyV, ivV]
   refine g8 _ (aAe ?_)
   simp only [aAg, aAm, endX, resX, resV, Tryz.results46]
   simp only [xo, xv, xw, xe, xb, xl, xlw, xlf, xbq, Tryz.tys, aAS, aAQ, aAy, bldV, dyV, ivV, reduceIte, Nat.reduceLT, Nat.reduceEqDiff, Nat.reduceAdd, Nat.reduceLeDiff, and_self]
   rw [if_neg d1, if_neg d2, if_pos d3]
 have d3 : ¬ x.neg = y.neg := by simpa using c3
 refine aAk ?_
 simp only [aAm]
 refine g6 _ (aAa fun K8 g8 => aAa fun K9 g9 => aAx ?_)
 simp only [xo, xv, xw, xe, xb, xl, xlw, xlf, xbq, Tryz.tys, aAS, aAQ, aAy, bldV, dyV, ivV, reduceIte, Nat.reduceLT, Nat.reduceEqDiff, Nat.reduceAdd, Nat.reduceLeDiff, and_self]
 refine cxo (aNr _ _) ?_
 simp only [xo, xv, xw, xe, xb, xl, xlw, xlf, xbq, Tryz.tys, aAS, aAQ, aAy, bldV, dyV, ivV, reduceIte, Nat.reduceLT, Nat.reduceEqDiff, Nat.reduceAdd, Nat.reduceLeDiff, and_self]
 refine g9 _ (aAf rfl (fun c4 => ?_) (fun c4 => ?_))
 · have d4 : Y <= X := (aLr X Y).1 (by simpa using c4)
   refine aAa fun K10 g10 => aD3 7 (by kernel_rfl) (by kernel_rfl) ?_
   simp only [xq, xh, simprocAttr, dyV, ivV]
   refine cxh (aK6 _ _ sX d4) ?_
   simp only [xq, xh, simprocAttr, dyV, ivV]
   refine cxh (aDn _ _ _ (Nat.le_trans (aFR (Nat.sub_le _ _)) sX) sM) ?_
   simp only [xq, xh, simprocAttr, dyV, ivV]
   refine g10 _ (aAe ?_)
   simp only [aAg, aAm, endX, resX, resV, Tryz.results46]
   simp only [xo, xv, xw, xe, xb, xl, xlw, xlf, xbq, Tryz.tys, aAS, aAQ, aAy, bldV, dyV, ivV, reduceIte, Nat.reduceLT, Nat.reduceEqDiff, Nat.reduceAdd, Nat.reduceLeDiff, and_self]
   rw [if_neg d1, if_neg d2, if_neg d3, if_pos d4]
 have d4 : ¬ Y <= X := fun e => by rw [decide_eq_true ((aLr X Y).2 e)] at c4; cases c4
 refine aAk ?_
 simp only [aAm]
 refine g8 _ ?_
 refine aAa fun K10 g10 => aD3 7 (by kernel_rfl) (by kernel_rfl) ?_
 simp only [xq, xh, simprocAttr, dyV, ivV]
 refine cxh (aK6 _ _ sY (by omega)) ?_
 simp only [xq, xh, simprocAttr, dyV, ivV]
 refine cxh (aDn _ _ _ (Nat.le_trans (aFR (Nat.sub_le _ _)) sY) sM) ?_
 simp only [xq, xh, simprocAttr, dyV, ivV]
 refine g10 _ (aAe ?_)
 simp only [aAg, aAm, endX, resX, resV, Tryz.results46]
 simp only [xo, xv, xw, xe, xb, xl, xlw, xlf, xbq, Tryz.tys, aAS, aAQ, aAy, bldV, dyV, ivV, reduceIte, Nat.reduceLT, Nat.reduceEqDiff, Nat.reduceAdd, Nat.reduceLeDiff, and_self]
 rw [if_neg d1, if_neg d2, if_neg d3, if_neg d4]
end
section
open Go.RowKit
def aUU (a b : Iv) (p : Int) : Prop := (aUr a.lo b.lo /\ aUr a.hi b.hi) /\ aPP (addD a.lo b.lo) p /\ aPP (addD a.hi b.hi) p
theorem aS1 (a b : Iv) (p : Int) (h : aUU a b p) : AC Tryz.prog TabW 152 [ivV a, ivV b, .lit (.int .i64 p)] (ivV (aH4 a b p)) := by
 refine aAd Tryz.func152 rfl (by kernel_rfl) aAc Tryz.mixed rfl rfl (by kernel_rfl) ?_
 simp only [dyV, ivV, aAl, Tryz.ntmps152]
 refine aAa fun K0 g0 => aAx ?_
 simp only [xo, xv, xw, xe, xb, xl, xlw, xlf, xbq, Tryz.tys, aAS, aAQ, aAy, bldV, dyV, ivV, reduceIte, Nat.reduceLT, Nat.reduceEqDiff, Nat.reduceAdd, Nat.reduceLeDiff, and_self]
 refine g0 _ (aAa fun K1 g1 => aD3 13 (by kernel_rfl) (by kernel_rfl) ?_)
 simp only [xq, xh, simprocAttr, dyV, ivV]
 refine cxh (aM7 a.lo b.lo h.1.1) ?_
 simp only [xq, xh, simprocAttr, dyV, ivV]
 refine cxh (aM7 a.hi b.hi h.1.2) ?_
 simp only [xq, xh, simprocAttr, dyV, ivV]
 refine cxh (aOg ⟨addD a.lo b.lo, addD a.hi b.hi⟩ p h.2.1 h.2.2) ?_
 simp only [xq, xh, simprocAttr, dyV, ivV]
 refine g1 _ (aAe ?_)
 simp only [aAg, aAm, endX, resX, resV, Tryz.results152]
 simp only [xo, xv, xw, xe, xb, xl, xlw, xlf, xbq, Tryz.tys, aAS, aAQ, aAy, bldV, dyV, ivV, reduceIte, Nat.reduceLT, Nat.reduceEqDiff, Nat.reduceAdd, Nat.reduceLeDiff, and_self]
 rfl
theorem aS3 (a b : Iv) (p : Int) (h1 : aJA b.lo) (h2 : aJA b.hi) (h : aUU a (aCd b) p) : AC Tryz.prog TabW 126 [ivV a, ivV b, .lit (.int .i64 p)] (ivV (aFn a b p)) := by
 refine aAd Tryz.func126 rfl (by kernel_rfl) aAc Tryz.mixed rfl rfl (by kernel_rfl) ?_
 simp only [dyV, ivV, aAl, Tryz.ntmps126]
 refine aAa fun K0 g0 => aAx ?_
 simp only [xo, xv, xw, xe, xb, xl, xlw, xlf, xbq, Tryz.tys, aAS, aAQ, aAy, bldV, dyV, ivV, reduceIte, Nat.reduceLT, Nat.reduceEqDiff, Nat.reduceAdd, Nat.reduceLeDiff, and_self]
 refine g0 _ (aAa fun K1 g1 => aD3 5 (by kernel_rfl) (by kernel_rfl) ?_)
 simp only [xq, xh, simprocAttr, dyV, ivV]
 refine cxh (aOf b h1 h2) ?_
 simp only [xq, xh, simprocAttr, dyV, ivV]
 refine cxh (aS1 a (aCd b) p h) ?_
 simp only [xq, xh, simprocAttr, dyV, ivV]
 refine g1 _ (aAe ?_)
 simp only [aAg, aAm, endX, resX, resV, Tryz.results126]
 simp only [xo, xv, xw, xe, xb, xl, xlw, xlf, xbq, Tryz.tys, aAS, aAQ, aAy, bldV, dyV, ivV, reduceIte, Nat.reduceLT, Nat.reduceEqDiff, Nat.reduceAdd, Nat.reduceLeDiff, and_self]
 rfl
theorem aVi (d : D) (h : aJA d) : AC Tryz.prog TabW 117 [dyV d] (.lit (.int .i64 (topD d))) := by
 obtain ⟨hm, he⟩ := h
 have hb : bl d.m <= 1000000000000 := hm
 have w1 : IntKind.i64.wrap (d.e + ((bl d.m : Nat) : Int)) = d.e + ((bl d.m : Nat) : Int) := IntWalk.i64_in _ (by unfold Se at he; omega)
 have w2 : IntKind.i64.wrap (d.e + ((bl d.m : Nat) : Int) - 1) = d.e + ((bl d.m : Nat) : Int) - 1 := IntWalk.i64_in _ (by unfold Se at he; omega)
 refine aAd Tryz.func117 rfl (by kernel_rfl) aAc Tryz.mixed rfl rfl (by kernel_rfl) ?_
 simp only [dyV, ivV, aAl, Tryz.ntmps117]
 refine aAa fun K0 g0 => aAx ?_
 simp only [xo, xv, xw, xe, xb, xl, xlw, xlf, xbq, Tryz.tys, aAS, aAQ, aAy, bldV, dyV, ivV, reduceIte, Nat.reduceLT, Nat.reduceEqDiff, Nat.reduceAdd, Nat.reduceLeDiff, and_self]
 refine g0 _ (aAa fun K1 g1 => aD3 8 (by kernel_rfl) (by kernel_rfl) ?_)
 simp only [xq, xh, simprocAttr, dyV, ivV]
 refine cxh (aK9 _ hm) ?_
 simp only [xq, xh, simprocAttr, dyV, ivV]
 rw [w1, w2]
 refine g1 _ (aAe ?_)
 simp only [aAg, aAm, endX, resX, resV, Tryz.results117]
 simp only [xo, xv, xw, xe, xb, xl, xlw, xlf, xbq, Tryz.tys, aAS, aAQ, aAy, bldV, dyV, ivV, reduceIte, Nat.reduceLT, Nat.reduceEqDiff, Nat.reduceAdd, Nat.reduceLeDiff, and_self]
 rfl
end
section
set_option maxHeartbeats 1000000
open Go.RowKit
def aUg (w : World) (lo : Nat) (a : Value) (l : List Nat) (e : Ending) (w' : World) : Prop := ∃ v, e = .returned v /\ Num lo w' v (valN l) /\ w = w' /\ ∃ x n c k, a = .slice x n c /\ v = .slice x k k
theorem aSp (lo : Nat) (a : Value) (l : List Nat) (w : World) (ha : aAE lo w a l) :
   Calls Tryz.prog 93 #[a] w (aUg w lo a l) := by
 have ha0 := ha
 obtain ⟨x, cap, rfl, hcap, hcm, hok, hx⟩ := ha
 have HA := Lib.hid ha0
 have HX := Lib.hid hx
 clear ha0 hx
 go_enter Tryz.func93, Tryz.ntmps93
 go_wp2_with fail
 go_loop [3] (fun i => ∃ k : Nat, k <= l.length /\ i = .int .i64 k /\ Hid (∀ j, k <= j -> gw l j = 0)) (fun i => (intOf i).toNat)
 case atStart => exact ⟨l.length, Nat.le_refl _, rfl, fun j hj => aGk hj⟩
 case round =>
   obtain ⟨k, hk, rfl, hz⟩ := hrel
   by_cases h0 : k = 0
   · subst h0
     go_wp2
     go_ret
     exact ⟨_, rfl, aIa hk hz.out (.inl rfl) HA.out, rfl, _, _, _, _, rfl, rfl⟩
   · obtain ⟨m, rfl⟩ : ∃ m, k = m + 1 := ⟨k - 1, by omega⟩
     obtain ⟨b, off, rfl, hlo, hc⟩ := HX.out m (by omega)
     cases hv : (((gw l m : Nat) : Int) == 0)
     · have hne : m + 1 = 0 \/ gw l (m + 1 - 1) ≠ 0 := .inr (by rw [Nat.add_sub_cancel]; have := beq_eq_false_iff_ne.1 hv; omega)
       have HN := Lib.hid hne
       clear hne
       go_wp2
       go_ret
       exact ⟨_, rfl, aIa hk hz.out HN.out HA.out, rfl, _, _, _, _, rfl, rfl⟩
     · have hz' : Hid (∀ j, m <= j -> gw l j = 0) := fun j hj => by
         by_cases e : m = j
         · subst e; have := beq_iff_eq.1 hv; omega
         · exact hz.out j (by omega)
       clear hz
       go_wp2
       go_round
       case rel => exact ⟨m, by omega, rfl, hz'⟩
       case measure => simp [intOf]
theorem aTA (a : Nat) : AC Tryz.prog TabW 93 [.num a] (.num a) := by
 refine ⟨by kernel_rfl, fun S β w vs hI hS h => ?_⟩
 simp only [RepL, Rep] at h
 obtain ⟨va, _, rfl, h1, rfl⟩ := h
 have := aSp 0 va _ w h1.1
 refine this.mono fun e w' h => ?_
 obtain ⟨v, h2, h3, rfl, x, n, c, k, rfl, rfl⟩ := h
 rw [aAi] at h3
 refine ⟨_, h2, ?_, Below.refl _ _⟩
 simp only [Rep]
 exact ⟨h3, fun b o s n' c' e hl => h1.2 b o s n c (by injection e with e1 _ _; rw [e1]) hl⟩
end
section
def expU (t y : Rat) : Prop := ∀ n, expS t n <= y
theorem aC1 {t y : Rat} (h : expU t y) : 1 <= y := by have := h 1; rwa [aFg] at this
theorem aJe : expU 0 1 := by
 have h : ∀ n, expT 0 (n + 1) = 0 := fun n => by simp only [expT]; grind
 intro n
 cases n with
 | zero => simp only [expS, aA5]; grind
 | succ n =>
   have : ∀ n, expS 0 (n + 1) = 1 := by
     intro n
     induction n with
     | zero => exact aFg 0
     | succ n ih => show expS 0 (n + 1) + expT 0 (n + 1) = 1; rw [ih, h]; grind
   rw [this]; exact Rat.le_refl
theorem aTU {s t x y : Rat} (hs : 0 <= s) (ht : 0 <= t) (h1 : expU s x) (h2 : expU t y) : expU (s + t) (x * y) := fun n =>
 Rat.le_trans (aJh hs ht n) (aAO (h1 n) (h2 n) (aJg ht n) (by have := aC1 h1; grind))
theorem aEp {t : Rat} (h : 0 <= t) (n : Nat) (hn : 2 * t <= (n : Rat) + 1) : expU t (expS t n + 2 * expT t n) := fun k => by
 have h1 := aMr h n hn k
 have h2 := aG7 h (show k <= n + k by omega)
 have h3 := aBC h (n + k)
 grind
theorem aQB (a : Rat) : ∃ n : Nat, a <= (n : Rat) := by
 refine ⟨a.ceil.toNat, Rat.le_trans Rat.le_ceil ?_⟩
 rw [show ((a.ceil.toNat : Nat) : Rat) = ((a.ceil.toNat : Int) : Rat) from rfl, Rat.intCast_le_intCast]
 omega
theorem aOy {t : Rat} (h : 0 <= t) {ε : Rat} (he : 0 < ε) : ∃ n, expU t (expS t n + ε) := by
 obtain ⟨N, hN⟩ := aQB (2 * t)
 have hk : ∀ k : Nat, ((k : Rat) + 1) * expT t (N + k) <= expT t N := by
   intro k
   induction k with
   | zero => have : ((0 : Nat) : Rat) = 0 := rfl; simp only [Nat.add_zero]; grind
   | succ k ih =>
     have h1 := aMq h (N + k) (by rw [Rat.natCast_add]; have := aEm k; grind)
     have h2 := aBC h (N + k)
     have h3 := aEm k
     have e : ((k + 1 : Nat) : Rat) = (k : Rat) + 1 := by rw [Rat.natCast_add]; rfl
     have h4 : ((k : Rat) + 2) * expT t (N + k + 1) <= ((k : Rat) + 2) * (expT t (N + k) / 2) := Rat.mul_le_mul_of_nonneg_left h1 (by grind)
     have h5 : 0 <= (k : Rat) * expT t (N + k) := Rat.mul_nonneg h3 h2
     rw [<- Nat.add_assoc, e]
     grind
 obtain ⟨k, hk2⟩ := aQB (2 * expT t N / ε)
 refine ⟨N + k, fun m => Rat.le_trans (aEp h (N + k) (by rw [Rat.natCast_add]; have := aEm k; grind) m) ?_⟩
 rw [aA0 he] at hk2
 have h1 := hk k
 have h2 := aBC h (N + k)
 have h3 := aDr k
 have h4 : ((k : Rat) + 1) * (2 * expT t (N + k)) <= ((k : Rat) + 1) * ε := by grind
 have := Rat.le_of_mul_le_mul_left h4 h3
 grind
theorem aMp {t : Rat} (h : 0 <= t) : ∃ y, expU t y := by
 obtain ⟨n, hn⟩ := aOy h (show (0 : Rat) < 1 by grind)
 exact ⟨_, hn⟩
def expR (p x q y : Rat) : Prop := ∀ n Y, expU q Y -> x * expS p n <= y * Y
theorem aEf {p x q y r z : Rat} (hq : 0 <= q) (hy : 0 <= y) (hz : 0 <= z) (h1 : expR p x q y) (h2 : expR q y r z) : expR p x r z := by
 intro n Y hY
 by_cases h0 : y = 0
 · obtain ⟨Z, hZ⟩ := aMp hq
   have := h1 n Z hZ
   have h3 := Rat.mul_nonneg hz (show 0 <= Y by have := aC1 hY; grind)
   subst h0
   grind
 · have hy0 : 0 < y := by grind
   have h3 : expU q (z * Y / y) := fun k => by rw [aBw hy0]; have := h2 k Y hY; grind
   have := h1 n _ h3
   have e : y * (z * Y / y) = z * Y := by grind
   rwa [e] at this
theorem aOz {p x q y p' x' q' y' : Rat} (hp : 0 <= p) (hq : 0 <= q) (hp' : 0 <= p') (hq' : 0 <= q') (hx : 0 <= x) (hx' : 0 <= x') (hy : 0 <= y) (hy' : 0 <= y')
   (h1 : expR p x q y) (h2 : expR p' x' q' y') : expR (p + p') (x * x') (q + q') (y * y') := by
 intro n Y hY
 have hY1 := aC1 hY
 have h3 : ∀ k, x * expS p n * expS q' (k + 1) <= y * Y := fun k => by
   have hk := aTW hq' k
   have hk0 : (0 : Rat) < expS q' (k + 1) := by grind
   have h4 : expU q (Y / expS q' (k + 1)) := fun j => by
     rw [aBw hk0]
     exact Rat.le_trans (aGI hq hq' _ _) (hY _)
   have := h1 n _ h4
   have h5 := Rat.mul_le_mul_of_nonneg_right this (Rat.le_of_lt hk0)
   have e : y * (Y / expS q' (k + 1)) * expS q' (k + 1) = y * Y := by grind
   rwa [e] at h5
 have h3' : ∀ k, x * expS p n * expS q' k <= y * Y := fun k => by
   cases k with
   | zero =>
     have := Rat.mul_nonneg hy (show 0 <= Y by grind)
     have e : expS q' 0 = 0 := rfl
     rw [e]; grind
   | succ k => exact h3 k
 have hxp := Rat.mul_nonneg hx (aJg hp n)
 have hpp := aJh hp hp' n
 have h5 : x * x' * expS (p + p') n <= (x * expS p n) * (x' * expS p' n) := by
   have := Rat.mul_le_mul_of_nonneg_left hpp (Rat.mul_nonneg hx hx')
   grind
 refine Rat.le_trans h5 ?_
 by_cases h0 : x * expS p n = 0
 · rw [h0]
   have := Rat.mul_nonneg (Rat.mul_nonneg hy hy') (show 0 <= Y by grind)
   grind
 · have h00 : 0 < x * expS p n := by grind
   have h6 : expU q' (y * Y / (x * expS p n)) := fun k => by
     rw [aBw h00]; have := h3' k; grind
   have h7 := h2 n _ h6
   have h8 := Rat.mul_le_mul_of_nonneg_left h7 hxp
   have e : x * expS p n * (y' * (y * Y / (x * expS p n))) = y * y' * Y := by grind
   rwa [e] at h8
theorem aGJ {p x q y d : Rat} (hp : 0 <= p) (hq : 0 <= q) (hd : 0 <= d) (hx : 0 <= x) (hy : 0 <= y) (h : expR (p + d) x (q + d) y) : expR p x q y := by
 intro n Y hY
 have hY1 := aC1 hY
 have hxp := Rat.mul_nonneg hx (aJg hp n)
 apply Rat.not_lt.1
 intro hlt
 have hyY := Rat.mul_nonneg hy (show 0 <= Y by grind)
 have hε : 0 < (x * expS p n - y * Y) / (x * expS p n) := by rw [Rat.lt_div_iff (by grind)]; grind
 have h00 : 0 < x * expS p n := by grind
 obtain ⟨k, hk⟩ := aOy hd (show 0 < (x * expS p n - y * Y) / (x * expS p n) / 2 by grind)
 have h1 := h (n + k) _ (aTU hq hd hY hk)
 have h2 := aGI hp hd n k
 have h3 := Rat.le_trans (Rat.mul_le_mul_of_nonneg_left h2 hx) h1
 rw [<- Rat.mul_assoc, <- Rat.mul_assoc] at h3
 have hs1 := aC1 hk
 generalize expS d k = s at *
 generalize x * expS p n = c at *
 have h4 : c * s <= y * Y * (s + (c - y * Y) / c / 2) := h3
 clear h1 h2 h3 hk hY
 generalize y * Y = b at *
 have e : (c - b) / c = 1 - b / c := by grind
 have hb : b / c < 1 := by rw [Rat.div_lt_iff h00]; grind
 have hb0 : 0 <= b / c := aCf hyY h00
 have eb : b = c * (b / c) := by grind
 generalize b / c = r at *
 subst eb
 have h5 : c * s <= c * (r * (s + (c - c * r) / c / 2)) := by grind
 have h6 := Rat.le_of_mul_le_mul_left h5 h00
 have e2 : (c - c * r) / c = 1 - r := by grind
 rw [e2] at h6 hs1
 have h7 : (1 - r) * s <= (1 - r) * (r / 2) := by grind
 have h8 := Rat.le_of_mul_le_mul_left h7 (by grind)
 grind
def ps (t : Rat) : Rat := if 0 <= t then t else 0
def ng (t : Rat) : Rat := if 0 <= t then 0 else -t
theorem aIU (t : Rat) : 0 <= ps t := by unfold ps; split <;> grind
theorem aG0 (t : Rat) : 0 <= ng t := by unfold ng; split <;> grind
theorem aL0 (t : Rat) : ps t - ng t = t := by unfold ps ng; split <;> grind
def expH (t y : Rat) : Prop := 0 <= y /\ expR (ps t) 1 (ng t) y
def expL (t x : Rat) : Prop := 0 <= x -> expR (ng t) x (ps t) 1
theorem aKf {p x q y c : Rat} (hc : 0 <= c) (h : expR p x q y) : expR p (c * x) q (c * y) := fun n Y hY => by
 have := Rat.mul_le_mul_of_nonneg_left (h n Y hY) hc; grind
theorem aJi {p q x y : Rat} (hp : 0 <= p) (_ : 0 <= q) (hpq : p <= q) (hy : x <= y) (hx : 0 <= x) : expR p x q y := fun n Y hY => by
 have h1 := aGI hp (show 0 <= q - p by grind) n 1
 rw [aFg, show p + (q - p) = q by grind] at h1
 have h2 := hY (n + 1)
 have h3 : expS p n <= Y := by grind
 exact aAO hy h3 (aJg hp n) (by grind)
theorem aNH {p q t y : Rat} (hp : 0 <= p) (hq : 0 <= q) (ht : p - q = t) (hy : 0 <= y) (h : expR p 1 q y) : expH t y := by
 refine ⟨hy, ?_⟩
 have h1 := aL0 t
 have h2 := aIU t
 have h3 := aG0 t
 have e1 : p = ps t + (q - ng t) := by grind
 have e2 : q = ng t + (q - ng t) := by grind
 have hd : 0 <= q - ng t := by unfold ng; split <;> grind
 rw [e1] at h
 rw [e2] at h
 have e3 : ng t + (q - ng t) - ng t = q - ng t := by grind
 rw [e3] at h
 exact aGJ h2 h3 hd (by grind) hy h
theorem aNG {p q t x : Rat} (hp : 0 <= p) (hq : 0 <= q) (ht : p - q = t) (h : 0 <= x -> expR q x p 1) : expL t x := fun hx => by
 have h := h hx
 have h1 := aL0 t
 have h2 := aIU t
 have h3 := aG0 t
 have e1 : p = ps t + (q - ng t) := by grind
 have e2 : q = ng t + (q - ng t) := by grind
 have hd : 0 <= q - ng t := by unfold ng; split <;> grind
 rw [e1] at h
 rw [e2] at h
 have e3 : ng t + (q - ng t) - ng t = q - ng t := by grind
 rw [e3] at h
 exact aGJ h3 h2 hd hx (by grind) h
theorem aTX {t y : Rat} (h : expH t y) : 0 < y := by
 obtain ⟨Y, hY⟩ := aMp (aG0 t)
 have h1 := h.2 1 Y hY
 rw [aFg] at h1
 have h2 := aC1 hY
 have h3 := h.1
 apply Rat.not_le.1
 intro h4
 have : y = 0 := by grind
 subst this
 grind
theorem aAM {s t x y : Rat} (h1 : expL s x) (h2 : expH t y) (h : s <= t) : x <= y := by
 by_cases hx : 0 <= x
 · have a1 := h1 hx
   have a2 := h2.2
   have b1 := aIU s
   have b2 := aIU t
   have b3 := aG0 s
   have b4 := aG0 t
   have c1 : ps s <= ps t := by unfold ps; split <;> split <;> grind
   have c2 : ng t <= ng s := by unfold ng; split <;> split <;> grind
   have a3 := aEf b1 (by grind) h2.1 a1 (aEf b2 (by grind) h2.1 (aJi b1 b2 c1 (Rat.le_refl (a := 1)) (by grind)) a2)
   have a4 := aEf b3 hx h2.1 (aJi b4 b3 c2 (Rat.le_refl (a := x)) hx) a3
   have a5 : expR (0 + ng t) x (0 + ng t) y := by rw [Rat.zero_add]; exact a4
   have a6 := aGJ (Rat.le_refl) (Rat.le_refl) b4 hx h2.1 a5 1 1 aJe
   rw [aFg] at a6
   grind
 · have := h2.1; grind
theorem aBs {s t x y : Rat} (h : expH t x) (hs : s <= t) (hy : x <= y) : expH s y := by
 refine aNH (p := ps t) (q := ng t + (t - s)) (aIU t) (by have := aG0 t; grind) (by have := aL0 t; grind) (by have := h.1; grind) ?_
 have b4 := aG0 t
 exact aEf b4 h.1 (by have := h.1; grind) h.2 (aJi b4 (by grind) (by grind) hy h.1)
theorem aAV {s t x y : Rat} (h : expL s x) (hs : s <= t) (hy : y <= x) : expL t y := by
 refine aNG (p := ps s + (t - s)) (q := ng s) (by have := aIU s; grind) (aG0 s) (by have := aL0 s; grind) fun h0 => ?_
 have b1 := aIU s
 have b3 := aG0 s
 have hx : 0 <= x := by grind
 exact aEf b3 hx (by grind) (aJi b3 b3 Rat.le_refl hy h0) (aEf b1 (by grind) (by grind) (h hx) (aJi b1 (by grind) (by grind) Rat.le_refl (by grind)))
theorem aEb {s t x y : Rat} (h1 : expH s x) (h2 : expH t y) : expH (s + t) (x * y) := by
 have b1 := aIU s
 have b2 := aIU t
 have b3 := aG0 s
 have b4 := aG0 t
 have := aL0 s
 have := aL0 t
 refine aNH (p := ps s + ps t) (q := ng s + ng t) (by grind) (by grind) (by grind) (Rat.mul_nonneg h1.1 h2.1) ?_
 have := aOz b1 b3 b2 b4 (by grind) (by grind) h1.1 h2.1 h1.2 h2.2
 rwa [Rat.mul_one] at this
theorem aDR {s t x y : Rat} (hx : 0 <= x) (hy : 0 <= y) (h1 : expL s x) (h2 : expL t y) : expL (s + t) (x * y) := by
 have b1 := aIU s
 have b2 := aIU t
 have b3 := aG0 s
 have b4 := aG0 t
 have := aL0 s
 have := aL0 t
 refine aNG (p := ps s + ps t) (q := ng s + ng t) (by grind) (by grind) (by grind) fun _ => ?_
 have := aOz b3 b1 b4 b2 hx hy (by grind) (by grind) (h1 hx) (h2 hy)
 rwa [Rat.mul_one] at this
theorem aUB (t : Rat) : ps (-t) = ng t := by unfold ps ng; split <;> split <;> grind
theorem aUF (t : Rat) : ng (-t) = ps t := by unfold ps ng; split <;> split <;> grind
theorem aFh {t y : Rat} (h : expH t y) : expL (-t) (1 / y) := fun _ => by
 have hy := aTX h
 have h1 := aKf (c := 1 / y) (aCf (by grind) hy) h.2
 rw [aUB, aUF]
 rwa [Rat.mul_one, show 1 / y * y = 1 by grind] at h1
theorem aDS {t x : Rat} (hx : 0 < x) (h : expL t x) : expH (-t) (1 / x) := by
 have h0 : 0 <= 1 / x := aCf (by grind) hx
 refine ⟨h0, ?_⟩
 have h1 := aKf (c := 1 / x) h0 (h (by grind))
 rw [aUB, aUF]
 rwa [Rat.mul_one, show 1 / x * x = 1 by grind] at h1
theorem aCK {t y : Rat} (ht : 0 <= t) (h : expU t y) : expH t y := by
 refine aNH (p := t) (q := 0) ht Rat.le_refl (by grind) (by have := aC1 h; grind) fun n Y hY => ?_
 have h1 := h n
 have h2 := aC1 hY
 have h3 := aC1 h
 have := Rat.mul_le_mul_of_nonneg_left h2 (show 0 <= y by grind)
 grind
theorem aCv {t : Rat} (ht : 0 <= t) (n : Nat) : expL t (expS t n) := by
 refine aNG (p := t) (q := 0) ht Rat.le_refl (by grind) fun h0 k Y hY => ?_
 have h1 := hY n
 have h2 := aJe k
 have := Rat.mul_le_mul_of_nonneg_left h2 h0
 grind
theorem aPC {t y : Rat} (h : ∀ ε : Rat, 0 < ε -> expH t (y + ε)) : expH t y := by
 have h0 : 0 <= y := by
   apply Rat.not_lt.1; intro hlt
   have := (h (-y / 2) (by grind)).1
   grind
 refine ⟨h0, fun n Y hY => ?_⟩
 have hY1 := aC1 hY
 apply Rat.not_lt.1; intro hlt
 have h1 := (h ((1 * expS (ps t) n - y * Y) / (2 * Y)) (by rw [Rat.lt_div_iff (by grind)]; grind)).2 n Y hY
 have e : (y + (1 * expS (ps t) n - y * Y) / (2 * Y)) * Y = y * Y + (1 * expS (ps t) n - y * Y) / 2 := by grind
 rw [e] at h1
 grind
theorem aPB {t x : Rat} (h : ∀ ε : Rat, 0 < ε -> expL t (x - ε)) : expL t x := fun hx n Y hY => by
 have hY1 := aC1 hY
 apply Rat.not_lt.1; intro hlt
 have hS := aJg (aG0 t) n
 have hx0 : 0 < x := by
   apply Rat.not_le.1; intro h0
   have : x = 0 := by grind
   subst this; grind
 have hS0 : 0 < expS (ng t) n := by
   apply Rat.not_le.1; intro h0
   have : expS (ng t) n = 0 := by grind
   rw [this] at hlt; grind
 have he : 0 < (x * expS (ng t) n - Y) / (2 * expS (ng t) n) := by rw [Rat.lt_div_iff (by grind)]; grind
 have he2 : (x * expS (ng t) n - Y) / (2 * expS (ng t) n) <= x := by
   rw [aA0 (by grind)]
   have := Rat.mul_nonneg hx hS
   grind
 have h1 := h _ he (by grind) n Y hY
 have e : (x - (x * expS (ng t) n - Y) / (2 * expS (ng t) n)) * expS (ng t) n = x * expS (ng t) n - (x * expS (ng t) n - Y) / 2 := by grind
 rw [e] at h1
 grind
theorem aC0 : expH 0 1 := aCK Rat.le_refl aJe
theorem aDu : expL 0 1 := by have := aCv (t := 0) Rat.le_refl 1; rwa [aFg] at this
theorem aTV {h : Rat} (h0 : 0 <= h) (h1 : h < 1) : expU h (1 / (1 - h)) := by
 have : ∀ n, (1 - h) * expS h n + expT h n <= 1 := by
   intro n
   induction n with
   | zero => rw [show expS h 0 = 0 from rfl, show expT h 0 = 1 from rfl]; grind
   | succ n ih =>
     have e1 : expS h (n + 1) = expS h n + expT h n := rfl
     have e2 : expT h (n + 1) <= h * expT h n := by
       simp only [expT]
       rw [aA0 (aDr n)]
       have := Rat.mul_nonneg (Rat.mul_nonneg h0 (aBC h0 n)) (aEm n)
       grind
     rw [e1]
     grind
 intro n
 rw [aBw (by grind)]
 have h2 := this n
 have h3 := aBC h0 n
 grind
theorem aIn {h : Rat} (h0 : 0 <= h) (h1 : h < 1) : expH h (1 / (1 - h)) := aCK h0 (aTV h0 h1)
theorem aDQ {h : Rat} (h0 : 0 <= h) : expL h (1 + h) := by
 have := aCv h0 2
 have e : expS h 2 = 1 + h := by
   have : ((0 : Nat) : Rat) = 0 := rfl
   simp only [expS, aA5, expT]; grind
 rwa [e] at this
def lnL (a r : Rat) : Prop := expH a r
def lnH (b r : Rat) : Prop := expL b r
theorem aFF {a b r : Rat} (hr : 0 < r) (h1 : lnL a r) (h2 : lnH b r) : a <= b := by
 apply Rat.not_lt.1; intro hlt
 have h3 := aDR (Rat.le_of_lt hr) (by grind) h2 (aDQ (h := a - b) (by grind))
 rw [show b + (a - b) = a by grind] at h3
 have h4 := aAM h3 h1 Rat.le_refl
 have : 0 < r * (a - b) := Rat.mul_pos hr (by grind)
 grind
end
section
theorem aFa {z : Rat} (h : 0 <= z) (n : Nat) : 0 <= z ^ n := Rat.pow_nonneg h
theorem aOh {y z : Rat} (hy : 0 <= y) (h : y <= z) : ∀ n : Nat, y ^ n <= z ^ n
 | 0 => by rw [Rat.pow_zero, Rat.pow_zero]; exact Rat.le_refl
 | n + 1 => by rw [Rat.pow_succ, Rat.pow_succ]; exact aAO (aOh hy h n) h hy (aFa (by grind) n)
theorem aKV {y z : Rat} (hy : 0 <= y) (h : y <= z) : ∀ m : Nat, z ^ (m + 1) - y ^ (m + 1) <= ((m : Rat) + 1) * ((z - y) * z ^ m) /\ ((m : Rat) + 1) * ((z - y) * y ^ m) <= z ^ (m + 1) - y ^ (m + 1)
 | 0 => by
   have : ((0 : Nat) : Rat) = 0 := rfl
   rw [Rat.pow_succ, Rat.pow_succ, Rat.pow_zero, Rat.pow_zero, this]; grind
 | m + 1 => by
   obtain ⟨h1, h2⟩ := aKV hy h m
   have e : ((m + 1 : Nat) : Rat) = (m : Rat) + 1 := by rw [Rat.natCast_add]; rfl
   have hz : 0 <= z := by grind
   have hp := aOh hy h (m + 1)
   have h3 := Rat.mul_le_mul_of_nonneg_left h1 hz
   have h4 := Rat.mul_le_mul_of_nonneg_left h2 hy
   have h5 := Rat.mul_le_mul_of_nonneg_left hp (show 0 <= z - y by grind)
   rw [e, Rat.pow_succ z (m + 1), Rat.pow_succ y (m + 1)]
   rw [Rat.pow_succ z m, Rat.pow_succ y m] at *
   constructor
   · grind
   · grind
def atT (z : Rat) (k : Nat) : Rat := z ^ (2 * k + 1) / ((2 * k : Nat) + 1)
def atS (z : Rat) (n : Nat) : Rat := aA5 (atT z) n
def atB (z : Rat) (n : Nat) : Rat := atS z n + z ^ (2 * n + 1) / (((2 * n : Nat) + 1) * (1 - z * z))
theorem aXa {z : Rat} (h : 0 <= z) (k : Nat) : 0 <= atT z k := aCf (aFa h _) (aDr _)
theorem aOO {z : Rat} (h : 0 <= z) (n : Nat) : 0 <= atS z n := aFs (aXa h) n
theorem aNw (z : Rat) : ∀ n : Nat, aA5 (fun k => z ^ (2 * k)) n * (1 - z * z) + z ^ (2 * n) = 1
 | 0 => by rw [show aA5 (fun k => z ^ (2 * k)) 0 = 0 from rfl, Nat.mul_zero, Rat.pow_zero]; grind
 | n + 1 => by
   have h := aNw z n
   rw [show aA5 (fun k => z ^ (2 * k)) (n + 1) = aA5 (fun k => z ^ (2 * k)) n + z ^ (2 * n) from rfl, show 2 * (n + 1) = 2 * n + 1 + 1 by omega, Rat.pow_succ, Rat.pow_succ]
   grind
theorem aSS {z : Rat} (h0 : 0 <= z) (h1 : z < 1) : z * z < 1 := by
 have := Rat.mul_le_mul_of_nonneg_left (Rat.le_of_lt h1) h0
 grind
theorem aON {y z : Rat} (hy : 0 <= y) (h : y <= z) (k : Nat) : atT z k - atT y k <= (z - y) * z ^ (2 * k) /\ (z - y) * y ^ (2 * k) <= atT z k - atT y k := by
 obtain ⟨h1, h2⟩ := aKV hy h (2 * k)
 have hp := aDr (2 * k)
 unfold atT
 have e : z ^ (2 * k + 1) / (((2 * k : Nat) : Rat) + 1) - y ^ (2 * k + 1) / (((2 * k : Nat) : Rat) + 1) = (z ^ (2 * k + 1) - y ^ (2 * k + 1)) / (((2 * k : Nat) : Rat) + 1) := by
   rw [Rat.div_def, Rat.div_def, Rat.div_def]; grind
 rw [e]
 constructor
 · rw [aA0 hp]; grind
 · rw [aBw hp]; grind
theorem aLK (f g : Nat -> Rat) (n : Nat) : aA5 (fun i => f i - g i) n = aA5 f n - aA5 g n := by
 induction n with
 | zero => simp only [aA5]; grind
 | succ n ih => simp only [aA5]; rw [ih]; grind
theorem aOP {y z : Rat} (hy : 0 <= y) (h : y <= z) (hz : z < 1) (n : Nat) : atS z n - atS y n <= (z - y) / (1 - z * z) := by
 have hq := aSS (show 0 <= z by grind) hz
 have h1 : atS z n - atS y n <= (z - y) * aA5 (fun k => z ^ (2 * k)) n := by
   unfold atS
   rw [<- aLK, <- aDk]
   exact aGU n fun k _ => (aON hy h k).1
 have h2 := aNw z n
 have h3 := aFa (show 0 <= z by grind) (2 * n)
 have h4 : aA5 (fun k => z ^ (2 * k)) n <= 1 / (1 - z * z) := by rw [aBw (by grind)]; grind
 have h5 := Rat.mul_le_mul_of_nonneg_left h4 (show 0 <= z - y by grind)
 have e : (z - y) * (1 / (1 - z * z)) = (z - y) / (1 - z * z) := by rw [Rat.div_def, Rat.div_def]; grind
 rw [e] at h5
 exact Rat.le_trans h1 h5
theorem aUd {y z : Rat} (hy : 0 <= y) (h : y <= z) (hz : z < 1) (n : Nat) : (z - y) / (1 - y * y) <= atB z n - atB y n := by
 have hq := aSS (show 0 <= z by grind) hz
 have hq2 := aSS hy (show y < 1 by grind)
 have h1 : (z - y) * aA5 (fun k => y ^ (2 * k)) n <= atS z n - atS y n := by
   unfold atS
   rw [<- aLK, <- aDk]
   exact aGU n fun k _ => (aON hy h k).2
 have h2 := aNw y n
 have hp := aDr (2 * n)
 have hyz : y * y <= z * z := aAO h h hy (by grind)
 have h3 : z ^ (2 * n + 1) / ((((2 * n : Nat) : Rat) + 1) * (1 - z * z)) >= z ^ (2 * n + 1) / ((((2 * n : Nat) : Rat) + 1) * (1 - y * y)) := by
   show _ <= _
   have hd1 : 0 < (((2 * n : Nat) : Rat) + 1) * (1 - z * z) := Rat.mul_pos hp (by grind)
   have hd2 : 0 < (((2 * n : Nat) : Rat) + 1) * (1 - y * y) := Rat.mul_pos hp (by grind)
   rw [aA0 hd2]
   have e : z ^ (2 * n + 1) / ((((2 * n : Nat) : Rat) + 1) * (1 - z * z)) * ((((2 * n : Nat) : Rat) + 1) * (1 - y * y)) = z ^ (2 * n + 1) * (((((2 * n : Nat) : Rat) + 1) * (1 - y * y)) / ((((2 * n : Nat) : Rat) + 1) * (1 - z * z))) := by
     rw [Rat.div_def, Rat.div_def]; grind
   rw [e]
   have h4 : 1 <= ((((2 * n : Nat) : Rat) + 1) * (1 - y * y)) / ((((2 * n : Nat) : Rat) + 1) * (1 - z * z)) := by
     rw [aBw hd1, Rat.one_mul]
     exact Rat.mul_le_mul_of_nonneg_left (by grind) (Rat.le_of_lt hp)
   have := Rat.mul_le_mul_of_nonneg_left h4 (aFa (show 0 <= z by grind) (2 * n + 1))
   grind
 have h4 : z ^ (2 * n + 1) / ((((2 * n : Nat) : Rat) + 1) * (1 - y * y)) - y ^ (2 * n + 1) / ((((2 * n : Nat) : Rat) + 1) * (1 - y * y)) >= (z - y) * y ^ (2 * n) / (1 - y * y) := by
   show _ <= _
   have hd2 : 0 < (((2 * n : Nat) : Rat) + 1) * (1 - y * y) := Rat.mul_pos hp (by grind)
   have e : z ^ (2 * n + 1) / ((((2 * n : Nat) : Rat) + 1) * (1 - y * y)) - y ^ (2 * n + 1) / ((((2 * n : Nat) : Rat) + 1) * (1 - y * y)) = (z ^ (2 * n + 1) - y ^ (2 * n + 1)) / ((((2 * n : Nat) : Rat) + 1) * (1 - y * y)) := by
     rw [Rat.div_def, Rat.div_def, Rat.div_def]; grind
   rw [e, aBw hd2]
   have h5 := (aKV hy h (2 * n)).2
   have e2 : (z - y) * y ^ (2 * n) / (1 - y * y) * ((((2 * n : Nat) : Rat) + 1) * (1 - y * y)) = (((2 * n : Nat) : Rat) + 1) * ((z - y) * y ^ (2 * n)) := by
     have : 1 - y * y ≠ 0 := by grind
     grind
   rw [e2]; exact h5
 have e3 : (z - y) / (1 - y * y) = (z - y) * aA5 (fun k => y ^ (2 * k)) n + (z - y) * y ^ (2 * n) / (1 - y * y) := by
   have : 1 - y * y ≠ 0 := by grind
   grind
 rw [e3]
 unfold atB
 grind
end
end Go.Proofs.YtgdkokgeldnliaaGreatDoor
