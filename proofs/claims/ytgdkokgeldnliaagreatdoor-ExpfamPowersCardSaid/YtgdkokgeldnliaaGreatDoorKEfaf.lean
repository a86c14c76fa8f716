/- Contracts of functions and plain lemmas that the laws of this seat lean on. -/
import Derived.Test.YtgdkokgeldnliaaGreatDoorKEfaa
import Derived.Test.YtgdkokgeldnliaaGreatDoorKEfab
import Derived.Test.YtgdkokgeldnliaaGreatDoorKEfac
import Derived.Test.YtgdkokgeldnliaaGreatDoorKEfad
import Derived.Test.YtgdkokgeldnliaaGreatDoorKEfae
import Derived.Test.YtgdkokgeldnliaaGreatDoorRows
import Derived.WalkKit
import Derived.WalkSpells
import Derived.WalkLawsBesides
import Derived.Lib.Hide
import Derived.Deep.QuietTactic
import Derived.BigQuiet
import Derived.Test.YtgdkokgeldnliaaGreatDoorShelf
import Derived.Lib.BitFns
import Derived.Lib.ItoaNum
import Derived.Lib.TrailingZeros
import Derived.Deep.DeepCutAuto
import Derived.Deep.CutBlock
import Derived.Laws.AppendOwn
import Derived.Laws.AppendOwnNone
import Derived.Laws.CopyOwn
namespace Go.Proofs.YtgdkokgeldnliaaGreatDoor
set_option linter.unusedSimpArgs false
set_option linter.unusedVariables false
set_option linter.unusedSectionVars false
set_option linter.constructorNameAsVariable false
set_option linter.unnecessarySimpa false
section
def gq (z : Rat) : Rat := (1 + z) / (1 - z)
theorem aKa {z : Rat} (h0 : 0 <= z) (h1 : z < 1) : 0 < gq z := by unfold gq; rw [Rat.lt_div_iff (by grind)]; grind
theorem aWF {a p v w : Rat} (hp : p ≠ 0) (hv : v ≠ 0) (hw : w ≠ 0) : a / p * (1 / (v / w)) = a * w / (p * v) := by
 have h1 : p * v ≠ 0 := fun h => by rcases Rat.mul_eq_zero.1 h with h | h <;> contradiction
 have h2 : v / w ≠ 0 := fun h => by
                                    have : v = v / w * w := by grind
                                    rw [h] at this; grind
 grind
theorem aPy {y u δ : Rat} (hy : 0 <= y) (hδ : 0 <= δ) (hδ2 : δ <= 1 / 8) (hu : u = y + δ) (hu2 : u <= 1 / 2) :
   2 * δ / (1 - u * u) < 1 /\ 0 <= 2 * δ / (1 - u * u) /\ gq y * (1 / (1 - 2 * δ / (1 - u * u))) <= gq u * (1 + 12 * (δ * δ)) := by
 have h1 : u * u <= 1 / 4 := by have := aAO hu2 hu2 (show 0 <= u by grind) (by grind); grind
 have hw : 0 < 1 - u * u := by grind
 have ha : 2 * δ / (1 - u * u) < 1 := by rw [Rat.div_lt_iff hw]; grind
 refine ⟨ha, aCf (by grind) hw, ?_⟩
 have hq1 : 1 / 2 <= 1 - u * u - 2 * δ := by grind
 have hq2 : 1 / 2 <= (1 + u) * (1 - y) := by
   have := aAO (a := 1) (b := 1 + u) (c := 1 / 2) (d := 1 - y) (by grind) (by grind) (by grind) (by grind); grind
 have hQ := aAO hq1 hq2 (by grind) (by grind)
 have hc := Rat.mul_le_mul_of_nonneg_left hQ (Rat.mul_nonneg (show (0 : Rat) <= 12 by grind) (Rat.mul_nonneg hδ hδ))
 have hd := Rat.mul_le_mul_of_nonneg_left (show 2 * (1 + u) <= 3 by grind) (Rat.mul_nonneg hδ hδ)
 have key : (1 + y) * (1 - u) * (1 - u * u) <= (1 + u) * (1 - y) * (1 - u * u - 2 * δ) * (1 + 12 * (δ * δ)) := by
   have e : (1 + y) * (1 - u) * (1 - u * u) = (1 + u) * (1 - y) * (1 - u * u - 2 * δ) + 2 * (1 + u) * (δ * δ) := by subst hu; grind
   rw [e]
   grind
 have e1 : gq y * (1 / (1 - 2 * δ / (1 - u * u))) = (1 + y) * (1 - u * u) / ((1 - y) * (1 - u * u - 2 * δ)) := by
   have n1 : 1 - y ≠ 0 := by grind
   have n2 : 1 - u * u ≠ 0 := by grind
   have n3 : 1 - u * u - 2 * δ ≠ 0 := by grind
   have e : 1 - 2 * δ / (1 - u * u) = (1 - u * u - 2 * δ) / (1 - u * u) := by grind
   rw [e]; unfold gq; exact aWF n1 n3 n2
 rw [e1, aA0 (Rat.mul_pos (by grind) (by grind))]
 have e2 : gq u * (1 + 12 * (δ * δ)) * ((1 - y) * (1 - u * u - 2 * δ)) = (1 + u) * (1 - y) * (1 - u * u - 2 * δ) * (1 + 12 * (δ * δ)) / (1 - u) := by
   have n1 : 1 - u ≠ 0 := by grind
   unfold gq; grind
 rw [e2, aBw (by grind)]
 grind
theorem aMj {y u δ : Rat} (hy : 0 <= y) (hδ : 0 <= δ) (hu : u = y + δ) (hu2 : u <= 1 / 2) :
   gq u * (1 - 12 * (δ * δ)) <= gq y * (1 + 2 * δ / (1 - y * y)) := by
 have h1 : y * y <= 1 / 4 := by have := aAO (show y <= 1 / 2 by grind) (show y <= 1 / 2 by grind) hy (by grind); grind
 have hW := aAO (show 3 / 4 <= 1 - y * y by grind) (show 3 / 4 <= 1 - y * y by grind) (by grind) (by grind)
 have h2 : 0 <= δ * (1 - y) * (1 - y * y) := Rat.mul_nonneg (Rat.mul_nonneg hδ (by grind)) (by grind)
 have e0 : (1 + u) * (1 - y) * (1 - y * y) = (1 - y * y) * (1 - y * y) + δ * (1 - y) * (1 - y * y) := by subst hu; grind
 have hc := Rat.mul_le_mul_of_nonneg_left (show 9 / 16 <= (1 + u) * (1 - y) * (1 - y * y) by grind) (Rat.mul_nonneg (show (0 : Rat) <= 12 by grind) (Rat.mul_nonneg hδ hδ))
 have hd := Rat.mul_le_mul_of_nonneg_left (show 2 * (1 + y) <= 3 by grind) (Rat.mul_nonneg hδ hδ)
 have key : (1 + u) * (1 - y) * (1 - y * y) * (1 - 12 * (δ * δ)) <= (1 + y) * (1 - u) * (1 - y * y + 2 * δ) := by
   have e : (1 + y) * (1 - u) * (1 - y * y + 2 * δ) = (1 + u) * (1 - y) * (1 - y * y) - 2 * (1 + y) * (δ * δ) := by subst hu; grind
   rw [e]
   generalize (1 + u) * (1 - y) * (1 - y * y) = X at *
   have hdd := Rat.mul_nonneg hδ hδ
   clear e e0 hu h2 hW
   grind
 have n1 : 1 - u ≠ 0 := by grind
 have n2 : 1 - y ≠ 0 := by grind
 have n3 : 1 - y * y ≠ 0 := by grind
 have e1 : gq y * (1 + 2 * δ / (1 - y * y)) = (1 + y) * (1 - y * y + 2 * δ) / ((1 - y) * (1 - y * y)) := by unfold gq; grind
 rw [e1, aBw (Rat.mul_pos (by grind) (by grind))]
 have e2 : gq u * (1 - 12 * (δ * δ)) * ((1 - y) * (1 - y * y)) = (1 + u) * (1 - y) * (1 - y * y) * (1 - 12 * (δ * δ)) / (1 - u) := by unfold gq; grind
 rw [e2, aA0 (by grind)]
 grind
theorem aN7 {δ : Rat} (hδ : 0 <= δ) (hδ2 : δ <= 1 / 8) (n : Nat) : ∀ i : Nat, δ * i <= 1 / 2 -> 12 * (δ * δ) * i < 1 -> expH (2 * atS (δ * i) n) (gq (δ * i) / (1 - 12 * (δ * δ) * i))
 | 0, _, _ => by
   have e0 : δ * ((0 : Nat) : Rat) = 0 := by have : ((0 : Nat) : Rat) = 0 := rfl; grind
   have e1 : 12 * (δ * δ) * ((0 : Nat) : Rat) = 0 := by have : ((0 : Nat) : Rat) = 0 := rfl; grind
   rw [e0, e1]
   have e2 : atS 0 n = 0 := by
     have h := aOO (z := 0) Rat.le_refl n
     have h2 : ∀ k, atT 0 k = 0 := fun k => by unfold atT; rw [Rat.pow_succ]; grind
     unfold atS
     induction n with
     | zero => rfl
     | succ n ih => simp only [aA5]; rw [ih (aOO (z := 0) Rat.le_refl n), h2]; grind
   have e3 : gq 0 / (1 - 0) = 1 := by unfold gq; grind
   rw [e2, e3, Rat.mul_zero]
   exact aC0
 | i + 1, h1, h2 => by
   have e : ((i + 1 : Nat) : Rat) = (i : Rat) + 1 := by rw [Rat.natCast_add]; rfl
   have hi := aEm i
   have hi2 := Rat.mul_nonneg hδ hi
   have hc := Rat.mul_nonneg (show (0 : Rat) <= 12 by grind) (Rat.mul_nonneg hδ hδ)
   have hci := Rat.mul_nonneg hc hi
   rw [e] at h1 h2 ⊢
   have ih := aN7 hδ hδ2 n i (by grind) (by grind)
   obtain ⟨g1, g2, g3⟩ := aPy (y := δ * i) (u := δ * (i + 1)) hi2 hδ hδ2 (by grind) h1
   have g4 := aOP (y := δ * i) (z := δ * (i + 1)) hi2 (by grind) (by grind) n
   have e5 : δ * ((i : Rat) + 1) - δ * i = δ := by grind
   rw [e5] at g4
   have e6 : 2 * (δ / (1 - δ * ((i : Rat) + 1) * (δ * ((i : Rat) + 1)))) = 2 * δ / (1 - δ * ((i : Rat) + 1) * (δ * ((i : Rat) + 1))) := by rw [Rat.div_def, Rat.div_def]; grind
   have g5 := aBs (aIn g2 g1) (s := 2 * atS (δ * ((i : Rat) + 1)) n - 2 * atS (δ * i) n) (by grind) Rat.le_refl
   have g6 := aEb ih g5
   refine aBs g6 (by grind) ?_
   have p1 : 0 < 1 - 12 * (δ * δ) * i := by grind
   have p2 : 0 < 1 - 12 * (δ * δ) * (i + 1) := by grind
   have p3 := aKa (z := δ * (i + 1)) (by grind) (by grind)
   generalize 1 / (1 - 2 * δ / (1 - δ * ((i : Rat) + 1) * (δ * ((i : Rat) + 1)))) = q at *
   generalize gq (δ * i) = a at *
   generalize gq (δ * (i + 1)) = b at *
   generalize 12 * (δ * δ) = c at *
   rw [aBw p2]
   have e7 : a / (1 - c * i) * q * (1 - c * (i + 1)) = a * q * (1 - c * (i + 1)) / (1 - c * i) := by rw [Rat.div_def, Rat.div_def]; grind
   rw [e7, aA0 p1]
   have g7 := Rat.mul_le_mul_of_nonneg_right g3 (Rat.le_of_lt p2)
   refine Rat.le_trans g7 ?_
   have g8 : (1 + c) * (1 - c * (i + 1)) <= 1 - c * i := by
     have := Rat.mul_nonneg hc (show 0 <= c * (i + 1) by grind)
     grind
   have := Rat.mul_le_mul_of_nonneg_left g8 (Rat.le_of_lt p3)
   grind
theorem aJT {δ : Rat} (hδ : 0 <= δ) (n : Nat) : ∀ i : Nat, δ * i <= 1 / 2 -> 12 * (δ * δ) * i < 1 -> expL (2 * atB (δ * i) n) (gq (δ * i) * (1 - 12 * (δ * δ) * i))
 | 0, _, _ => by
   have e0 : δ * ((0 : Nat) : Rat) = 0 := by have : ((0 : Nat) : Rat) = 0 := rfl; grind
   have e1 : 12 * (δ * δ) * ((0 : Nat) : Rat) = 0 := by have : ((0 : Nat) : Rat) = 0 := rfl; grind
   rw [e0, e1]
   have h : 0 <= atB 0 n := by
     have h := aOO (z := 0) Rat.le_refl n
     unfold atB
     rw [Rat.pow_succ]; grind
   have e3 : gq 0 * (1 - 0) = 1 := by unfold gq; grind
   rw [e3]
   exact aAV aDu (by grind) Rat.le_refl
 | i + 1, h1, h2 => by
   have e : ((i + 1 : Nat) : Rat) = (i : Rat) + 1 := by rw [Rat.natCast_add]; rfl
   have hi := aEm i
   have hi2 := Rat.mul_nonneg hδ hi
   have hc := Rat.mul_nonneg (show (0 : Rat) <= 12 by grind) (Rat.mul_nonneg hδ hδ)
   have hci := Rat.mul_nonneg hc hi
   rw [e] at h1 h2 ⊢
   have ih := aJT hδ n i (by grind) (by grind)
   have g3 := aMj (y := δ * i) (u := δ * (i + 1)) hi2 hδ (by grind) h1
   have g4 := aUd (y := δ * i) (z := δ * (i + 1)) hi2 (by grind) (by grind) n
   have e5 : δ * ((i : Rat) + 1) - δ * i = δ := by grind
   rw [e5] at g4
   have hs := aSS hi2 (show δ * (i : Rat) < 1 by grind)
   have e6 : 2 * (δ / (1 - δ * (i : Rat) * (δ * (i : Rat)))) = 2 * δ / (1 - δ * (i : Rat) * (δ * (i : Rat))) := by rw [Rat.div_def, Rat.div_def]; grind
   have g2 : 0 <= 2 * δ / (1 - δ * (i : Rat) * (δ * (i : Rat))) := aCf (by grind) (by grind)
   have g5 := aAV (aDQ g2) (t := 2 * atB (δ * ((i : Rat) + 1)) n - 2 * atB (δ * i) n) (by grind) Rat.le_refl
   have p1 : 0 < 1 - 12 * (δ * δ) * i := by grind
   have p3 := aKa (z := δ * (i + 1)) (by grind) (by grind)
   have p4 := aKa (z := δ * i) hi2 (by grind)
   have g6 := aDR (Rat.mul_nonneg (Rat.le_of_lt p4) (Rat.le_of_lt p1)) (by grind) ih g5
   refine aAV g6 (by grind) ?_
   generalize 2 * δ / (1 - δ * (i : Rat) * (δ * (i : Rat))) = q at *
   generalize gq (δ * i) = a at *
   generalize gq (δ * (i + 1)) = b at *
   generalize 12 * (δ * δ) = c at *
   have g7 := Rat.mul_le_mul_of_nonneg_right g3 (Rat.le_of_lt p1)
   have g8 : 1 - c * (i + 1) <= (1 - c) * (1 - c * i) := by
     have := Rat.mul_nonneg hc hci
     grind
   have := Rat.mul_le_mul_of_nonneg_left g8 (Rat.le_of_lt p3)
   grind
theorem aLX (a : Rat) : ∃ n : Nat, a <= (n : Rat) /\ 8 <= n := by
 obtain ⟨n, hn⟩ := aQB a
 exact ⟨n + 8, by rw [Rat.natCast_add]; have := aEm 8; grind, by omega⟩
theorem aJV {z : Rat} (h0 : 0 <= z) (h1 : z <= 1 / 2) {N : Nat} (hN : 8 <= N) : 0 <= z / N /\ z / N <= 1 / 8 /\ z / N * N = z /\ 12 * (z / N * (z / N)) * N <= 3 / N /\ (3 : Rat) / N <= 1 / 2 := by
 have hN8 : (8 : Rat) <= (N : Rat) := by
   have := Rat.natCast_le_natCast.2 hN; exact this
 have hN0 : (0 : Rat) < N := by grind
 have e : z / N * N = z := by grind
 refine ⟨aCf h0 hN0, by rw [aA0 hN0]; grind, e, ?_, by rw [aA0 hN0]; grind⟩
 have e2 : 12 * (z / N * (z / N)) * N = 12 * (z * z) / N := by grind
 have h2 : z * z <= 1 / 4 := by have := aAO h1 h1 h0 (by grind); grind
 rw [e2, aA0 hN0]
 have e3 : (3 : Rat) / N * N = 3 := by grind
 rw [e3]; grind
theorem aW8 {z : Rat} (h0 : 0 <= z) (h1 : z <= 1 / 2) (n : Nat) : lnL (2 * atS z n) (gq z) := by
 refine aPC fun ε hε => ?_
 obtain ⟨N, hN, hN8⟩ := aLX (18 / ε)
 obtain ⟨a1, a2, a3, a4, a5⟩ := aJV h0 h1 hN8
 have hN0 : (0 : Rat) < N := by have : (8 : Rat) <= (N : Rat) := Rat.natCast_le_natCast.2 hN8; grind
 have h := aN7 a1 a2 n N (by rw [a3]; exact h1) (by grind)
 rw [a3] at h
 refine aBs h Rat.le_refl ?_
 generalize 12 * (z / N * (z / N)) * N = c at *
 rw [aA0 (by grind)]
 rw [aA0 hε] at hN
 have hg : gq z <= 3 := by unfold gq; rw [aA0 (by grind)]; grind
 have h3 : (3 : Rat) / N * N = 3 := by grind
 have h5 : c * N <= 3 := by
   have := Rat.mul_le_mul_of_nonneg_right a4 (Rat.le_of_lt hN0); grind
 have h6 : 6 * c <= ε := by
   have h7 : 6 * c * N <= ε * N := by grind
   exact Rat.le_of_mul_le_mul_right h7 hN0
 have hg0 := aKa h0 (show z < 1 by grind)
 by_cases hc : 0 <= c
 · have h8 := Rat.mul_le_mul_of_nonneg_right hg hc
   have h9 := Rat.mul_le_mul_of_nonneg_left (show 1 / 2 <= 1 - c by grind) (Rat.le_of_lt hε)
   grind
 · have h8 := Rat.mul_le_mul_of_nonneg_left (show c <= 0 by grind) (Rat.le_of_lt hg0)
   have h9 := Rat.mul_le_mul_of_nonneg_left (show 0 <= 1 - c by grind) (Rat.le_of_lt hε)
   grind
theorem aW9 {z : Rat} (h0 : 0 <= z) (h1 : z <= 1 / 2) (n : Nat) : lnH (2 * atB z n) (gq z) := by
 refine aPB fun ε hε => ?_
 obtain ⟨N, hN, hN8⟩ := aLX (18 / ε)
 obtain ⟨a1, a2, a3, a4, a5⟩ := aJV h0 h1 hN8
 have hN0 : (0 : Rat) < N := by have : (8 : Rat) <= (N : Rat) := Rat.natCast_le_natCast.2 hN8; grind
 have h := aJT a1 n N (by rw [a3]; exact h1) (by grind)
 rw [a3] at h
 refine aAV h Rat.le_refl ?_
 generalize 12 * (z / N * (z / N)) * N = c at *
 rw [aA0 hε] at hN
 have hg : gq z <= 3 := by unfold gq; rw [aA0 (by grind)]; grind
 have h5 : c * N <= 3 := by
   have := Rat.mul_le_mul_of_nonneg_right a4 (Rat.le_of_lt hN0)
   have h3 : (3 : Rat) / N * N = 3 := by grind
   grind
 have h6 : 6 * c <= ε := by
   have h7 : 6 * c * N <= ε * N := by grind
   exact Rat.le_of_mul_le_mul_right h7 hN0
 have hg0 := aKa h0 (show z < 1 by grind)
 by_cases hc : 0 <= c
 · have h8 := Rat.mul_le_mul_of_nonneg_right hg hc
   grind
 · have h8 := Rat.mul_le_mul_of_nonneg_left (show c <= 0 by grind) (Rat.le_of_lt hg0)
   grind
end
section
structure Fx where
 a : Nat
 e : Nat
def W64 : Nat := 18446744073709551616
def Fx.enc (x : Fx) (q : Nat) (lo hi : Rat) : Prop := (x.a : Rat) <= lo * (2 ^ q : Nat) /\ hi * (2 ^ q : Nat) <= (x.a : Rat) + (x.e : Rat)
def oneF (q : Nat) : Fx := ⟨2 ^ q, 0⟩
def addF (x y : Fx) : Fx := ⟨x.a + y.a, (x.e + y.e) % W64⟩
def subF (x y : Fx) : Fx := ⟨x.a - (y.a + y.e), (x.e + y.e) % W64⟩
def aBJ (x : Fx) (n : Nat) : Fx := ⟨x.a, (x.e + n) % W64⟩
def aH7 (a b : Nat) : Fx := ⟨a, (b - a) % W64⟩
def aFo (a b : Nat) : Nat := a / b + (if a % b = 0 then 0 else 1)
def mulF (x y : Fx) (q : Nat) : Fx := aH7 (x.a * y.a / 2 ^ q) (aFo ((x.a + x.e) * (y.a + y.e)) (2 ^ q))
def aBx (x : Fx) (d : Nat) : Fx := ⟨x.a / d, (x.e / d + 2) % W64⟩
def aDU (x : Fx) (n : Nat) : Fx := ⟨x.a * n, x.e * n % W64⟩
def aBt (x : Fx) (q : Nat) : Iv := ⟨aAL false x.a (-(q : Int)), aAL false (x.a + x.e) (-(q : Int))⟩
theorem aCS (q : Nat) : (0 : Rat) < ((2 ^ q : Nat) : Rat) := Rat.natCast_pos.2 (Nat.pow_pos (by decide))
theorem aQV (q : Nat) : (oneF q).enc q 1 1 := by
 unfold Fx.enc oneF
 have : ((0 : Nat) : Rat) = 0 := rfl
 dsimp only; constructor <;> grind
theorem aFU {x y : Fx} {q : Nat} {a b c d : Rat} (he : x.e + y.e < W64) (h1 : x.enc q a b) (h2 : y.enc q c d) : (addF x y).enc q (a + c) (b + d) := by
 unfold Fx.enc addF at *
 dsimp only
 rw [Nat.mod_eq_of_lt he, Rat.natCast_add, Rat.natCast_add]
 constructor <;> grind
theorem aQj {x y : Fx} {q : Nat} {a b c d : Rat} (he : x.e + y.e < W64) (hle : y.a + y.e <= x.a) (h1 : x.enc q a b) (h2 : y.enc q c d) : (subF x y).enc q (a - d) (b - c) := by
 unfold Fx.enc subF at *
 dsimp only
 rw [Nat.mod_eq_of_lt he, aFb hle, Rat.natCast_add, Rat.natCast_add]
 constructor <;> grind
theorem aIx {x : Fx} {q n : Nat} {a b c : Rat} (he : x.e + n < W64) (h1 : x.enc q a b) (hc : c * (2 ^ q : Nat) <= (n : Rat)) : (aBJ x n).enc q a (b + c) := by
 unfold Fx.enc aBJ at *
 dsimp only
 rw [Nat.mod_eq_of_lt he, Rat.natCast_add]
 constructor <;> grind
theorem aLm {x : Fx} {q : Nat} {a b c d : Rat} (h : x.enc q a b) (h1 : a <= c) (h2 : d <= b) : x.enc q c d := by
 unfold Fx.enc at *
 have hp := aCS q
 have := Rat.mul_le_mul_of_nonneg_right h1 (Rat.le_of_lt hp)
 have := Rat.mul_le_mul_of_nonneg_right h2 (Rat.le_of_lt hp)
 constructor <;> grind
theorem aLS {x : Fx} {q d : Nat} {a b : Rat} (hd : 0 < d) (he : x.e / d + 2 < W64) (h : x.enc q a b) : (aBx x d).enc q (a / d) (b / d) := by
 unfold Fx.enc aBx at *
 dsimp only
 have hd0 : (0 : Rat) < (d : Rat) := Rat.natCast_pos.2 hd
 have h1 := aCY x.a d hd
 have h2 := aCY x.e d hd
 rw [Nat.mod_eq_of_lt he, Rat.natCast_add]
 have e2 : ((2 : Nat) : Rat) = 2 := rfl
 have ea : a / d * ((2 ^ q : Nat) : Rat) = a * ((2 ^ q : Nat) : Rat) / d := by rw [Rat.div_def, Rat.div_def]; grind
 have eb : b / d * ((2 ^ q : Nat) : Rat) = b * ((2 ^ q : Nat) : Rat) / d := by rw [Rat.div_def, Rat.div_def]; grind
 rw [ea, eb, aBw hd0, aA0 hd0, e2]
 generalize ((x.a / d : Nat) : Rat) = A at *
 generalize ((x.e / d : Nat) : Rat) = E at *
 constructor <;> grind
theorem aIk {x : Fx} {q n : Nat} {a b : Rat} (he : x.e * n < W64) (h : x.enc q a b) : (aDU x n).enc q (a * n) (b * n) := by
 unfold Fx.enc aDU at *
 dsimp only
 rw [Nat.mod_eq_of_lt he, Rat.natCast_mul, Rat.natCast_mul]
 have hn : (0 : Rat) <= (n : Rat) := Rat.natCast_nonneg
 have h1 := Rat.mul_le_mul_of_nonneg_right h.1 hn
 have h2 := Rat.mul_le_mul_of_nonneg_right h.2 hn
 constructor <;> grind
theorem aV9 (a b : Nat) (hb : 0 < b) : (a : Rat) <= (aFo a b : Rat) * b /\ (aFo a b : Rat) * b < (a : Rat) + b := by
 unfold aFo
 have h1 := Nat.div_add_mod a b
 have h2 := Nat.mod_lt a hb
 rw [<- Rat.natCast_mul]
 split
 · rename_i h
   rw [h] at h1
   constructor
   · exact Rat.natCast_le_natCast.2 (by rw [Nat.add_zero, Nat.mul_comm]; omega)
   · rw [<- Rat.natCast_add]; exact Rat.natCast_lt_natCast.2 (by rw [Nat.add_zero, Nat.mul_comm]; omega)
 · constructor
   · exact Rat.natCast_le_natCast.2 (by rw [Nat.add_mul, Nat.mul_comm]; omega)
   · rw [<- Rat.natCast_add]; exact Rat.natCast_lt_natCast.2 (by rw [Nat.add_mul, Nat.mul_comm]; omega)
theorem aV8 {a b c : Nat} (h : a <= c) : a / b <= aFo c b := by
 unfold aFo
 have := Nat.div_le_div_right (c := b) h
 omega
theorem aVB {x y : Fx} {q : Nat} {a b c d : Rat} (he : aFo ((x.a + x.e) * (y.a + y.e)) (2 ^ q) - x.a * y.a / 2 ^ q < W64) (h1 : x.enc q a b) (h2 : y.enc q c d)
   (ha : 0 <= a) (hd : 0 <= d) : (mulF x y q).enc q (a * c) (b * d) := by
 have hp := aCS q
 have hpn : 0 < 2 ^ q := Nat.pow_pos (by decide)
 have hle : x.a * y.a / 2 ^ q <= aFo ((x.a + x.e) * (y.a + y.e)) (2 ^ q) := aV8 (Nat.mul_le_mul (by omega) (by omega))
 unfold Fx.enc mulF aH7 at *
 dsimp only
 rw [Nat.mod_eq_of_lt he, aFb hle]
 have g1 := aCY (x.a * y.a) (2 ^ q) hpn
 have g2 := aV9 ((x.a + x.e) * (y.a + y.e)) (2 ^ q) hpn
 rw [Rat.natCast_mul] at g1
 rw [Rat.natCast_mul, Rat.natCast_add, Rat.natCast_add] at g2
 have k1 := aAO h1.1 h2.1 Rat.natCast_nonneg (Rat.mul_nonneg ha (Rat.le_of_lt hp))
 have k2 := aAO h1.2 h2.2 (Rat.mul_nonneg hd (Rat.le_of_lt hp)) (Rat.add_nonneg Rat.natCast_nonneg Rat.natCast_nonneg)
 generalize ((x.a * y.a / 2 ^ q : Nat) : Rat) = L at *
 generalize ((aFo ((x.a + x.e) * (y.a + y.e)) (2 ^ q) : Nat) : Rat) = H at *
 generalize ((2 ^ q : Nat) : Rat) = P at *
 constructor
 · refine Rat.le_of_mul_le_mul_right ?_ hp
   grind
 · refine Rat.le_of_mul_le_mul_right (c := P) ?_ hp
   grind
theorem aOt {x : Fx} {q : Nat} {a b : Rat} (h : x.enc q a b) : (aBt x q).lo.v <= a /\ b <= (aBt x q).hi.v := by
 have hp := aAz (-(q : Int))
 have e := aDA (q : Int)
 rw [aBE] at e
 unfold Fx.enc at h
 unfold aBt
 rw [aCy, aCy]
 have e1 : sg false = 1 := rfl
 have h1 := Rat.mul_le_mul_of_nonneg_right h.1 (Rat.le_of_lt hp)
 have h2 := Rat.mul_le_mul_of_nonneg_right h.2 (Rat.le_of_lt hp)
 have e2 : ∀ r : Rat, r * ((2 ^ q : Nat) : Rat) * p2 (-(q : Int)) = r := fun r => by
   rw [Rat.mul_assoc, Rat.mul_comm _ (p2 _), e, Rat.mul_one]
 rw [e2] at h1 h2
 rw [e1, Rat.natCast_add]
 constructor <;> grind
def aDa (d : D) : Nat := d.m * 2 ^ d.e.toNat
def aJM (v : Iv) (q : Nat) : Fx := aH7 (aDa (aBm (aAs v.lo q))) (aDa (negD (aBm (negD (aAs v.hi q)))))
theorem aKw {d : D} (h : 0 <= d.e) (h2 : 0 <= d.v) : (aDa d : Rat) = d.v := by
 unfold aDa
 rw [Rat.natCast_mul, aEC h]
 have : d.v = d.av := by
   rw [v_av]
   by_cases h0 : d.m = 0
   · have : d.av = 0 := by unfold D.av; rw [h0]; have : ((0 : Nat) : Rat) = 0 := rfl; grind
     rw [this]; grind
   · have hn : d.neg = false := by
       cases hn : d.neg with
       | false => rfl
       | true => have := (aB0 h0).1 hn; grind
     rw [hn]; have : sg false = 1 := rfl; grind
 rw [this]; rfl
theorem aWM {d : D} (h : d.canon) : (negD d).e = d.e := by
 unfold negD aAL
 rcases h with h | ⟨h1, h2, h3⟩
 · exact aOw h
 · show fExp _ _ = _; unfold fExp; rw [h1, h3]; rfl
theorem aTD {v : Iv} {q : Nat} {x : Rat} (h : v.has x) (h0 : 0 <= v.lo.v) (hw : (v.hi.v - v.lo.v) * (2 ^ q : Nat) < 18446744073709551614) :
   (aJM v q).enc q x x /\ ((aJM v q).e : Rat) < (v.hi.v - v.lo.v) * (2 ^ q : Nat) + 2 := by
 have hp := aCS q
 have s1 : (aAs v.lo q).v = v.lo.v * ((2 ^ q : Nat) : Rat) := by rw [aE6, aBE]
 have s2 : (aAs v.hi q).v = v.hi.v * ((2 ^ q : Nat) : Rat) := by rw [aE6, aBE]
 obtain ⟨c1, e1, f1, g1⟩ := aHC (aAs v.lo q)
 obtain ⟨c2, e2, f2, g2⟩ := aHC (negD (aAs v.hi q))
 rw [aGj, s2] at f2 g2
 rw [s1] at f1 g1
 have l0 : 0 <= v.lo.v * ((2 ^ q : Nat) : Rat) := Rat.mul_nonneg h0 (Rat.le_of_lt hp)
 have hlh := Rat.mul_le_mul_of_nonneg_right h.1 (Rat.le_of_lt hp)
 have hhh := Rat.mul_le_mul_of_nonneg_right h.2 (Rat.le_of_lt hp)
 have w1 : ∃ n : Int, (aBm (aAs v.lo q)).v = (n : Rat) := by
   refine ⟨(if (aBm (aAs v.lo q)).neg then -1 else 1) * ((aBm (aAs v.lo q)).m * 2 ^ (aBm (aAs v.lo q)).e.toNat : Nat), ?_⟩
   rw [Rat.intCast_mul, Rat.intCast_natCast, Rat.natCast_mul, aEC e1]
   unfold D.v sg
   split <;> grind
 obtain ⟨n, hn⟩ := w1
 have hn0 : 0 <= (aBm (aAs v.lo q)).v := by
   rw [hn] at g1 ⊢
   have : (0 : Rat) < ((n + 1 : Int) : Rat) := by rw [Rat.intCast_add]; have : ((1 : Int) : Rat) = 1 := rfl; grind
   have := Rat.intCast_pos.1 this
   exact Rat.intCast_nonneg.2 (by omega)
 have hv2 : (negD (aBm (negD (aAs v.hi q)))).v = -(aBm (negD (aAs v.hi q))).v := aGj _
 have a1 := aKw e1 hn0
 have a2 := aKw (d := negD (aBm (negD (aAs v.hi q)))) (by rw [aWM c2]; exact e2) (by rw [hv2]; grind)
 rw [hv2] at a2
 generalize hL : aDa (aBm (aAs v.lo q)) = L at *
 generalize hH : aDa (negD (aBm (negD (aAs v.hi q)))) = H at *
 have hLH : L <= H := by
   apply Rat.natCast_le_natCast.1
   grind
 have hd : H - L < W64 := by
   have : ((H - L : Nat) : Rat) < (18446744073709551616 : Rat) := by rw [aFb hLH]; grind
   exact Rat.natCast_lt_natCast.1 (by exact this)
 unfold aJM aH7 Fx.enc
 rw [hL, hH]
 dsimp only
 rw [Nat.mod_eq_of_lt hd, aFb hLH]
 refine ⟨⟨?_, ?_⟩, ?_⟩ <;> grind
end
section
def evF (T : Nat -> Fx) : Nat -> Fx
 | 0 => ⟨0, 0⟩
 | k + 1 => if k % 2 = 0 then addF (evF T k) (T k) else evF T k
def odF (T : Nat -> Fx) : Nat -> Fx
 | 0 => ⟨0, 0⟩
 | k + 1 => if k % 2 = 0 then odF T k else addF (odF T k) (T k)
theorem aOA {T : Nat -> Fx} {t : Nat -> Rat} {q B : Nat} (N : Nat) (hB : ∀ j, j < N -> (T j).e <= B) (hN : N * B < W64) (h : ∀ j, j < N -> (T j).enc q (t j) (t j)) :
   ∀ k, k <= N -> ∃ a b : Rat, (evF T k).enc q a a /\ (odF T k).enc q b b /\ a + b = aA5 t k /\ (evF T k).e + (odF T k).e <= k * B
 | 0, _ => by
   have z : ((0 : Nat) : Rat) = 0 := rfl
   refine ⟨0, 0, ?_, ?_, ?_, ?_⟩
   · unfold Fx.enc evF; dsimp only; constructor <;> grind
   · unfold Fx.enc odF; dsimp only; constructor <;> grind
   · simp only [aA5]; grind
   · simp [evF, odF]
 | k + 1, hk => by
   obtain ⟨a, b, h1, h2, h3, h4⟩ := aOA N hB hN h k (by omega)
   have hb := hB k (by omega)
   have ht := h k (by omega)
   have hm : (k + 1) * B <= N * B := Nat.mul_le_mul_right B hk
   rw [Nat.add_mul, Nat.one_mul] at hm
   have e : aA5 t (k + 1) = aA5 t k + t k := rfl
   by_cases hp : k % 2 = 0
   · refine ⟨a + t k, b, ?_, ?_, by rw [e, <- h3]; grind, ?_⟩
     · rw [evF, if_pos hp]; exact aFU (by omega) h1 ht
     · rw [odF, if_pos hp]; exact h2
     · rw [evF, odF, if_pos hp, if_pos hp]; unfold addF; dsimp only
       have := Nat.mod_le ((evF T k).e + (T k).e) W64
       rw [Nat.add_mul, Nat.one_mul]; omega
   · refine ⟨a, b + t k, ?_, ?_, by rw [e, <- h3]; grind, ?_⟩
     · rw [evF, if_neg hp]; exact h1
     · rw [odF, if_neg hp]; exact aFU (by omega) h2 ht
     · rw [evF, odF, if_neg hp, if_neg hp]; unfold addF; dsimp only
       have := Nat.mod_le ((odF T k).e + (T k).e) W64
       rw [Nat.add_mul, Nat.one_mul]; omega
def sumF (T : Nat -> Fx) (K : Nat) : Fx := addF (aBJ (evF T K) ((T K).e + 4)) (aBJ (odF T K) ((T K).e + 4))
theorem aQf {T : Nat -> Fx} {t : Nat -> Rat} {q B K : Nat} (hB : ∀ j, j <= K -> (T j).e <= B) (hN : (K + 2) * B + 8 < W64) (h : ∀ j, j <= K -> (T j).enc q (t j) (t j)) (h0 : (T K).a = 0) :
   (sumF T K).enc q (aA5 t K) (aA5 t K + 2 * t K + 8 / (2 ^ q : Nat)) /\ (sumF T K).e <= (K + 2) * B + 8 := by
 have e2 : (K + 2) * B = K * B + B + B := by rw [Nat.add_mul]; omega
 obtain ⟨a, b, h1, h2, h3, h4⟩ := aOA K (fun j hj => hB j (by omega)) (by omega) (fun j hj => h j (by omega)) K (Nat.le_refl _)
 have hb := hB K (Nat.le_refl _)
 have ht := (h K (Nat.le_refl _)).2
 rw [h0] at ht
 have hp := aCS q
 have z : ((0 : Nat) : Rat) = 0 := rfl
 have hc : (t K + 4 / ((2 ^ q : Nat) : Rat)) * ((2 ^ q : Nat) : Rat) <= (((T K).e + 4 : Nat) : Rat) := by
   rw [Rat.natCast_add]
   have : ((4 : Nat) : Rat) = 4 := rfl
   have e : (t K + 4 / ((2 ^ q : Nat) : Rat)) * ((2 ^ q : Nat) : Rat) = t K * ((2 ^ q : Nat) : Rat) + 4 := by grind
   rw [e]; grind
 have g1 := aIx (n := (T K).e + 4) (by omega) h1 hc
 have g2 := aIx (n := (T K).e + 4) (by omega) h2 hc
 have l1 : (aBJ (evF T K) ((T K).e + 4)).e <= (evF T K).e + ((T K).e + 4) := Nat.mod_le _ _
 have l2 : (aBJ (odF T K) ((T K).e + 4)).e <= (odF T K).e + ((T K).e + 4) := Nat.mod_le _ _
 have g3 := aFU (by omega) g1 g2
 refine ⟨aLm g3 ?_ ?_, ?_⟩
 · rw [h3]; exact Rat.le_refl
 · have : (8 : Rat) / ((2 ^ q : Nat) : Rat) = 4 / ((2 ^ q : Nat) : Rat) + 4 / ((2 ^ q : Nat) : Rat) := by rw [Rat.div_def, Rat.div_def]; grind
   rw [this, <- h3]; grind
 · unfold sumF addF; dsimp only
   have := Nat.mod_le ((aBJ (evF T K) ((T K).e + 4)).e + (aBJ (odF T K) ((T K).e + 4)).e) W64
   omega
def aCh (x : Fx) (w more : Nat) : Nat -> Fx
 | 0 => oneF w
 | k + 1 => aBx (mulF (aCh x w more k) x w) (k + 1 + more)
def aA8 (x : Rat) (more : Nat) : Nat -> Rat
 | 0 => 1
 | k + 1 => aA8 x more k * x / ((k + 1 + more : Nat) : Rat)
theorem aER {x : Rat} (h : 0 <= x) (more : Nat) : ∀ k, 0 <= aA8 x more k
 | 0 => by simp only [aA8]; grind
 | k + 1 => aCf (Rat.mul_nonneg (aER h more k) h) (Rat.natCast_pos.2 (by omega))
theorem aEx {x : Fx} {r : Rat} {w more : Nat} (hw : 16 <= w) (hr0 : 0 <= r) (hx : x.enc w r r) (hxa : x.a * 256 <= 2 ^ w) (hxe : x.e <= 1) :
   ∀ k, (aCh x w more k).enc w (aA8 r more k) (aA8 r more k) /\ (aCh x w more k).a * 256 ^ k <= 2 ^ w /\ (aCh x w more k).e <= 8
 | 0 => ⟨aQV w, by simp [aCh, oneF], by simp [aCh, oneF]⟩
 | k + 1 => by
   obtain ⟨h1, h2, h3⟩ := aEx (more := more) hw hr0 hx hxa hxe k
   have hp : 0 < 2 ^ w := Nat.pow_pos (by decide)
   have hP : 65536 <= 2 ^ w := by have := Nat.pow_le_pow_right (show 0 < 2 by decide) hw; exact this
   rw [aCh]
   generalize hT : aCh x w more k = y at *
   have hya : y.a <= 2 ^ w := by
     have : 1 <= 256 ^ k := Nat.pow_pos (by decide)
     have := Nat.mul_le_mul_left y.a this
     omega
   have hm : aFo ((y.a + y.e) * (x.a + x.e)) (2 ^ w) - y.a * x.a / 2 ^ w <= 4 := by
     have e1 : (y.a + y.e) * (x.a + x.e) <= y.a * x.a + 2 * 2 ^ w := by
       have a1 : y.a * x.e <= 2 ^ w * 1 := Nat.mul_le_mul hya hxe
       have a2 : y.e * x.a <= 8 * x.a := Nat.mul_le_mul_right _ h3
       have a3 : y.e * x.e <= 8 * 1 := Nat.mul_le_mul h3 hxe
       have : (y.a + y.e) * (x.a + x.e) = y.a * x.a + y.a * x.e + y.e * x.a + y.e * x.e := by rw [Nat.add_mul, Nat.mul_add, Nat.mul_add]; omega
       omega
     have e2 : aFo ((y.a + y.e) * (x.a + x.e)) (2 ^ w) <= (y.a * x.a + 2 * 2 ^ w) / 2 ^ w + 1 := by
       unfold aFo
       have := Nat.div_le_div_right (c := 2 ^ w) e1
       split <;> omega
     rw [Nat.add_mul_div_right _ _ hp] at e2
     omega
   have he : (mulF y x w).e <= 4 := by
     unfold mulF aH7; dsimp only
     exact Nat.le_trans (Nat.mod_le _ _) hm
   have hn := aER hr0 more k
   have hmul := aVB (q := w) (by unfold W64; omega) h1 hx hn hr0
   have hd : (mulF y x w).e / (k + 1 + more) <= (mulF y x w).e := Nat.div_le_self _ _
   have hs := aLS (d := k + 1 + more) (by omega) (by unfold W64; omega) hmul
   refine ⟨hs, ?_, ?_⟩
   · unfold aBx mulF aH7; dsimp only
     have b1 : y.a * x.a / 2 ^ w / (k + 1 + more) <= y.a * x.a / 2 ^ w := Nat.div_le_self _ _
     have b2 : y.a * x.a / 2 ^ w * 256 <= y.a := by
       have b3 : y.a * x.a * 256 <= y.a * 2 ^ w := by rw [Nat.mul_assoc]; exact Nat.mul_le_mul_left _ hxa
       have b4 := Nat.div_mul_le_self (y.a * x.a) (2 ^ w)
       apply Nat.le_of_mul_le_mul_right _ hp
       have : y.a * x.a / 2 ^ w * 256 * 2 ^ w = y.a * x.a / 2 ^ w * 2 ^ w * 256 := by rw [Nat.mul_assoc, Nat.mul_comm 256, <- Nat.mul_assoc]
       rw [this]
       exact Nat.le_trans (Nat.mul_le_mul_right 256 b4) b3
     rw [Nat.pow_succ, Nat.mul_comm (256 ^ k), <- Nat.mul_assoc]
     have b5 := Nat.mul_le_mul_right 256 b1
     exact Nat.le_trans (Nat.mul_le_mul_right _ (Nat.le_trans b5 b2)) h2
   · unfold aBx; dsimp only
     have := Nat.mod_le ((mulF y x w).e / (k + 1 + more) + 2) W64
     omega
def aFK (f : Nat -> Nat) : Nat -> Nat -> Nat
 | 0, k => k
 | n + 1, k => if f k = 0 then k else aFK f n (k + 1)
theorem aDH (f : Nat -> Nat) {N : Nat} (hN : f N = 0) : ∀ n k, k <= N -> N <= k + n -> f (aFK f n k) = 0 /\ k <= aFK f n k /\ aFK f n k <= N /\ ∀ j, k <= j -> j < aFK f n k -> f j ≠ 0
 | 0, k, h1, h2 => by
   obtain rfl : k = N := by omega
   exact ⟨hN, Nat.le_refl _, Nat.le_refl _, fun j a b => by simp only [aFK] at b; omega⟩
 | n + 1, k, h1, h2 => by
   simp only [aFK]
   split
   · rename_i h
     exact ⟨h, Nat.le_refl _, h1, fun j a b => by omega⟩
   · rename_i h
     have hk : k < N := by
       apply Nat.lt_of_not_le; intro h3
       obtain rfl : k = N := by omega
       contradiction
     obtain ⟨a1, a2, a3, a4⟩ := aDH f hN n (k + 1) hk (by omega)
     refine ⟨a1, by omega, a3, fun j b1 b2 => ?_⟩
     by_cases hj : j = k
     · subst hj; exact h
     · exact a4 j (by omega) b2
theorem aGt (r : Rat) : ∀ k, aA8 r 0 k = expT r k
 | 0 => rfl
 | k + 1 => by simp only [aA8, expT, Nat.add_zero]; rw [aGt r k, Rat.natCast_add]; rfl
theorem aFX (r : Rat) : ∀ k, r * aA8 r 1 k = expT r (k + 1)
 | 0 => by
   have : ((0 : Nat) : Rat) = 0 := rfl
   simp only [aA8, expT, this]; grind
 | k + 1 => by
   have h := aFX r k
   have e : ((k + 1 + 1 : Nat) : Rat) = ((k + 1 : Nat) : Rat) + 1 := by rw [Rat.natCast_add]; rfl
   simp only [aA8]
   rw [e]
   show _ = expT r (k + 1) * r / (((k + 1 : Nat) : Rat) + 1)
   rw [<- h, Rat.div_def, Rat.div_def]; grind
end
section
def aB1 (a : D) (w : Nat) : Fx := aJM (aAn a) w
def aBR (a : D) (w more : Nat) : Nat := aFK (fun k => (aCh (aB1 a w) w more k).a) (w + 1) 1
def aBv (a : D) (w more : Nat) : Iv := aBt (sumF (aCh (aB1 a w) w more) (aBR a w more)) w
theorem aFt {a : D} {w : Nat} (h0 : 0 <= a.v) (h8 : a.v * 256 <= 1) : (aB1 a w).enc w a.v a.v /\ (aB1 a w).a * 256 <= 2 ^ w /\ (aB1 a w).e <= 1 := by
 have hlo : (aAn a).lo.v = a.v := aC6 a
 have hhi : (aAn a).hi.v = a.v := aC6 a
 obtain ⟨h1, h2⟩ := aTD (q := w) (aCx a) (by rw [hlo]; exact h0) (by rw [hlo, hhi]; grind)
 rw [hlo, hhi] at h2
 refine ⟨h1, ?_, ?_⟩
 · have h3 := h1.1
   have h4 := Rat.mul_le_mul_of_nonneg_right h8 (Rat.le_of_lt (aCS w))
   apply Rat.natCast_le_natCast.1
   show ((_ : Nat) : Rat) <= ((2 ^ w : Nat) : Rat)
   rw [Rat.natCast_mul]
   have : ((256 : Nat) : Rat) = 256 := rfl
   unfold aB1
   rw [this]; grind
 · have : ((aJM (aAn a) w).e : Rat) < ((2 : Nat) : Rat) := by have : ((2 : Nat) : Rat) = 2 := rfl; rw [this]; grind
   have := Rat.natCast_lt_natCast.1 this
   unfold aB1; omega
theorem aEy {a : D} {w more : Nat} (hw : 16 <= w) (h0 : 0 <= a.v) (h8 : a.v * 256 <= 1) :
   (aCh (aB1 a w) w more (aBR a w more)).a = 0 /\ 1 <= aBR a w more /\ aBR a w more <= w + 1 /\ ∀ j, 1 <= j -> j < aBR a w more -> (aCh (aB1 a w) w more j).a ≠ 0 := by
 obtain ⟨x1, x2, x3⟩ := aFt (w := w) h0 h8
 have hz : (aCh (aB1 a w) w more (w + 1)).a = 0 := by
   obtain ⟨_, h2, _⟩ := aEx (more := more) hw h0 x1 x2 x3 (w + 1)
   apply Nat.eq_zero_of_not_pos; intro hp
   have h3 : 2 ^ w < 256 ^ (w + 1) := by
     have : 2 ^ w <= 256 ^ w := Nat.pow_le_pow_left (by decide) w
     have : 0 < 256 ^ w := Nat.pow_pos (by decide)
     rw [Nat.pow_succ]; omega
   have := Nat.mul_le_mul_right (256 ^ (w + 1)) hp
   omega
 exact aDH (fun k => (aCh (aB1 a w) w more k).a) hz (w + 1) 1 (by omega) (by omega)
theorem aRI (T : Nat -> Fx) : ∀ k, (T 0).a <= (evF T (k + 1)).a
 | 0 => by simp [evF, addF]
 | k + 1 => by
   have := aRI T k
   rw [evF]; split
   · unfold addF; dsimp only; omega
   · exact this
theorem aE5 {a : D} {w more : Nat} (hw : 16 <= w) (hw2 : w <= 1000000) (h0 : 0 <= a.v) (h8 : a.v * 256 <= 1) :
   (aBv a w more).lo.v <= aA5 (aA8 a.v more) (aBR a w more) /\
   aA5 (aA8 a.v more) (aBR a w more) + 2 * aA8 a.v more (aBR a w more) <= (aBv a w more).hi.v /\
   1 <= (aBv a w more).lo.v /\ (aBv a w more).hi.v <= (aBv a w more).lo.v + (8 * w + 32 : Nat) * p2 (-(w : Int)) := by
 obtain ⟨x1, x2, x3⟩ := aFt (w := w) h0 h8
 obtain ⟨k1, k2, k3, _⟩ := aEy (more := more) hw h0 h8
 have hT := aEx (more := more) hw h0 x1 x2 x3
 obtain ⟨s1, s2⟩ := aQf (T := aCh (aB1 a w) w more) (t := aA8 a.v more) (q := w) (B := 8) (K := aBR a w more) (fun j _ => (hT j).2.2) (by unfold W64; omega) (fun j _ => (hT j).1) k1
 have h := aOt s1
 have hp := aCS w
 have hpp := aAz (-(w : Int))
 have hd : 0 <= 8 / ((2 ^ w : Nat) : Rat) := aCf (by grind) hp
 refine ⟨h.1, by have := h.2; unfold aBv; grind, ?_, ?_⟩
 · unfold aBv aBt
   rw [aCy]
   have e1 : sg false = 1 := rfl
   obtain ⟨k, hk⟩ : ∃ k, aBR a w more = k + 1 := ⟨aBR a w more - 1, by omega⟩
   have g : 2 ^ w <= (sumF (aCh (aB1 a w) w more) (aBR a w more)).a := by
     rw [hk]
     have := aRI (aCh (aB1 a w) w more) k
     unfold sumF addF aBJ
     dsimp only
     have : (aCh (aB1 a w) w more 0).a = 2 ^ w := rfl
     omega
   have g2 : ((2 ^ w : Nat) : Rat) <= _ := Rat.natCast_le_natCast.2 g
   have g3 := Rat.mul_le_mul_of_nonneg_right g2 (Rat.le_of_lt hpp)
   have e : ((2 ^ w : Nat) : Rat) * p2 (-(w : Int)) = 1 := by have := aDA (w : Int); rw [aBE] at this; grind
   rw [e] at g3
   rw [e1]; grind
 · unfold aBv aBt
   rw [aCy, aCy]
   have e1 : sg false = 1 := rfl
   have g2 : ((sumF (aCh (aB1 a w) w more) (aBR a w more)).e : Rat) <= ((8 * w + 32 : Nat) : Rat) := Rat.natCast_le_natCast.2 (by omega)
   have g3 := Rat.mul_le_mul_of_nonneg_right g2 (Rat.le_of_lt hpp)
   rw [e1, Rat.natCast_add]
   grind
theorem aQl {a : D} {w : Nat} (hw : 16 <= w) (hw2 : w <= 1000000) (h0 : 0 <= a.v) (h8 : a.v * 256 <= 1) :
   expL a.v (aBv a w 0).lo.v /\ expH a.v (aBv a w 0).hi.v := by
 obtain ⟨s1, s2, _, _⟩ := aE5 (more := 0) hw hw2 h0 h8
 have e : aA8 a.v 0 = expT a.v := funext (aGt a.v)
 rw [e] at s1 s2
 have k2 := (aEy (more := 0) hw h0 h8).2.1
 refine ⟨aAV (aCv h0 _) Rat.le_refl s1, aBs (aCK h0 (aEp h0 _ ?_)) Rat.le_refl s2⟩
 have := aEm (aBR a w 0)
 grind
theorem aD7 (r : Rat) (k : Nat) : r * aA5 (aA8 r 1) k = expS r (k + 1) - 1 := by
 unfold expS
 rw [aGs, <- aDk, aCG k (fun i _ => aFX r i)]
 have : expT r 0 = 1 := rfl
 grind
theorem aO3 {a : D} {w : Nat} (hw : 16 <= w) (hw2 : w <= 1000000) (h0 : 0 <= a.v) (h8 : a.v * 256 <= 1) :
   expL a.v (a.v * (aBv a w 1).lo.v + 1) /\ expH a.v (a.v * (aBv a w 1).hi.v + 1) := by
 obtain ⟨s1, s2, _, _⟩ := aE5 (more := 1) hw hw2 h0 h8
 have m1 := Rat.mul_le_mul_of_nonneg_left s1 h0
 have m2 := Rat.mul_le_mul_of_nonneg_left s2 h0
 rw [aD7] at m1
 have e2 : a.v * (aA5 (aA8 a.v 1) (aBR a w 1) + 2 * aA8 a.v 1 (aBR a w 1)) = expS a.v (aBR a w 1 + 1) - 1 + 2 * expT a.v (aBR a w 1 + 1) := by
   rw [<- aFX, <- aD7]; grind
 rw [e2] at m2
 refine ⟨aAV (aCv h0 (aBR a w 1 + 1)) Rat.le_refl (by grind), aBs (aCK h0 (aEp h0 (aBR a w 1 + 1) ?_)) Rat.le_refl (by grind)⟩
 have := aEm (aBR a w 1 + 1)
 grind
end
section
def divO (ov : D -> D -> Int -> Bool -> D) (a b : Iv) (p : Int) : Iv :=
 ⟨lo4 (ov a.lo b.lo p false) (ov a.lo b.hi p false) (ov a.hi b.lo p false) (ov a.hi b.hi p false),
  hi4 (ov a.lo b.lo p true) (ov a.lo b.hi p true) (ov a.hi b.lo p true) (ov a.hi b.hi p true)⟩
def divI (a b : Iv) (p : Int) : Iv := divO aCe a b p
theorem aDj {a b : Iv} {p : Int} (hp : 1 <= p) (ha : 0 < a.lo.v) (hb : 0 < b.lo.v) (ha2 : a.lo.v <= a.hi.v) (hb2 : b.lo.v <= b.hi.v) :
   (aAF a b p).lo.v <= a.lo.v * b.lo.v /\ a.lo.v * b.lo.v * (1 - p2 (1 - p)) <= (aAF a b p).lo.v /\
   a.hi.v * b.hi.v <= (aAF a b p).hi.v /\ (aAF a b p).hi.v <= a.hi.v * b.hi.v * (1 + p2 (1 - p)) := by
 have g1 : a.lo.v * b.lo.v <= a.lo.v * b.hi.v := Rat.mul_le_mul_of_nonneg_left hb2 (Rat.le_of_lt ha)
 have g2 : a.lo.v * b.lo.v <= a.hi.v * b.lo.v := Rat.mul_le_mul_of_nonneg_right ha2 (Rat.le_of_lt hb)
 have g3 : a.lo.v * b.hi.v <= a.hi.v * b.hi.v := Rat.mul_le_mul_of_nonneg_right ha2 (by grind)
 have g4 : a.hi.v * b.lo.v <= a.hi.v * b.hi.v := Rat.mul_le_mul_of_nonneg_left hb2 (by grind)
 have hab := Rat.mul_pos ha hb
 obtain ⟨l1, _, _, _, l5⟩ := aMb (mulD a.lo b.lo) (mulD a.lo b.hi) (mulD a.hi b.lo) (mulD a.hi b.hi)
 obtain ⟨_, _, _, h4, h5⟩ := aMh (mulD a.lo b.lo) (mulD a.lo b.hi) (mulD a.hi b.lo) (mulD a.hi b.hi)
 have el : (lo4 (mulD a.lo b.lo) (mulD a.lo b.hi) (mulD a.hi b.lo) (mulD a.hi b.hi)).v = a.lo.v * b.lo.v := by
   rw [aGA] at l1
   apply Rat.le_antisymm l1
   rcases l5 with h | h | h | h <;> rw [h, aGA] <;> grind
 have eh : (hi4 (mulD a.lo b.lo) (mulD a.lo b.hi) (mulD a.hi b.lo) (mulD a.hi b.hi)).v = a.hi.v * b.hi.v := by
   rw [aGA] at h4
   apply Rat.le_antisymm ?_ h4
   rcases h5 with h | h | h | h <;> rw [h, aGA] <;> grind
 unfold aAF aAD
 dsimp only
 have c1 := aDM (lo4 (mulD a.lo b.lo) (mulD a.lo b.hi) (mulD a.hi b.lo) (mulD a.hi b.hi)) hp false
 have c2 := aDM (hi4 (mulD a.lo b.lo) (mulD a.lo b.hi) (mulD a.hi b.lo) (mulD a.hi b.hi)) hp true
 rw [el] at c1
 rw [eh] at c2
 have d1 := c1.2.2.1 (Rat.le_of_lt hab)
 have d2 := c2.2.2.1 (by grind)
 refine ⟨aDL c1, ?_, aDK c2, ?_⟩ <;> grind
theorem aEi (x : Rat) {y : Rat} (h : y ≠ 0) : x / y * y = x := by grind
theorem aLn {ov : D -> D -> Int -> Bool -> D} (hov : ∀ (a b : D), b.v ≠ 0 -> ∀ {p : Int}, 1 <= p -> ∀ up, Cutd (a.v / b.v) p up (ov a b p up)) {a b : Iv} {p : Int} (hp : 1 <= p) (ha : 0 < a.lo.v) (hb : 0 < b.lo.v) (ha2 : a.lo.v <= a.hi.v) (hb2 : b.lo.v <= b.hi.v) :
   (divO ov a b p).lo.v <= a.lo.v / b.hi.v /\ a.lo.v / b.hi.v * (1 - p2 (1 - p)) <= (divO ov a b p).lo.v /\
   a.hi.v / b.lo.v <= (divO ov a b p).hi.v /\ (divO ov a b p).hi.v <= a.hi.v / b.lo.v * (1 + p2 (1 - p)) := by
 have hbh : 0 < b.hi.v := by grind
 have hε := aAz (1 - p)
 have hε1 : p2 (1 - p) <= 1 := by have := aA7 (show 1 - p <= 0 by omega); rwa [aCt] at this
 have n1 : b.lo.v ≠ 0 := by grind
 have n2 : b.hi.v ≠ 0 := by grind
 have q0 : ∀ x y : Rat, 0 < x -> 0 < y -> 0 < x / y := fun x y hx hy => by rw [Rat.lt_div_iff hy]; grind
 have qm : ∀ x x' y y' : Rat, 0 < x -> x <= x' -> 0 < y -> y <= y' -> x / y' <= x' / y := fun x x' y y' h1 h2 h3 h4 => by
   rw [aA0 (by grind)]
   have h5 := q0 x' y (by grind) h3
   have h6 := Rat.mul_le_mul_of_nonneg_left h4 (Rat.le_of_lt h5)
   rw [aEi x' (show y ≠ 0 by grind)] at h6
   grind
 have m1 := qm a.lo.v a.lo.v b.lo.v b.hi.v ha Rat.le_refl hb hb2
 have m2 := qm a.lo.v a.hi.v b.lo.v b.lo.v ha ha2 hb Rat.le_refl
 have m3 := qm a.lo.v a.hi.v b.hi.v b.hi.v ha ha2 hbh Rat.le_refl
 have m4 := qm a.hi.v a.hi.v b.lo.v b.hi.v (by grind) Rat.le_refl hb hb2
 have p1 := q0 a.lo.v b.hi.v ha hbh
 have cut : ∀ (x y : D) (up : Bool), y.v ≠ 0 -> 0 < x.v / y.v -> x.v / y.v * (1 - p2 (1 - p)) <= (ov x y p up).v /\ (ov x y p up).v <= x.v / y.v * (1 + p2 (1 - p)) := fun x y up hy hx => by
   have c := (hov x y hy hp up).2.2.1 (Rat.le_of_lt hx)
   constructor <;> grind
 have w1 : ∀ x : Rat, a.lo.v / b.hi.v <= x -> a.lo.v / b.hi.v * (1 - p2 (1 - p)) <= x * (1 - p2 (1 - p)) := fun x h => Rat.mul_le_mul_of_nonneg_right h (by grind)
 have w2 : ∀ x : Rat, x <= a.hi.v / b.lo.v -> x * (1 + p2 (1 - p)) <= a.hi.v / b.lo.v * (1 + p2 (1 - p)) := fun x h => Rat.mul_le_mul_of_nonneg_right h (by grind)
 unfold divO
 dsimp only
 obtain ⟨_, l2, _, _, l5⟩ := aMb (ov a.lo b.lo p false) (ov a.lo b.hi p false) (ov a.hi b.lo p false) (ov a.hi b.hi p false)
 obtain ⟨_, _, h3, _, h5⟩ := aMh (ov a.lo b.lo p true) (ov a.lo b.hi p true) (ov a.hi b.lo p true) (ov a.hi b.hi p true)
 refine ⟨Rat.le_trans l2 (aDL (hov a.lo b.hi n2 hp false)), ?_, Rat.le_trans (aDK (hov a.hi b.lo n1 hp true)) h3, ?_⟩
 · rcases l5 with h | h | h | h <;> rw [h]
   · exact Rat.le_trans (w1 _ m1) (cut _ _ _ n1 (by grind)).1
   · exact (cut _ _ _ n2 (by grind)).1
   · exact Rat.le_trans (w1 _ (by grind)) (cut _ _ _ n1 (by grind)).1
   · exact Rat.le_trans (w1 _ (by grind)) (cut _ _ _ n2 (by grind)).1
 · rcases h5 with h | h | h | h <;> rw [h]
   · exact Rat.le_trans (cut _ _ _ n1 (by grind)).2 (w2 _ (by grind))
   · exact Rat.le_trans (cut _ _ _ n2 (by grind)).2 (w2 _ (by grind))
   · exact (cut _ _ _ n1 (by grind)).2
   · exact Rat.le_trans (cut _ _ _ n2 (by grind)).2 (w2 _ (by grind))
theorem aRM {a b : Iv} {p : Int} (hp : 1 <= p) (ha : 0 < a.lo.v) (hb : 0 < b.lo.v) (ha2 : a.lo.v <= a.hi.v) (hb2 : b.lo.v <= b.hi.v) :
   (divI a b p).lo.v <= a.lo.v / b.hi.v /\ a.lo.v / b.hi.v * (1 - p2 (1 - p)) <= (divI a b p).lo.v /\
   a.hi.v / b.lo.v <= (divI a b p).hi.v /\ (divI a b p).hi.v <= a.hi.v / b.lo.v * (1 + p2 (1 - p)) :=
 aLn (fun a b hb => fun {_} hp up => aWJ a b hb hp up) hp ha hb ha2 hb2
def sqI (p : Int) : Nat -> Iv -> Iv
 | 0, v => v
 | n + 1, v => sqI p n (aAF v v p)
def aAH (a : D) : Nat := if a.m = 0 then 0 else (max (topD a + 9) 0).toNat
def aBd (a : D) (p : Nat) : Iv := sqI ((p + 2 * aAH a + 64 : Nat) + 8 : Int) (aAH a) (aBv (aAs a (-(aAH a : Int))) (p + 2 * aAH a + 64) 0)
theorem aUu {p : Int} (hp : 1 <= p) {η : Rat} (hη : 0 < η) (hε : 16 * p2 (1 - p) <= η) :
   ∀ (n : Nat) (v : Iv) (t ρ : Rat), 0 < v.lo.v -> v.lo.v <= v.hi.v -> expL t v.lo.v -> expH t v.hi.v -> v.hi.v <= v.lo.v * (1 + ρ) -> η <= ρ -> ρ * (4 ^ n : Nat) <= 1 / 2 ->
     0 < (sqI p n v).lo.v /\ expL (t * (2 ^ n : Nat)) (sqI p n v).lo.v /\ expH (t * (2 ^ n : Nat)) (sqI p n v).hi.v /\ (sqI p n v).hi.v <= (sqI p n v).lo.v * (1 + ρ * (4 ^ n : Nat))
 | 0, v, t, ρ, h0, h1, hL, hH, hw, _, _ => by
   have e1 : ((2 ^ 0 : Nat) : Rat) = 1 := rfl
   rw [e1, Rat.mul_one, Rat.mul_one]
   exact ⟨h0, hL, hH, hw⟩
 | n + 1, v, t, ρ, h0, h1, hL, hH, hw, hρ, hs => by
   obtain ⟨a1, a2, a3, a4⟩ := aDj hp h0 h0 h1 h1
   have e1 : ((2 ^ (n + 1) : Nat) : Rat) = 2 * ((2 ^ n : Nat) : Rat) := by rw [Nat.pow_succ, Nat.mul_comm, Rat.natCast_mul]; rfl
   have e2 : ((4 ^ (n + 1) : Nat) : Rat) = 4 * ((4 ^ n : Nat) : Rat) := by rw [Nat.pow_succ, Nat.mul_comm, Rat.natCast_mul]; rfl
   have hε0 := aAz (1 - p)
   have h4 : (1 : Rat) <= ((4 ^ n : Nat) : Rat) := by
     have : 1 <= 4 ^ n := Nat.pow_pos (by decide)
     exact Rat.natCast_le_natCast.2 this
   have hρ8 : ρ <= 1 / 8 := by
     have := Rat.mul_le_mul_of_nonneg_left h4 (show 0 <= ρ by grind)
     rw [e2] at hs; grind
   have hLL := aDR (Rat.le_of_lt h0) (Rat.le_of_lt h0) hL hL
   have hHH := aEb hH hH
   have hll := Rat.mul_pos h0 h0
   have b1 : 0 < (aAF v v p).lo.v := by
     have : 0 < v.lo.v * v.lo.v * (1 - p2 (1 - p)) := Rat.mul_pos hll (by grind)
     grind
   have b2 := aAV hLL Rat.le_refl a1
   have b3 := aBs hHH Rat.le_refl a3
   have b4 : (aAF v v p).hi.v <= (aAF v v p).lo.v * (1 + ρ * 4) := by
     have c1 := aAO hw hw (by grind) (Rat.mul_nonneg (Rat.le_of_lt h0) (by grind))
     generalize p2 (1 - p) = ε at *
     generalize v.lo.v = l at *
     generalize v.hi.v = h at *
     generalize (aAF v v p).lo.v = L at *
     generalize (aAF v v p).hi.v = H at *
     have c2 := Rat.mul_le_mul_of_nonneg_right c1 (show 0 <= 1 + ε by grind)
     have c3 : (1 + ρ) * (1 + ρ) * (1 + ε) <= (1 + ρ * 4) * (1 - ε) := by
       have d1 : ρ * ρ <= ρ * (1 / 8) := Rat.mul_le_mul_of_nonneg_left hρ8 (by grind)
       have d2 : ρ * ε <= 1 / 8 * ε := Rat.mul_le_mul_of_nonneg_right hρ8 (by grind)
       have d3 : ρ * ρ * ε <= 1 / 8 * ε := by
         have d4 := Rat.mul_le_mul_of_nonneg_right d2 (show 0 <= ρ by grind)
         have d5 : 1 / 8 * ε * ρ <= 1 / 8 * ε * 1 := Rat.mul_le_mul_of_nonneg_left (by grind) (by grind)
         grind
       grind
     have c4 := Rat.mul_le_mul_of_nonneg_left c3 (Rat.le_of_lt hll)
     have c5 := Rat.mul_le_mul_of_nonneg_right a2 (show 0 <= 1 + ρ * 4 by grind)
     grind
   have b5 : (aAF v v p).lo.v <= (aAF v v p).hi.v := aAM b2 b3 Rat.le_refl
   have ih := aUu hp hη hε n (aAF v v p) (t + t) (ρ * 4) b1 b5 b2 b3 b4 (by grind) (by rw [e2] at hs; grind)
   rw [e1, e2]
   have et : t * (2 * ((2 ^ n : Nat) : Rat)) = (t + t) * ((2 ^ n : Nat) : Rat) := by grind
   have er : ρ * (4 * ((4 ^ n : Nat) : Rat)) = ρ * 4 * ((4 ^ n : Nat) : Rat) := by grind
   rw [et, er]
   exact ih
end
section
def ExpI (v : Iv) (t ρ : Rat) : Prop := 0 < v.lo.v /\ expL t v.lo.v /\ expH t v.hi.v /\ v.hi.v <= v.lo.v * (1 + ρ)
theorem aVX {v : Iv} {t ρ : Rat} (h : ExpI v t ρ) : v.lo.v <= v.hi.v := aAM h.2.1 h.2.2.1 Rat.le_refl
theorem aMs {v : Iv} {t ρ σ : Rat} (h : ExpI v t ρ) (hr : ρ <= σ) : ExpI v t σ := by
 obtain ⟨h1, h2, h3, h4⟩ := h
 have := Rat.mul_le_mul_of_nonneg_left hr (Rat.le_of_lt h1)
 exact ⟨h1, h2, h3, by grind⟩
theorem aUA {n : Nat} {e : Int} (h : n <= 131072) : ((n : Nat) : Rat) * p2 e <= p2 (e + 17) := by
 rw [Int.add_comm, aA9]
 have h1 : ((n : Nat) : Rat) <= ((131072 : Nat) : Rat) := Rat.natCast_le_natCast.2 h
 have h2 : p2 17 = ((131072 : Nat) : Rat) := by have := aBE 17; exact this
 rw [h2]
 exact Rat.mul_le_mul_of_nonneg_right h1 (Rat.le_of_lt (aAz e))
theorem aHQ {a : D} (h : a.neg = false) : a.v = a.av := by
 rw [v_av, h]; have : sg false = 1 := rfl; grind
theorem aGO {a : D} {p : Nat} (hn : a.neg = false) (hp : p <= 10000) (ht : topD a <= 20 \/ a.m = 0) : ExpI (aBd a p) a.v (p2 (-(p : Int) - 47)) := by
 unfold aBd
 have hs : aAH a <= 29 := by unfold aAH; split <;> omega
 have hav := aHQ hn
 have hav0 := aHf a
 have h8 : a.av * p2 (-(aAH a : Int)) * 256 <= 1 := by
   by_cases h0 : a.m = 0
   · have : a.av = 0 := by unfold D.av; rw [h0]; have : ((0 : Nat) : Rat) = 0 := rfl; grind
     rw [this]; grind
   · have h1 := aFk a
     have h2 : topD a + 1 <= (aAH a : Int) - 8 := by unfold aAH; rw [if_neg h0]; omega
     have h3 := aA7 h2
     have h4 := aAz (-(aAH a : Int))
     have h5 := Rat.mul_le_mul_of_nonneg_right (Rat.le_trans (Rat.le_of_lt h1) h3) (Rat.le_of_lt h4)
     rw [<- aA9, show (aAH a : Int) - 8 + -(aAH a : Int) = -8 by omega] at h5
     have e8 : p2 (-8) * 256 = 1 := by
       have := aDA 8
       have e : p2 8 = 256 := by have := aBE 8; exact this
       rwa [e] at this
     grind
 generalize hS : aAH a = s at *
 have hv0 : (aAs a (-(s : Int))).v = a.av * p2 (-(s : Int)) := by rw [aE6, hav]
 have h0 : 0 <= (aAs a (-(s : Int))).v := by rw [hv0]; exact Rat.mul_nonneg hav0 (Rat.le_of_lt (aAz _))
 have h8' : (aAs a (-(s : Int))).v * 256 <= 1 := by rw [hv0]; exact h8
 obtain ⟨w, hw⟩ : ∃ w : Nat, p + 2 * s + 64 = w := ⟨_, rfl⟩
 rw [hw]
 obtain ⟨x1, x2⟩ := aQl (w := w) (by omega) (by omega) h0 h8'
 obtain ⟨_, _, x3, x4⟩ := aE5 (w := w) (more := 0) (by omega) (by omega) h0 h8'
 have hlh := aAM x1 x2 Rat.le_refl
 have hρ0 : 0 < ((8 * w + 32 : Nat) : Rat) * p2 (-(w : Int)) := Rat.mul_pos (Rat.natCast_pos.2 (by omega)) (aAz _)
 have hε : 16 * p2 (1 - ((w : Nat) + 8 : Int)) <= ((8 * w + 32 : Nat) : Rat) * p2 (-(w : Int)) := by
   have e : 1 - ((w : Nat) + 8 : Int) = -(w : Int) + (-7) := by omega
   rw [e, aA9]
   have e7 : p2 (-7) * 128 = 1 := by
     have := aDA 7
     have e : p2 7 = 128 := by have := aBE 7; exact this
     rwa [e] at this
   have h32 : (1 : Rat) <= ((8 * w + 32 : Nat) : Rat) := by
     have := Rat.natCast_le_natCast.2 (show 1 <= 8 * w + 32 by omega); exact this
   have := Rat.mul_le_mul_of_nonneg_right h32 (Rat.le_of_lt (aAz (-(w : Int))))
   have := aAz (-(w : Int))
   have e16 : 16 * p2 (-7) <= 1 := by grind
   have := Rat.mul_le_mul_of_nonneg_left e16 (Rat.le_of_lt (aAz (-(w : Int))))
   grind
 have h4s : ((8 * w + 32 : Nat) : Rat) * p2 (-(w : Int)) * ((4 ^ s : Nat) : Rat) <= p2 (-(p : Int) - 47) := by
   have e : ((4 ^ s : Nat) : Rat) = p2 ((2 * s : Nat) : Int) := by rw [aBE, Nat.pow_mul]
   rw [e, Rat.mul_assoc, <- aA9]
   refine Rat.le_trans (aUA (by omega)) (aA7 (by omega))
 have hsmall : p2 (-(p : Int) - 47) <= 1 / 2 := by
   have := aA7 (show -(p : Int) - 47 <= -1 by omega)
   have e : p2 (-1) * 2 = 1 := by have := aDA 1; rwa [aIX] at this
   grind
 have hx4 : (aBv (aAs a (-(s : Int))) w 0).hi.v <= (aBv (aAs a (-(s : Int))) w 0).lo.v * (1 + ((8 * w + 32 : Nat) : Rat) * p2 (-(w : Int))) := by
   have := Rat.mul_le_mul_of_nonneg_right x3 (Rat.le_of_lt hρ0)
   grind
 have r := aUu (p := ((w : Nat) + 8 : Int)) (by omega) hρ0 hε s _ _ _ (by grind) hlh x1 x2 hx4 Rat.le_refl (by grind)
 have et : (aAs a (-(s : Int))).v * ((2 ^ s : Nat) : Rat) = a.v := by
   rw [hv0, hav, <- aBE]
   have := aDA (s : Int)
   grind
 rw [et] at r
 exact aMs r h4s
def aBG (t : D) (p : Nat) : Iv := if t.neg then divI (aAn (intD 1)) (aBd (absD t) p) ((p : Int) + 64) else aBd (absD t) p
theorem aCZ : (aAn (intD 1)).lo.v = 1 /\ (aAn (intD 1)).hi.v = 1 := by
 have : (intD 1).v = 1 := aEw 1
 exact ⟨(aC6 _).trans this, (aC6 _).trans this⟩
theorem aHi (d : D) : (absD d).neg = false := by unfold absD aAL fNeg; dsimp only; split <;> rfl
theorem aJv {d : D} (h : d.m ≠ 0) : topD (absD d) = topD d /\ (absD d).m ≠ 0 := by
 obtain ⟨k, hk, hk2⟩ := aGr h
 have h1 : fAbs d.m = k := by
   unfold fAbs; conv => lhs; arg 1; rw [hk]
   rw [Nat.mul_comm]; exact Nat.mul_div_cancel _ (Nat.pow_pos (by decide))
 have hb : bl d.m = bl k + tz d.m := by
   conv => lhs; rw [hk]
   rw [Nat.mul_comm]; exact aT9 (by omega) _
 unfold topD absD aAL fExp
 dsimp only
 rw [if_neg h, h1]
 exact ⟨by omega, by omega⟩
theorem aOS {d : D} (h : d.m = 0) : (absD d).m = 0 := by unfold absD aAL; dsimp only; rw [h]; exact aEY
theorem aIV {t : D} {p : Nat} (hp : p <= 10000) (ht : topD t <= 20 \/ t.m = 0) (hc : t.canon) : ExpI (aBG t p) t.v (p2 (-(p : Int) - 45)) := by
 have hab := aGO (a := absD t) (aHi t) hp (by
   by_cases h : t.m = 0
   · exact .inr (aOS h)
   · rw [(aJv h).1]; exact .inl (by omega))
 unfold aBG
 by_cases hn : t.neg = true
 · rw [if_pos hn]
   have hm : t.m ≠ 0 := by
     rcases hc with hc | ⟨_, hc, _⟩
     · omega
     · rw [hc] at hn; contradiction
   have hv : (absD t).v = -t.v := by rw [aPK, if_pos ((aB0 hm).1 hn)]
   rw [hv] at hab
   obtain ⟨a1, a2, a3, a4⟩ := hab
   have hle := aAM a2 a3 Rat.le_refl
   obtain ⟨o1, o2⟩ := aCZ
   obtain ⟨d1, d2, d3, d4⟩ := aRM (a := aAn (intD 1)) (b := aBd (absD t) p) (p := (p : Int) + 64) (by omega) (by rw [o1]; decide) a1 (by rw [o1, o2]; exact Rat.le_refl) hle
   rw [o1] at d1 d2
   rw [o2] at d3 d4
   have b1 := aFh a3
   have b2 := aDS a1 a2
   have e : - -t.v = t.v := by grind
   rw [e] at b1 b2
   generalize hρ : p2 (-(p : Int) - 47) = ρ at *
   have hε : p2 (1 - ((p : Int) + 64)) <= ρ / 8 := by
     have e : p2 (1 - ((p : Int) + 64)) * 65536 = ρ := by
       rw [<- hρ]
       have e16 : p2 16 = 65536 := by have := aBE 16; exact this
       rw [<- e16, <- aA9]; congr 1; omega
     have := aAz (1 - ((p : Int) + 64))
     grind
   have hρ1 : ρ <= 1 / 8 := by
     rw [<- hρ]
     have := aA7 (show -(p : Int) - 47 <= -3 by omega)
     have e : p2 (-3) * 8 = 1 := by
       have := aDA 3
       have e : p2 3 = 8 := by have := aBE 3; exact this
       rwa [e] at this
     grind
   have hρ4 : p2 (-(p : Int) - 45) = 4 * ρ := by
     have e4 : p2 2 = 4 := by have := aBE 2; exact this
     rw [<- hρ, <- e4, <- aA9]; congr 1; omega
   have hρ0 : 0 < ρ := by rw [<- hρ]; exact aAz _
   have hε0 := aAz (1 - ((p : Int) + 64))
   rw [hρ4]
   have c1 : 0 < 1 / (aBd (absD t) p).hi.v := by rw [Rat.lt_div_iff (by grind)]; grind
   refine ⟨?_, aAV b1 Rat.le_refl d1, aBs b2 Rat.le_refl d3, ?_⟩
   · have := Rat.mul_pos c1 (show 0 < 1 - p2 (1 - ((p : Int) + 64)) by grind)
     grind
   ·
     have c2 : 1 / (aBd (absD t) p).lo.v <= 1 / (aBd (absD t) p).hi.v * (1 + ρ) := by
       rw [aA0 a1]
       have c3 := Rat.mul_le_mul_of_nonneg_left a4 (Rat.le_of_lt c1)
       rw [aEi 1 (show (aBd (absD t) p).hi.v ≠ 0 by grind)] at c3
       grind
     generalize p2 (1 - ((p : Int) + 64)) = ε at *
     generalize 1 / (aBd (absD t) p).lo.v = x at *
     generalize 1 / (aBd (absD t) p).hi.v = y at *
     generalize (divI (aAn (intD 1)) (aBd (absD t) p) ((p : Int) + 64)).hi.v = H at *
     generalize (divI (aAn (intD 1)) (aBd (absD t) p) ((p : Int) + 64)).lo.v = L at *
     have c4 := Rat.mul_le_mul_of_nonneg_right c2 (show 0 <= 1 + ε by grind)
     have c5 : (1 + ρ) * (1 + ε) <= (1 - ε) * (1 + 4 * ρ) := by
       have := Rat.mul_le_mul_of_nonneg_left hε (Rat.le_of_lt hρ0)
       have := Rat.mul_le_mul_of_nonneg_left hρ1 (Rat.le_of_lt hρ0)
       grind
     have c6 := Rat.mul_le_mul_of_nonneg_left c5 (Rat.le_of_lt c1)
     have c7 := Rat.mul_le_mul_of_nonneg_right d2 (show 0 <= 1 + 4 * ρ by grind)
     grind
 · rw [if_neg hn]
   have hv : (absD t).v = t.v := by
     rw [aPK]
     by_cases hm : t.m = 0
     · rw [aBL.2 hm, if_neg (by decide)]
     · rw [if_neg (fun h => hn ((aB0 hm).2 h))]
   rw [hv] at hab
   exact aMs hab (aA7 (by omega))
end
section
def aAp : Iv := ⟨aAY, aAY⟩
def aCT (t : D) (p : Nat) : Iv :=
 if t.m = 0 then aAp else
 if -8 <= topD t then aFn (aBG t (p + 24)) (aAn (intD 1)) ((p : Int) + 40) else
 if t.neg then aCd (divI (aAF (aAn (absD t)) (aBv (absD t) (p + 64) 1) ((p : Int) + 64)) (aBd (absD t) p) ((p : Int) + 64))
 else aAF (aAn (absD t)) (aBv (absD t) (p + 64) 1) ((p : Int) + 64)
def aJP (v : Iv) (t ρ : Rat) : Prop := expL t (v.lo.v + 1) /\ expH t (v.hi.v + 1) /\ (0 < t -> 0 < v.lo.v /\ v.hi.v <= v.lo.v * (1 + ρ)) /\ (t < 0 -> v.hi.v < 0 /\ v.hi.v * (1 + ρ) <= v.lo.v)
theorem aCi (n : Nat) {k : Nat} (h : 2 ^ n = k) : p2 (n : Int) = (k : Rat) /\ p2 (-(n : Int)) * (k : Rat) = 1 := by
 have h1 := aBE n
 have h2 := aDA (n : Int)
 rw [h] at h1
 rw [h1] at h2
 exact ⟨h1, h2⟩
theorem aBU {x : Rat} {p : Int} {up : Bool} {r : D} (h : Cutd x p up r) : (0 <= x -> x * (1 - p2 (1 - p)) <= r.v /\ r.v <= x * (1 + p2 (1 - p))) /\ (x <= 0 -> x * (1 + p2 (1 - p)) <= r.v /\ r.v <= x * (1 - p2 (1 - p))) := by
 refine ⟨fun hx => ?_, fun hx => ?_⟩
 · have := h.2.2.1 hx; constructor <;> grind
 · have := h.2.2.2 hx; constructor <;> grind
theorem aPw {t : D} {p : Nat} (hp : p <= 9000) (ht : topD t <= 20) (hc : t.canon) (h0 : t.m ≠ 0) : aJP (aCT t p) t.v (p2 (-(p : Int) - 12)) := by
 have hvn : t.v ≠ 0 := fun h => h0 (aBL.1 h)
 have hmono : ∀ {v : Iv} {s ρ σ : Rat}, ρ <= σ -> aJP v s ρ -> aJP v s σ := fun {v s ρ σ} hr ⟨a, b, c, d⟩ => by
   refine ⟨a, b, fun h => ?_, fun h => ?_⟩
   · obtain ⟨c1, c2⟩ := c h
     have := Rat.mul_le_mul_of_nonneg_left hr (Rat.le_of_lt c1)
     exact ⟨c1, by grind⟩
   · obtain ⟨d1, d2⟩ := d h
     have := Rat.mul_le_mul_of_nonneg_left hr (show 0 <= -v.hi.v by grind)
     exact ⟨d1, by grind⟩
 unfold aCT
 rw [if_neg h0]
 split
 · rename_i h8
   obtain ⟨a1, a2, a3, a4⟩ := aIV (t := t) (p := p + 24) (by omega) (.inl ht) hc
   obtain ⟨o1, o2⟩ := aCZ
   have hle := aAM a2 a3 Rat.le_refl
   generalize hv : aBG t (p + 24) = v at *
   have hav := aFq h0
   have h256 := (aCi 8 (k := 256) rfl).2
   have h3 : ((256 : Nat) : Rat) = 256 := rfl
   have h4 := aA7 (show -((8 : Nat) : Int) <= topD t by omega)
   have hbig : 1 <= t.av * 256 := by rw [h3] at h256; grind
   have e1 : (addD v.lo (aCd (aAn (intD 1))).lo).v = v.lo.v - 1 := by rw [aMH]; unfold aCd; rw [aGj, o2]; grind
   have e2 : (addD v.hi (aCd (aAn (intD 1))).hi).v = v.hi.v - 1 := by rw [aMH]; unfold aCd; rw [aGj, o1]; grind
   unfold aFn aH4 aAD aJP
   dsimp only
   have c1 := aDM (addD v.lo (aCd (aAn (intD 1))).lo) (show 1 <= (p : Int) + 40 by omega) false
   have c2 := aDM (addD v.hi (aCd (aAn (intD 1))).hi) (show 1 <= (p : Int) + 40 by omega) true
   rw [e1] at c1
   rw [e2] at c2
   have b1 := aDL c1
   have b2 := aDK c2
   have r1 := aBU c1
   have r2 := aBU c2
   have hP := aAz (-(p : Int) - 12)
   have eρ : p2 (-((p + 24 : Nat) : Int) - 45) * 131072 * 1099511627776 = p2 (-(p : Int) - 12) := by
     have k1 : p2 17 = 131072 := by have := (aCi 17 (k := 131072) rfl).1; exact this
     have k2 : p2 40 = 1099511627776 := by have := (aCi 40 (k := 1099511627776) rfl).1; exact this
     rw [<- k1, <- k2, <- aA9, <- aA9]; congr 1; omega
   have eε : p2 (1 - ((p : Int) + 40)) * 134217728 = p2 (-(p : Int) - 12) := by
     have k1 : p2 27 = 134217728 := by have := (aCi 27 (k := 134217728) rfl).1; exact this
     rw [<- k1, <- aA9]; congr 1; omega
   have hP1 : p2 (-(p : Int) - 12) <= 1 := by have := aA7 (show -(p : Int) - 12 <= 0 by omega); rwa [aCt] at this
   have hρ0 := aAz (-((p + 24 : Nat) : Int) - 45)
   have hε0 := aAz (1 - ((p : Int) + 40))
   generalize p2 (-((p + 24 : Nat) : Int) - 45) = ρ at *
   generalize p2 (1 - ((p : Int) + 40)) = ε at *
   generalize p2 (-(p : Int) - 12) = P at *
   generalize (cutD (addD v.lo (aCd (aAn (intD 1))).lo) ((p : Int) + 40) false).v = L at *
   generalize (cutD (addD v.hi (aCd (aAn (intD 1))).hi) ((p : Int) + 40) true).v = H at *
   have hρP : ρ * 1000000 <= P := by grind
   have hεP : ε * 1000000 <= P := by grind
   refine ⟨aAV a2 Rat.le_refl (by grind), aBs a3 Rat.le_refl (by grind), fun hpos => ?_, fun hneg => ?_⟩
   · have hn : t.neg = false := by
       cases hn : t.neg with
       | false => rfl
       | true => have := (aB0 h0).1 hn; grind
     have htv : t.v = t.av := aHQ hn
     have g1 := aAM (aDQ (h := t.v) (by grind)) a3 Rat.le_refl
     have g2 : v.lo.v * ρ <= v.lo.v * (1 / 1000000) := Rat.mul_le_mul_of_nonneg_left (by grind) (Rat.le_of_lt a1)
     have g3 : v.lo.v <= 513 * (v.lo.v - 1) := by grind
     obtain ⟨q1, q2⟩ := r1.1 (by grind)
     obtain ⟨q3, q4⟩ := r2.1 (by grind)
     have g4 := Rat.mul_le_mul_of_nonneg_right g3 (Rat.le_of_lt hρ0)
     generalize hx : v.lo.v - 1 = x at *
     have g5 : v.hi.v - 1 <= x * (1 + 513 * ρ) := by grind
     have hx0 : 0 < x := by grind
     have g6 := Rat.mul_le_mul_of_nonneg_right g5 (show 0 <= 1 + ε by grind)
     have g7 : (1 + 513 * ρ) * (1 + ε) <= (1 - ε) * (1 + P) := by
       have k1 : ρ * ε <= ρ * 1 := Rat.mul_le_mul_of_nonneg_left (by grind) (Rat.le_of_lt hρ0)
       have k2 : ε * P <= ε * 1 := Rat.mul_le_mul_of_nonneg_left hP1 (Rat.le_of_lt hε0)
       grind
     have g8 := Rat.mul_le_mul_of_nonneg_left g7 (Rat.le_of_lt hx0)
     have g9 := Rat.mul_le_mul_of_nonneg_right q1 (show 0 <= 1 + P by grind)
     have g10 : 0 < x * (1 - ε) := Rat.mul_pos hx0 (by grind)
     exact ⟨by grind, by grind⟩
   · have hn : t.neg = true := (aB0 h0).2 hneg
     have htv : t.v = -t.av := by rw [v_av, hn]; have : sg true = -1 := rfl; grind
     have g0 := aDS (x := 1 + t.av) (by have := aHf t; grind) (aDQ (h := t.av) (aHf t))
     rw [<- htv] at g0
     have g1 := aAM a2 g0 Rat.le_refl
     have g2 : v.lo.v <= 256 / 257 := by
       refine Rat.le_trans g1 ?_
       rw [aA0 (by have := aHf t; grind)]; grind
     have g3 : v.lo.v * ρ <= 1 * ρ := Rat.mul_le_mul_of_nonneg_right (by grind) (Rat.le_of_lt hρ0)
     obtain ⟨q1, q2⟩ := r1.2 (by grind)
     obtain ⟨q3, q4⟩ := r2.2 (by grind)
     generalize hx : 1 - v.hi.v = x at *
     have hx0 : 1 / 300 <= x := by grind
     have g5 : 1 - v.lo.v <= x * (1 + 300 * ρ) := by
       have := Rat.mul_le_mul_of_nonneg_right hx0 (Rat.le_of_lt hρ0)
       grind
     have g6 := Rat.mul_le_mul_of_nonneg_right g5 (show 0 <= 1 + ε by grind)
     have g7 : (1 + 300 * ρ) * (1 + ε) <= (1 - ε) * (1 + P) := by
       have k1 : ρ * ε <= ρ * 1 := Rat.mul_le_mul_of_nonneg_left (by grind) (Rat.le_of_lt hρ0)
       have k2 : ε * P <= ε * 1 := Rat.mul_le_mul_of_nonneg_left hP1 (Rat.le_of_lt hε0)
       grind
     have g8 := Rat.mul_le_mul_of_nonneg_left g7 (show 0 <= x by grind)
     have ex : v.hi.v - 1 = -x := by grind
     rw [ex] at q3 q4
     have g9 := Rat.mul_le_mul_of_nonneg_right q4 (show 0 <= 1 + P by grind)
     have g10 : 0 < x * (1 - ε) := Rat.mul_pos (by grind) (by grind)
     exact ⟨by grind, by grind⟩
 · rename_i h8
   have hav : 0 < (absD t).v /\ (absD t).v * 256 <= 1 := by
     have h1 := aHQ (aHi t)
     obtain ⟨h2, h3⟩ := aJv h0
     have h4 := aFk (absD t)
     have h5 := aA7 (show topD (absD t) + 1 <= -((8 : Nat) : Int) by omega)
     have h6 := (aCi 8 (k := 256) rfl).2
     have h7 : ((256 : Nat) : Rat) = 256 := rfl
     rw [h7] at h6
     have := aOM h3
     rw [h1]; constructor <;> grind
   obtain ⟨hav0, hav8⟩ := hav
   generalize ha : absD t = a at *
   obtain ⟨w, hw⟩ : ∃ w : Nat, p + 64 = w := ⟨_, rfl⟩
   have hwi : (p : Int) + 64 = (w : Int) := by omega
   rw [hw, hwi]
   obtain ⟨x1, x2⟩ := aO3 (w := w) (by omega) (by omega) (Rat.le_of_lt hav0) hav8
   obtain ⟨f1, f2, f3, f4⟩ := aE5 (w := w) (more := 1) (by omega) (by omega) (Rat.le_of_lt hav0) hav8
   have f5 : (aBv a w 1).lo.v <= (aBv a w 1).hi.v := by
     have := aER (Rat.le_of_lt hav0) 1 (aBR a w 1)
     grind
   have pl : (aAn a).lo.v = a.v := aC6 a
   have ph : (aAn a).hi.v = a.v := aC6 a
   obtain ⟨m1, m2, m3, m4⟩ := aDj (a := aAn a) (b := aBv a w 1) (p := (w : Int)) (by omega) (by rw [pl]; exact hav0) (by grind) (by rw [pl, ph]; exact Rat.le_refl) f5
   rw [pl] at m1 m2
   rw [ph] at m3 m4
   have hσ : ((8 * w + 32 : Nat) : Rat) * p2 (-(w : Int)) <= p2 (-(p : Int) - 47) := by
     refine Rat.le_trans (aUA (by omega)) (aA7 (by omega))
   have hP := aAz (-(p : Int) - 12)
   have eσ : p2 (-(p : Int) - 47) * 34359738368 = p2 (-(p : Int) - 12) := by
     have k1 : p2 35 = 34359738368 := by have := (aCi 35 (k := 34359738368) rfl).1; exact this
     rw [<- k1, <- aA9]; congr 1; omega
   have eε : p2 (1 - (w : Int)) * 2251799813685248 = p2 (-(p : Int) - 12) := by
     have k1 : p2 51 = 2251799813685248 := by have := (aCi 51 (k := 2251799813685248) rfl).1; exact this
     rw [<- k1, <- aA9]; congr 1; omega
   have hP1 : p2 (-(p : Int) - 12) <= 1 := by have := aA7 (show -(p : Int) - 12 <= 0 by omega); rwa [aCt] at this
   have hσ0 := aAz (-(p : Int) - 47)
   have hε0 := aAz (1 - (w : Int))
   have hε1 : p2 (1 - (w : Int)) <= p2 (-(p : Int) - 47) := aA7 (by omega)
   have hab := aGO (a := a) (p := p) (by rw [<- ha]; exact aHi t) (by omega) (by rw [<- ha, (aJv h0).1]; exact .inl ht)
   obtain ⟨b1, b2, b3, b4⟩ := hab
   have hble := aAM b2 b3 Rat.le_refl
   generalize hεe : p2 (1 - (w : Int)) = ε at *
   generalize p2 (-(p : Int) - 47) = σ at *
   generalize p2 (-(p : Int) - 12) = P at *
   have f6 : (aBv a w 1).hi.v <= (aBv a w 1).lo.v * (1 + σ) := by
     have := Rat.mul_le_mul_of_nonneg_right f3 (Rat.le_of_lt hσ0)
     grind
   generalize hV : aAF (aAn a) (aBv a w 1) (w : Int) = V at *
   have hσP : σ * 1000000 <= P := by grind
   have hlo0 : 0 < a.v * (aBv a w 1).lo.v := Rat.mul_pos hav0 (by grind)
   have hV0 : 0 < V.lo.v := by
     have := Rat.mul_pos hlo0 (show 0 < 1 - ε by grind)
     grind
   have hV1 : V.hi.v <= V.lo.v * (1 + 4 * σ) := by
     have n1 := Rat.mul_le_mul_of_nonneg_left f6 (Rat.le_of_lt hav0)
     have n2 := Rat.mul_le_mul_of_nonneg_right n1 (show 0 <= 1 + ε by grind)
     have n3 : (1 + σ) * (1 + ε) <= (1 - ε) * (1 + 4 * σ) := by
       have k1 : σ * ε <= σ * (1 / 1000000) := Rat.mul_le_mul_of_nonneg_left (by grind) (Rat.le_of_lt hσ0)
       grind
     have n4 := Rat.mul_le_mul_of_nonneg_left n3 (Rat.le_of_lt hlo0)
     have n5 := Rat.mul_le_mul_of_nonneg_right m2 (show 0 <= 1 + 4 * σ by grind)
     grind
   have hL := aAV x1 Rat.le_refl (show V.lo.v + 1 <= _ by grind)
   have hH := aBs x2 Rat.le_refl (show _ <= V.hi.v + 1 by grind)
   have hVle : V.lo.v <= V.hi.v := by have := aAM hL hH Rat.le_refl; grind
   split
   · rename_i hn
     have htv : t.v = -a.v := by rw [<- ha, aPK, if_pos ((aB0 h0).1 hn)]; grind
     obtain ⟨d1, d2, d3, d4⟩ := aRM (a := V) (b := aBd a p) (p := (w : Int)) (by omega) hV0 b1 hVle hble
     rw [hεe] at d2 d4
     have u1 := aAM b2 hH Rat.le_refl
     have u2 := aAM hL b3 Rat.le_refl
     have g1 := aFh hH
     have g2 := aDS (show 0 < V.lo.v + 1 by grind) hL
     rw [<- htv] at g1 g2
     have nl : (aBd a p).lo.v ≠ 0 := by grind
     have nh : (aBd a p).hi.v ≠ 0 := by grind
     have w1 : 1 - V.hi.v / (aBd a p).lo.v <= 1 / (V.hi.v + 1) := by
       rw [aBw (by grind)]
       have y0 : 0 <= V.hi.v / (aBd a p).lo.v := aCf (by grind) b1
       have y1 := Rat.mul_le_mul_of_nonneg_left u1 y0
       rw [aEi _ nl] at y1
       grind
     have w2 : 1 / (V.lo.v + 1) <= 1 - V.lo.v / (aBd a p).hi.v := by
       rw [aA0 (by grind)]
       have y0 : 0 <= V.lo.v / (aBd a p).hi.v := aCf (by grind) (by grind)
       have y1 := Rat.mul_le_mul_of_nonneg_left u2 y0
       rw [aEi _ nh] at y1
       grind
     unfold aCd aJP
     dsimp only
     rw [aGj, aGj]
     generalize hDv : divI V (aBd a p) (w : Int) = Q at *
     refine ⟨aAV g1 Rat.le_refl (by grind), aBs g2 Rat.le_refl (by grind), fun h => by rw [htv] at h; grind, fun _ => ?_⟩
     have y0 : 0 < V.lo.v / (aBd a p).hi.v := by rw [Rat.lt_div_iff (by grind)]; grind
     have y1 : V.hi.v / (aBd a p).lo.v <= V.lo.v / (aBd a p).hi.v * ((1 + 4 * σ) * (1 + σ)) := by
       rw [aA0 b1]
       have z1 := Rat.mul_le_mul_of_nonneg_left b4 (Rat.le_of_lt y0)
       rw [aEi _ nh] at z1
       have z2 := Rat.mul_le_mul_of_nonneg_right z1 (show 0 <= 1 + 4 * σ by grind)
       grind
     generalize V.lo.v / (aBd a p).hi.v = y at *
     generalize V.hi.v / (aBd a p).lo.v = z at *
     have z3 := Rat.mul_le_mul_of_nonneg_right y1 (show 0 <= 1 + ε by grind)
     have z4 : (1 + 4 * σ) * (1 + σ) * (1 + ε) <= (1 - ε) * (1 + P) := by
       have k1 : σ * σ <= σ * (1 / 1000000) := Rat.mul_le_mul_of_nonneg_left (by grind) (Rat.le_of_lt hσ0)
       have k2 : ε * P <= ε * 1 := Rat.mul_le_mul_of_nonneg_left hP1 (Rat.le_of_lt hε0)
       have k3 : σ * ε <= σ * (1 / 1000000) := Rat.mul_le_mul_of_nonneg_left (by grind) (Rat.le_of_lt hσ0)
       have k4 : σ * σ * ε <= σ * (1 / 1000000) * 1 := aAO k1 (by grind) (Rat.le_of_lt hε0) (by grind)
       grind
     have z5 := Rat.mul_le_mul_of_nonneg_left z4 (Rat.le_of_lt y0)
     have z6 := Rat.mul_le_mul_of_nonneg_right d2 (show 0 <= 1 + P by grind)
     have z7 := Rat.mul_pos y0 (show 0 < 1 - ε by grind)
     rw [Rat.mul_assoc] at z3
     rw [<- Rat.mul_assoc y (1 - ε)] at z5
     have z8 := Rat.le_trans d4 (Rat.le_trans z3 (Rat.le_trans z5 z6))
     have z9 : 0 < Q.lo.v := by clear z8 z3 z5 z6; grind
     clear z3 z4 z5 z6 z7 d1 d2 d3 d4 y1 w1 w2 g1 g2 u1 u2 b4 f6 hV1 m1 m2 m3 m4 eσ eε x1 x2 hL hH
     exact ⟨by grind, by grind⟩
   · rename_i hn
     have htv : t.v = a.v := by rw [<- ha, aPK, if_neg (fun h => hn ((aB0 h0).2 h))]
     rw [htv]
     refine ⟨hL, hH, fun _ => ⟨hV0, ?_⟩, fun h => by grind⟩
     have := Rat.mul_le_mul_of_nonneg_left (show 4 * σ <= P by grind) (Rat.le_of_lt hV0)
     grind
end
section
def invP (n w : Nat) : Nat -> Fx
 | 0 => aBx (oneF w) n
 | k + 1 => aBx (invP n w k) (n * n)
def invT (n w : Nat) (k : Nat) : Fx := if k = 0 then invP n w 0 else aBx (invP n w k) (2 * k + 1)
def invK (n w : Nat) : Nat := aFK (fun k => (invT n w k).a) (w + 1) 1
def aAA (n times w : Nat) : Fx := aDU (sumF (invT n w) (invK n w)) times
def ln2F (w : Nat) : Fx := addF (subF (aAA 26 18 w) (aAA 4801 2 w)) (aAA 8749 8 w)
def aDV (w : Nat) : Fx := addF (addF (aAA 31 46 w) (aAA 49 34 w)) (aAA 161 20 w)
def invQ (n w : Nat) : Nat -> Fx
 | 0 => aBx (oneF w) n
 | k + 1 => aBx (aBx (invQ n w k) n) n
def plQ (n w : Nat) : Nat -> Fx
 | 0 => invQ n w 0
 | k + 1 => addF (plQ n w k) (aBx (invQ n w (k + 1)) (2 * k + 3))
def aDe (n w : Nat) : Nat := aFK (fun k => (invQ n w k).a) (w + 1) 0
def aBT (n w : Nat) : Fx := subF (aBJ (plQ n w (aDe n w)) 4) (aBJ ⟨0, 0⟩ 4)
def ln2Q (w : Nat) : Fx := aDU (aBT 3 w) 2
def aFG (w : Nat) : Fx := addF (aDU (ln2Q w) 3) (aDU (aBT 9 w) 2)
theorem aRr (n : Nat) (k : Nat) : ((1 : Rat) / n) ^ (2 * (k + 1) + 1) = ((1 : Rat) / n) ^ (2 * k + 1) / ((n * n : Nat) : Rat) := by
 rw [show 2 * (k + 1) + 1 = 2 * k + 1 + 1 + 1 by omega, Rat.pow_succ, Rat.pow_succ, Rat.natCast_mul]
 grind
theorem aDC {x : Fx} {d M : Nat} (hd : 3 <= d) (he : x.e <= 3) : (aBx x d).e <= 3 /\ (x.a * M <= 1 -> True) := by
 unfold aBx W64
 dsimp only
 have : x.e / d <= 1 := by
   have := Nat.div_le_div_left hd (show 0 < 3 by decide) (a := x.e)
   omega
 constructor
 · have := Nat.mod_le (x.e / d + 2) 18446744073709551616; omega
 · intro _; trivial
theorem aKE {x : Fx} {d M N : Nat} (h : x.a * M <= N) : (aBx x d).a * (M * d) <= N := by
 unfold aBx
 dsimp only
 have h1 := Nat.div_mul_le_self x.a d
 have : x.a / d * (M * d) = x.a / d * d * M := by rw [Nat.mul_comm M, Nat.mul_assoc]
 rw [this]
 exact Nat.le_trans (Nat.mul_le_mul_right _ h1) h
theorem aEd {x : Fx} {q d : Nat} {a : Rat} (hd : 0 < d) (he : x.e <= 3) (h : x.enc q a a) : (aBx x d).enc q (a / d) (a / d) :=
 aLS hd (by have := Nat.div_le_self x.e d; unfold W64; omega) h
theorem aEW {n w : Nat} (hn : 3 <= n) : ∀ k, (invP n w k).enc w ((1 / (n : Rat)) ^ (2 * k + 1)) ((1 / (n : Rat)) ^ (2 * k + 1)) /\ (invP n w k).a * 2 ^ k <= 2 ^ w /\ (invP n w k).e <= 3
 | 0 => by
   have h := aEd (d := n) (by omega) (by simp [oneF]) (aQV w)
   refine ⟨?_, ?_, (aDC (M := 0) hn (by simp [oneF])).1⟩
   · rw [Nat.mul_zero, Rat.pow_succ, Rat.pow_zero, Rat.one_mul]; exact h
   · simp only [invP, aBx, oneF, Nat.pow_zero, Nat.mul_one]; exact Nat.div_le_self _ _
 | k + 1 => by
   obtain ⟨h1, h2, h3⟩ := aEW (w := w) hn k
   have hnn : 3 <= n * n := by have := Nat.mul_le_mul hn hn; omega
   refine ⟨?_, ?_, (aDC (M := 0) hnn h3).1⟩
   · rw [aRr]; exact aEd (by omega) h3 h1
   · have h4 := aKE (d := n * n) h2
     have h5 : 2 ^ (k + 1) <= 2 ^ k * (n * n) := by rw [Nat.pow_succ]; exact Nat.mul_le_mul_left _ (by omega)
     exact Nat.le_trans (Nat.mul_le_mul_left _ h5) h4
theorem aSj (z : Rat) : atT z 0 = z ^ (2 * 0 + 1) := by
 unfold atT
 have : ((2 * 0 : Nat) : Rat) = 0 := rfl
 rw [this]; grind
theorem aF7 {n w : Nat} (hn : 3 <= n) (k : Nat) : (invT n w k).enc w (atT (1 / (n : Rat)) k) (atT (1 / (n : Rat)) k) /\ (invT n w k).a * 2 ^ k <= 2 ^ w /\ (invT n w k).e <= 3 := by
 obtain ⟨h1, h2, h3⟩ := aEW (w := w) hn k
 unfold invT
 by_cases hk : k = 0
 · subst hk
   rw [if_pos rfl, aSj]
   exact ⟨h1, h2, h3⟩
 · rw [if_neg hk]
   have h := aEd (d := 2 * k + 1) (by omega) h3 h1
   refine ⟨?_, ?_, (aDC (M := 0) (by omega) h3).1⟩
   · unfold atT
     have e : ((2 * k + 1 : Nat) : Rat) = ((2 * k : Nat) : Rat) + 1 := by rw [Rat.natCast_add]; rfl
     rw [<- e]; exact h
   · have h4 := aKE (d := 2 * k + 1) h2
     exact Nat.le_trans (Nat.mul_le_mul_left _ (Nat.le_mul_of_pos_right _ (by omega))) h4
theorem aGx {a w : Nat} (h : a * 2 ^ (w + 1) <= 2 ^ w) : a = 0 := by
 apply Nat.eq_zero_of_not_pos; intro hp
 have := Nat.mul_le_mul_right (2 ^ (w + 1)) hp
 have := Nat.pow_lt_pow_right (show 1 < 2 by decide) (show w < w + 1 by omega)
 omega
theorem aHz {n w : Nat} (hn : 3 <= n) : (invT n w (invK n w)).a = 0 /\ 1 <= invK n w /\ invK n w <= w + 1 /\ ∀ j, 1 <= j -> j < invK n w -> (invT n w j).a ≠ 0 :=
 aDH (fun k => (invT n w k).a) (aGx (aF7 hn (w + 1)).2.1) (w + 1) 1 (by omega) (by omega)
theorem aKu {n : Nat} (hn : 3 <= n) : 0 <= 1 / (n : Rat) /\ 1 / (n : Rat) <= 1 / 3 := by
 have h3 : (3 : Rat) <= (n : Rat) := Rat.natCast_le_natCast.2 hn
 refine ⟨aCf (by grind) (by grind), ?_⟩
 rw [aA0 (by grind)]; grind
theorem aSi {z : Rat} (h0 : 0 <= z) (h1 : z <= 1 / 3) (K : Nat) : atB z K <= atS z K + 2 * atT z K := by
 unfold atB atT
 have hq : z * z <= 1 / 9 := by have := aAO h1 h1 h0 (by grind); grind
 have hp := aDr (2 * K)
 have hz := aFa h0 (2 * K + 1)
 have : z ^ (2 * K + 1) / ((((2 * K : Nat) : Rat) + 1) * (1 - z * z)) <= 2 * (z ^ (2 * K + 1) / (((2 * K : Nat) : Rat) + 1)) := by
   rw [aA0 (Rat.mul_pos hp (by grind))]
   have e : 2 * (z ^ (2 * K + 1) / (((2 * K : Nat) : Rat) + 1)) * ((((2 * K : Nat) : Rat) + 1) * (1 - z * z)) = 2 * z ^ (2 * K + 1) * (1 - z * z) := by
     have : ((2 * K : Nat) : Rat) + 1 ≠ 0 := by grind
     grind
   rw [e]
   have := Rat.mul_le_mul_of_nonneg_left (show 1 <= 2 * (1 - z * z) by grind) hz
   grind
 grind
theorem aB3 {n times w : Nat} (hn : 3 <= n) (ht : times <= 64) (hw : w <= 1000000) :
   ∃ K, (aAA n times w).enc w (times * atS (1 / (n : Rat)) K) (times * atB (1 / (n : Rat)) K) /\ (aAA n times w).e <= times * (3 * w + 20) /\ 2 ^ w / n * times <= (aAA n times w).a := by
 obtain ⟨k1, k2, k3, _⟩ := aHz (w := w) hn
 obtain ⟨z0, z1⟩ := aKu hn
 have hT := aF7 (w := w) hn
 obtain ⟨s1, s2⟩ := aQf (T := invT n w) (t := atT (1 / (n : Rat))) (q := w) (B := 3) (K := invK n w) (fun j _ => (hT j).2.2) (by unfold W64; omega) (fun j _ => (hT j).1) k1
 have hd : 0 <= 8 / ((2 ^ w : Nat) : Rat) := aCf (by grind) (aCS w)
 have ht' := aSi z0 z1 (invK n w)
 have hse : (sumF (invT n w) (invK n w)).e * times <= (3 * w + 20) * times := Nat.mul_le_mul_right _ (by omega)
 have hse2 : (3 * w + 20) * times <= (3 * w + 20) * 64 := Nat.mul_le_mul_left _ ht
 have s3 := aIk (n := times) (by unfold W64; omega) (aLm s1 (c := atS (1 / (n : Rat)) (invK n w)) (d := atB (1 / (n : Rat)) (invK n w)) (by unfold atS; exact Rat.le_refl) (by unfold atS at ht'; grind))
 refine ⟨invK n w, ?_, ?_, ?_⟩
 · rw [Rat.mul_comm, Rat.mul_comm (times : Rat) (atB _ _)]; exact s3
 · have := Nat.mod_le ((sumF (invT n w) (invK n w)).e * times) W64
   unfold aAA aDU
   dsimp only
   rw [Nat.mul_comm times]; omega
 · obtain ⟨k, hk⟩ : ∃ k, invK n w = k + 1 := ⟨invK n w - 1, by omega⟩
   have := aRI (invT n w) k
   have e : (invT n w 0).a = 2 ^ w / n := rfl
   unfold aAA aDU
   dsimp only
   refine Nat.mul_le_mul_right _ ?_
   unfold sumF addF aBJ
   dsimp only
   rw [hk]; omega
theorem aDF {n w : Nat} (hn : 3 <= n) : ∀ k, (invQ n w k).enc w ((1 / (n : Rat)) ^ (2 * k + 1)) ((1 / (n : Rat)) ^ (2 * k + 1)) /\ (invQ n w k).a * 2 ^ k <= 2 ^ w /\ (invQ n w k).e <= 3
 | 0 => aEW (w := w) hn 0
 | k + 1 => by
   obtain ⟨h1, h2, h3⟩ := aDF (w := w) hn k
   have b1 := (aDC (M := 0) hn h3).1
   refine ⟨?_, ?_, (aDC (M := 0) hn b1).1⟩
   · have := aEd (d := n) (by omega) b1 (aEd (d := n) (by omega) h3 h1)
     rw [aRr, Rat.natCast_mul]
     have e : (1 / (n : Rat)) ^ (2 * k + 1) / n / n = (1 / (n : Rat)) ^ (2 * k + 1) / (n * n) := by
       have : (n : Rat) ≠ 0 := by have := Rat.natCast_pos.2 (show 0 < n by omega); grind
       grind
     rw [<- e]; exact this
   · have h4 := aKE (d := n) (aKE (d := n) h2)
     have h5 : 2 ^ (k + 1) <= 2 ^ k * n * n := by
       rw [Nat.pow_succ, Nat.mul_assoc]; exact Nat.mul_le_mul_left _ (by have := Nat.mul_le_mul hn hn; omega)
     exact Nat.le_trans (Nat.mul_le_mul_left _ h5) h4
theorem aL2 {n w : Nat} (hn : 3 <= n) (hw : w <= 1000000) : ∀ k, k <= w + 1 -> (plQ n w k).enc w (atS (1 / (n : Rat)) (k + 1)) (atS (1 / (n : Rat)) (k + 1)) /\ (plQ n w k).e <= 3 * (k + 1)
 | 0, _ => by
   obtain ⟨h1, _, h3⟩ := aDF (w := w) hn 0
   refine ⟨?_, h3⟩
   have e : atS (1 / (n : Rat)) (0 + 1) = (1 / (n : Rat)) ^ (2 * 0 + 1) := by
     unfold atS; simp only [aA5]; rw [aSj]; grind
   rw [e]; exact h1
 | k + 1, hk => by
   obtain ⟨h1, h2⟩ := aL2 hn hw k (by omega)
   obtain ⟨g1, _, g3⟩ := aDF (w := w) hn (k + 1)
   have g4 := (aDC (M := 0) (d := 2 * k + 3) (by omega) g3).1
   have g5 := aEd (d := 2 * k + 3) (by omega) g3 g1
   have e : (1 / (n : Rat)) ^ (2 * (k + 1) + 1) / ((2 * k + 3 : Nat) : Rat) = atT (1 / (n : Rat)) (k + 1) := by
     unfold atT
     have : ((2 * k + 3 : Nat) : Rat) = ((2 * (k + 1) : Nat) : Rat) + 1 := by
       rw [show 2 * k + 3 = 2 * (k + 1) + 1 by omega, Rat.natCast_add]; rfl
     rw [this]
   rw [e] at g5
   refine ⟨aFU (by unfold W64; omega) h1 g5, ?_⟩
   rw [plQ]
   unfold addF
   dsimp only
   have := Nat.mod_le ((plQ n w k).e + (aBx (invQ n w (k + 1)) (2 * k + 3)).e) W64
   omega
theorem aGC {n w : Nat} (hn : 3 <= n) : (invQ n w (aDe n w)).a = 0 /\ aDe n w <= w + 1 /\ ∀ j, j < aDe n w -> (invQ n w j).a ≠ 0 := by
 obtain ⟨a, _, b, c⟩ := aDH (fun k => (invQ n w k).a) (aGx (aDF hn (w + 1)).2.1) (w + 1) 0 (by omega) (by omega)
 exact ⟨a, b, fun j hj => c j (by omega) hj⟩
theorem aQN (n w : Nat) : ∀ k, 2 ^ w / n <= (plQ n w k).a
 | 0 => Nat.le_refl _
 | k + 1 => by have := aQN n w k; rw [plQ]; unfold addF; dsimp only; omega
theorem aGo {n w : Nat} (hn : 3 <= n) (hw : w <= 1000000) (h4 : 4 <= 2 ^ w / n) :
   ∃ K, (aBT n w).enc w (atS (1 / (n : Rat)) K) (atB (1 / (n : Rat)) K) /\ (aBT n w).e <= 3 * w + 20 := by
 obtain ⟨k1, k2, _⟩ := aGC (w := w) hn
 obtain ⟨z0, z1⟩ := aKu hn
 obtain ⟨p1, p2⟩ := aL2 hn hw (aDe n w) k2
 obtain ⟨g1, _, g3⟩ := aDF (w := w) hn (aDe n w)
 have hp := aCS w
 have hge := aQN n w (aDe n w)
 have e8 : 4 + 4 = 8 := rfl
 have hw1 : (aBJ (plQ n w (aDe n w)) 4).e = (plQ n w (aDe n w)).e + 4 := by unfold aBJ; dsimp only; exact Nat.mod_eq_of_lt (by unfold W64; omega)
 have hw2 : (aBJ ⟨0, 0⟩ 4).e = 4 := by unfold aBJ W64; rfl
 have hz : z0 = z0 := rfl
 have ht : (2 * atT (1 / (n : Rat)) (aDe n w + 1)) * ((2 ^ w : Nat) : Rat) <= ((4 : Nat) : Rat) := by
   have h1 := g1.2
   rw [k1] at h1
   have h2 : ((invQ n w (aDe n w)).e : Rat) <= ((3 : Nat) : Rat) := Rat.natCast_le_natCast.2 g3
   have h3 : ((3 : Nat) : Rat) = 3 := rfl
   have h5 : ((0 : Nat) : Rat) = 0 := rfl
   have h6 : ((4 : Nat) : Rat) = 4 := rfl
   have h7 : atT (1 / (n : Rat)) (aDe n w + 1) <= (1 / (n : Rat)) ^ (2 * aDe n w + 1) * (1 / 9) := by
     unfold atT
     rw [aA0 (aDr _), show 2 * (aDe n w + 1) + 1 = 2 * aDe n w + 1 + 1 + 1 by omega, Rat.pow_succ, Rat.pow_succ]
     have a1 : (1 / (n : Rat)) * (1 / (n : Rat)) <= 1 / 9 := by have := aAO z1 z1 z0 (by grind); grind
     have a2 := aFa z0 (2 * aDe n w + 1)
     have a3 := Rat.mul_le_mul_of_nonneg_left a1 a2
     have a4 := aEm (2 * (aDe n w + 1))
     have a5 := Rat.mul_nonneg (Rat.mul_nonneg a2 (show (0 : Rat) <= 1 / 9 by grind)) a4
     grind
   have h8 := Rat.mul_le_mul_of_nonneg_right h7 (Rat.le_of_lt hp)
   rw [h6]
   grind
 have p3 := aIx (n := 4) (by unfold W64; omega) p1 ht
 have p4 : (aBJ ⟨0, 0⟩ 4).enc w 0 0 := by
   unfold Fx.enc
   rw [hw2]
   have h5 : ((0 : Nat) : Rat) = 0 := rfl
   have h6 : ((4 : Nat) : Rat) = 4 := rfl
   have e : (aBJ ⟨0, 0⟩ 4).a = 0 := rfl
   rw [e, h5, h6]; constructor <;> grind
 have p5 := aQj (by rw [hw1, hw2]; unfold W64; omega) (by rw [hw2]; have e : (aBJ ⟨0, 0⟩ 4).a = 0 := rfl; have e2 : (aBJ (plQ n w (aDe n w)) 4).a = (plQ n w (aDe n w)).a := rfl; rw [e, e2]; omega) p3 p4
 refine ⟨aDe n w + 1, aLm p5 (by grind) ?_, ?_⟩
 · have := aSi z0 z1 (aDe n w + 1); grind
 · unfold aBT subF
   dsimp only
   rw [hw1, hw2]
   have := Nat.mod_le ((plQ n w (aDe n w)).e + 4 + 4) W64
   omega
end
section
theorem aG9 {t y : Rat} (h : expH t y) : ∀ n : Nat, expH ((n : Rat) * t) (y ^ n)
 | 0 => by
   have : ((0 : Nat) : Rat) = 0 := rfl
   rw [this, Rat.zero_mul, Rat.pow_zero]; exact aC0
 | n + 1 => by
   have e : ((n + 1 : Nat) : Rat) = (n : Rat) + 1 := by rw [Rat.natCast_add]; rfl
   rw [e, Rat.pow_succ, show ((n : Rat) + 1) * t = n * t + t by grind]
   exact aEb (aG9 h n) h
theorem aG8 {t x : Rat} (hx : 0 <= x) (h : expL t x) : ∀ n : Nat, expL ((n : Rat) * t) (x ^ n)
 | 0 => by
   have : ((0 : Nat) : Rat) = 0 := rfl
   rw [this, Rat.zero_mul, Rat.pow_zero]; exact aDu
 | n + 1 => by
   have e : ((n + 1 : Nat) : Rat) = (n : Rat) + 1 := by rw [Rat.natCast_add]; rfl
   rw [e, Rat.pow_succ, show ((n : Rat) + 1) * t = n * t + t by grind]
   exact aDR (aFa hx n) hx (aG8 hx h n) h
theorem aHZ {n : Nat} (hn : 3 <= n) (c K : Nat) : lnL ((2 * c : Nat) * atS (1 / (n : Rat)) K) (gq (1 / (n : Rat)) ^ c) /\ lnH ((2 * c : Nat) * atB (1 / (n : Rat)) K) (gq (1 / (n : Rat)) ^ c) := by
 obtain ⟨z0, z1⟩ := aKu hn
 have e : ((2 * c : Nat) : Rat) = 2 * (c : Rat) := by rw [Rat.natCast_mul]; rfl
 have h1 := aG9 (aW8 z0 (by grind) K) c
 have h2 := aG8 (Rat.le_of_lt (aKa z0 (by grind))) (aW9 z0 (by grind) K) c
 rw [e]
 constructor
 · rw [show 2 * (c : Rat) * atS (1 / (n : Rat)) K = c * (2 * atS (1 / (n : Rat)) K) by grind]; exact h1
 · rw [show 2 * (c : Rat) * atB (1 / (n : Rat)) K = c * (2 * atB (1 / (n : Rat)) K) by grind]; exact h2
theorem gq_n (n a b : Nat) (hn : 3 <= n) (hb : 0 < b) (h : (n + 1) * b = a * (n - 1)) : gq (1 / (n : Rat)) = (a : Rat) / b := by
 unfold gq
 have h1 : ((n + 1 : Nat) : Rat) * b = a * ((n - 1 : Nat) : Rat) := by rw [<- Rat.natCast_mul, <- Rat.natCast_mul, h]
 rw [aFb (by omega), Rat.natCast_add] at h1
 have e1 : ((1 : Nat) : Rat) = 1 := rfl
 rw [e1] at h1
 have h3 : (3 : Rat) <= (n : Rat) := Rat.natCast_le_natCast.2 hn
 have hb0 : (0 : Rat) < (b : Rat) := Rat.natCast_pos.2 hb
 have e2 : (1 + 1 / (n : Rat)) / (1 - 1 / (n : Rat)) = ((n : Rat) + 1) / ((n : Rat) - 1) := by
   have n1 : (n : Rat) ≠ 0 := by grind
   have n2 : (n : Rat) - 1 ≠ 0 := by grind
   have e3 : 1 - 1 / (n : Rat) = ((n : Rat) - 1) / n := by grind
   have e4 : 1 + 1 / (n : Rat) = ((n : Rat) + 1) / n := by grind
   rw [e3, e4, Rat.div_def, Rat.div_def, Rat.div_def, Rat.div_def]; grind
 rw [e2]
 have n2 : (n : Rat) - 1 ≠ 0 := by grind
 have n3 : (b : Rat) ≠ 0 := by grind
 grind
def LnF (x : Fx) (w : Nat) (r : Rat) : Prop := ∃ lo hi : Rat, x.enc w lo hi /\ lnL lo r /\ lnH hi r
theorem aMc {lo lo' r s : Rat} (h1 : lnL lo r) (h2 : lnL lo' s) : lnL (lo + lo') (r * s) := aEb h1 h2
theorem aI2 {lo lo' r s : Rat} (hr : 0 <= r) (hs : 0 <= s) (h1 : lnH lo r) (h2 : lnH lo' s) : lnH (lo + lo') (r * s) := aDR hr hs h1 h2
theorem aQd : ((27 : Nat) / (25 : Nat) : Rat) ^ 9 * (1 / (((2401 : Nat) / (2400 : Nat) : Rat) ^ 1)) * ((4375 : Nat) / (4374 : Nat) : Rat) ^ 4 = 2 := by decide +kernel
theorem aQe : ((16 : Nat) / (15 : Nat) : Rat) ^ 23 * ((25 : Nat) / (24 : Nat) : Rat) ^ 17 * ((81 : Nat) / (80 : Nat) : Rat) ^ 10 = 10 := by decide +kernel
theorem aIW : ∀ w : Nat, 16 <= w -> 1000 * w <= 2 ^ w
 | 0, h => by omega
 | w + 1, h => by
   by_cases h2 : w = 15
   · subst h2; decide
   · have := aIW w (by omega)
     rw [Nat.pow_succ]; omega
theorem aUP {n : Nat} (hn : 3 <= n) (K : Nat) : atS (1 / (n : Rat)) K <= 9 / 8 * (1 / (n : Rat)) := by
 obtain ⟨z0, z1⟩ := aKu hn
 have h := aOP (y := 0) (z := 1 / (n : Rat)) Rat.le_refl z0 (by grind) K
 have h0 := aOO (z := 0) Rat.le_refl K
 have e : atS 0 K = 0 := by
   have h2 : ∀ k, atT 0 k = 0 := fun k => by unfold atT; rw [Rat.pow_succ]; grind
   clear h h0
   unfold atS
   induction K with
   | zero => rfl
   | succ n ih => simp only [aA5]; rw [ih, h2]; grind
 rw [e] at h
 have hq : (1 / (n : Rat)) * (1 / (n : Rat)) <= 1 / 9 := by have := aAO z1 z1 z0 (by grind); grind
 refine Rat.le_trans (by grind) (show (1 / (n : Rat) - 0) / (1 - 1 / (n : Rat) * (1 / (n : Rat))) <= _ from ?_)
 rw [aA0 (by grind)]
 have := Rat.mul_le_mul_of_nonneg_left hq z0
 grind
theorem aJ3 {w : Nat} (h1 : 16 <= w) (h2 : w <= 1000000) : LnF (ln2F w) w 2 /\ (ln2F w).e <= 28 * (3 * w + 20) := by
 obtain ⟨K1, a1, a2, a3⟩ := aB3 (n := 26) (times := 18) (w := w) (by decide) (by decide) h2
 obtain ⟨K2, b1, b2, b3⟩ := aB3 (n := 4801) (times := 2) (w := w) (by decide) (by decide) h2
 obtain ⟨K3, c1, c2, c3⟩ := aB3 (n := 8749) (times := 8) (w := w) (by decide) (by decide) h2
 obtain ⟨l1, u1⟩ := aHZ (n := 26) (by decide) 9 K1
 obtain ⟨l2, u2⟩ := aHZ (n := 4801) (by decide) 1 K2
 obtain ⟨l3, u3⟩ := aHZ (n := 8749) (by decide) 4 K3
 rw [gq_n 26 27 25 (by decide) (by decide) (by decide)] at l1 u1
 rw [gq_n 4801 2401 2400 (by decide) (by decide) (by decide)] at l2 u2
 rw [gq_n 8749 4375 4374 (by decide) (by decide) (by decide)] at l3 u3
 have hle : (aAA 4801 2 w).a + (aAA 4801 2 w).e <= (aAA 26 18 w).a := by
   have h3 := b1.1
   have h4 := aUP (n := 4801) (by decide) K2
   have h5 := Rat.mul_le_mul_of_nonneg_right (Rat.mul_le_mul_of_nonneg_left h4 (show (0 : Rat) <= ((2 : Nat) : Rat) by decide)) (Rat.le_of_lt (aCS w))
   have h6 := Rat.le_trans h3 h5
   have h7 : (((aAA 4801 2 w).a * 2000 : Nat) : Rat) <= ((2 ^ w : Nat) : Rat) := by
     rw [Rat.natCast_mul]
     have e1 : ((2000 : Nat) : Rat) = 2000 := rfl
     have e2 : ((2 : Nat) : Rat) * (9 / 8 * (1 / ((4801 : Nat) : Rat))) <= 1 / 2000 := by decide +kernel
     have := Rat.mul_le_mul_of_nonneg_right e2 (Rat.le_of_lt (aCS w))
     rw [e1]; grind
   have h8 := Rat.natCast_le_natCast.1 h7
   have h9 := aIW w h1
   omega
 have s1 := aQj (by unfold W64; omega) hle a1 b1
 have e1 : (subF (aAA 26 18 w) (aAA 4801 2 w)).e <= (aAA 26 18 w).e + (aAA 4801 2 w).e := Nat.mod_le _ _
 have s2 := aFU (by unfold W64; omega) s1 c1
 refine ⟨⟨_, _, s2, ?_, ?_⟩, ?_⟩
 · rw [<- aQd]
   refine aMc ?_ l3
   have := aMc l1 (aDS (Rat.pow_pos (by decide +kernel)) u2)
   rwa [Rat.sub_eq_add_neg]
 · rw [<- aQd]
   refine aI2 ?_ ?_ ?_ u3
   · decide +kernel
   · decide +kernel
   · have := aI2 (by decide +kernel) (by decide +kernel) u1 (aFh l2)
     rwa [Rat.sub_eq_add_neg]
 · unfold ln2F addF
   dsimp only
   have := Nat.mod_le ((subF (aAA 26 18 w) (aAA 4801 2 w)).e + (aAA 8749 8 w).e) W64
   omega
theorem aI4 {w : Nat} (h2 : w <= 1000000) : LnF (aDV w) w 10 /\ (aDV w).e <= 100 * (3 * w + 20) := by
 obtain ⟨K1, a1, a2, a3⟩ := aB3 (n := 31) (times := 46) (w := w) (by decide) (by decide) h2
 obtain ⟨K2, b1, b2, b3⟩ := aB3 (n := 49) (times := 34) (w := w) (by decide) (by decide) h2
 obtain ⟨K3, c1, c2, c3⟩ := aB3 (n := 161) (times := 20) (w := w) (by decide) (by decide) h2
 obtain ⟨l1, u1⟩ := aHZ (n := 31) (by decide) 23 K1
 obtain ⟨l2, u2⟩ := aHZ (n := 49) (by decide) 17 K2
 obtain ⟨l3, u3⟩ := aHZ (n := 161) (by decide) 10 K3
 rw [gq_n 31 16 15 (by decide) (by decide) (by decide)] at l1 u1
 rw [gq_n 49 25 24 (by decide) (by decide) (by decide)] at l2 u2
 rw [gq_n 161 81 80 (by decide) (by decide) (by decide)] at l3 u3
 have s1 := aFU (by unfold W64; omega) a1 b1
 have e1 : (addF (aAA 31 46 w) (aAA 49 34 w)).e <= (aAA 31 46 w).e + (aAA 49 34 w).e := Nat.mod_le _ _
 have s2 := aFU (by unfold W64; omega) s1 c1
 refine ⟨⟨_, _, s2, ?_, ?_⟩, ?_⟩
 · rw [<- aQe]
   exact aMc (aMc l1 l2) l3
 · rw [<- aQe]
   exact aI2 (by decide +kernel) (by decide +kernel) (aI2 (by decide +kernel) (by decide +kernel) u1 u2) u3
 · unfold aDV addF
   dsimp only
   have := Nat.mod_le ((addF (aAA 31 46 w) (aAA 49 34 w)).e + (aAA 161 20 w).e) W64
   unfold addF at this
   dsimp only at this
   have := Nat.mod_le ((aAA 31 46 w).e + (aAA 49 34 w).e) W64
   omega
theorem aHu {w : Nat} (h1 : 16 <= w) (h2 : w <= 1000000) : LnF (ln2Q w) w 2 /\ (ln2Q w).e <= 2 * (3 * w + 20) := by
 have hb := aIW w h1
 obtain ⟨K, a1, a2⟩ := aGo (n := 3) (w := w) (by decide) h2 (by omega)
 obtain ⟨l1, u1⟩ := aHZ (n := 3) (by decide) 1 K
 rw [gq_n 3 2 1 (by decide) (by decide) (by decide)] at l1 u1
 have s1 := aIk (n := 2) (by unfold W64; omega) a1
 have e : (((2 : Nat) : Rat) / ((1 : Nat) : Rat)) ^ 1 = 2 := by decide +kernel
 rw [e] at l1 u1
 refine ⟨⟨_, _, s1, ?_, ?_⟩, ?_⟩
 · rw [Rat.mul_comm]; exact l1
 · rw [Rat.mul_comm]; exact u1
 · unfold ln2Q aDU
   dsimp only
   have := Nat.mod_le ((aBT 3 w).e * 2) W64
   omega
theorem aI3 {w : Nat} (h1 : 16 <= w) (h2 : w <= 1000000) : LnF (aFG w) w 10 /\ (aFG w).e <= 8 * (3 * w + 20) := by
 have hb := aIW w h1
 obtain ⟨⟨lo, hi, a1, a2, a3⟩, a4⟩ := aHu h1 h2
 obtain ⟨K, b1, b2⟩ := aGo (n := 9) (w := w) (by decide) h2 (by omega)
 obtain ⟨l1, u1⟩ := aHZ (n := 9) (by decide) 1 K
 rw [gq_n 9 5 4 (by decide) (by decide) (by decide)] at l1 u1
 have s1 := aIk (n := 3) (by unfold W64; omega) a1
 have s2 := aIk (n := 2) (by unfold W64; omega) b1
 have e1 : (aDU (ln2Q w) 3).e <= (ln2Q w).e * 3 := Nat.mod_le _ _
 have e2 : (aDU (aBT 9 w) 2).e <= (aBT 9 w).e * 2 := Nat.mod_le _ _
 have s3 := aFU (by unfold W64; omega) s1 s2
 have e : (2 : Rat) ^ 3 * (((5 : Nat) : Rat) / ((4 : Nat) : Rat)) ^ 1 = 10 := by decide +kernel
 have p1 := aG9 a2 3
 have p2 := aG8 (by decide) a3 3
 refine ⟨⟨_, _, s3, ?_, ?_⟩, ?_⟩
 · rw [<- e]
   refine aMc ?_ ?_
   · rw [Rat.mul_comm]; exact p1
   · rw [Rat.mul_comm]; exact l1
 · rw [<- e]
   refine aI2 (by decide +kernel) (by decide +kernel) ?_ ?_
   · rw [Rat.mul_comm]; exact p2
   · rw [Rat.mul_comm]; exact u1
 · unfold aFG addF
   dsimp only
   have := Nat.mod_le ((aDU (ln2Q w) 3).e + (aDU (aBT 9 w) 2).e) W64
   omega
end
section
def aEv (m : Nat) (k : Int) : Nat := if 0 <= k then m * 2 ^ k.toNat else m / 2 ^ (-k).toNat
def aMg (m : Nat) (k : Int) : Bool := if 0 <= k then false else m % 2 ^ (-k).toNat != 0
theorem aUH (m : Nat) (k : Int) : (aEv m k : Rat) <= (m : Rat) * p2 k /\ (m : Rat) * p2 k < (aEv m k : Rat) + 1 /\ (aMg m k = false -> (aEv m k : Rat) = (m : Rat) * p2 k) := by
 unfold aEv aMg
 by_cases h : 0 <= k
 · rw [if_pos h, if_pos h, Rat.natCast_mul, aEC h]
   exact ⟨Rat.le_refl, by grind, fun _ => rfl⟩
 · rw [if_neg h, if_neg h]
   obtain ⟨j, hj⟩ : ∃ j : Nat, -k = (j : Int) := ⟨(-k).toNat, by omega⟩
   rw [hj, Int.toNat_natCast]
   have hd := aCY m (2 ^ j) (Nat.pow_pos (by decide))
   have e : ((2 ^ j : Nat) : Rat) * p2 k = 1 := by rw [<- aBE, <- aA9, <- hj, show -k + k = 0 by omega, aCt]
   have hp := aAz k
   have e2 : ∀ r : Rat, r * ((2 ^ j : Nat) : Rat) * p2 k = r := fun r => by rw [Rat.mul_assoc, e, Rat.mul_one]
   have h1 := Rat.mul_le_mul_of_nonneg_right hd.1 (Rat.le_of_lt hp)
   have h2 := Rat.mul_lt_mul_of_pos_right hd.2 hp
   rw [e2] at h1 h2
   refine ⟨h1, h2, fun hl => ?_⟩
   have h0 : m % 2 ^ j = 0 := by simpa using hl
   have h3 := Nat.div_add_mod m (2 ^ j)
   rw [h0, Nat.add_zero] at h3
   have h4 : (m : Rat) = ((m / 2 ^ j : Nat) : Rat) * ((2 ^ j : Nat) : Rat) := by rw [<- Rat.natCast_mul, Rat.natCast_inj, Nat.mul_comm]; exact h3.symm
   conv => rhs; rw [h4]
   rw [e2]
def aCu (a b : D) (p : Int) (up : Bool) : D :=
 if (oneD a).m = 0 then ⟨false, 0, 0⟩ else
 cutD (aAL ((oneD a).neg != (oneD b).neg)
   (stk (aEv (oneD a).m (p + 2 + ((bl (oneD b).m : Nat) : Int) - ((bl (oneD a).m : Nat) : Int)) / (oneD b).m)
     (aEv (oneD a).m (p + 2 + ((bl (oneD b).m : Nat) : Int) - ((bl (oneD a).m : Nat) : Int)) % (oneD b).m != 0 || aMg (oneD a).m (p + 2 + ((bl (oneD b).m : Nat) : Int) - ((bl (oneD a).m : Nat) : Int))))
   ((oneD a).e - (oneD b).e - (p + 2 + ((bl (oneD b).m : Nat) : Int) - ((bl (oneD a).m : Nat) : Int)) - 1)) p up
theorem aQR (a b : D) (hb : b.v ≠ 0) {p : Int} (hp : 1 <= p) (up : Bool) : Cutd (a.v / b.v) p up (aCu a b p up) := by
 unfold aCu
 rw [<- aC6 a, <- aC6 b] at *
 generalize oneD a = a at *
 generalize oneD b = b at *
 have hbm : b.m ≠ 0 := fun h => hb (aBL.2 h)
 by_cases ha : a.m = 0
 · rw [if_pos ha, aBL.2 ha]
   have e : (0 : Rat) / b.v = 0 := by grind
   rw [e]; exact aLA p up
 rw [if_neg ha]
 generalize hk : p + 2 + ((bl b.m : Nat) : Int) - ((bl a.m : Nat) : Int) = k
 obtain ⟨l1, l2, l3⟩ := aUH a.m k
 have hd := aCY (aEv a.m k) b.m (by omega)
 have hb0 : (0 : Rat) < (b.m : Rat) := Rat.natCast_pos.2 (by omega)
 refine aL6 a b ha hbm hp up (by omega) (Rat.le_trans hd.1 l1) ?_ ?_
 ·
   have h2 : ((aEv a.m k + 1 : Nat) : Rat) <= (((aEv a.m k / b.m + 1) * b.m : Nat) : Rat) := by
     apply Rat.natCast_le_natCast.2
     have h3 := Nat.div_add_mod (aEv a.m k) b.m
     have h4 := Nat.mod_lt (aEv a.m k) (show 0 < b.m by omega)
     rw [Nat.add_mul, Nat.one_mul, Nat.mul_comm]; omega
   rw [Rat.natCast_add, Rat.natCast_mul, Rat.natCast_add] at h2
   have e1 : ((1 : Nat) : Rat) = 1 := rfl
   rw [e1] at h2
   grind
 · intro h
   rw [Bool.or_eq_false_iff] at h
   have h0 : aEv a.m k % b.m = 0 := by simpa using h.1
   rw [<- l3 h.2, <- Rat.natCast_mul, Rat.natCast_inj]
   have := Nat.div_add_mod (aEv a.m k) b.m
   rw [h0, Nat.add_zero, Nat.mul_comm] at this
   exact this.symm
def divR (a b : Iv) (p : Int) : Iv := divO aCu a b p
def tQ (r w more : Nat) : Nat -> Nat
 | 0 => 2 ^ w
 | k + 1 => tQ r w more k * r / 2 ^ w / (k + 1 + more)
def sQ (r w more : Nat) : Nat -> Nat
 | 0 => 2 ^ w
 | k + 1 => sQ r w more k + tQ r w more (k + 1)
def nQ (r w more : Nat) : Nat := aFK (tQ r w more) (w + 1) 0
def aCb (r w more : Nat) : Iv := ⟨aAL false (sQ r w more (nQ r w more)) (-(w : Int)), aAL false (sQ r w more (nQ r w more) + (2 * nQ r w more + 8)) (-(w : Int))⟩
def aBc (d : D) (w : Nat) : Nat := aEv (oneD d).m ((oneD d).e + (w : Int))
theorem aNx {d : D} {w : Nat} (h : 0 <= d.v) : (aBc d w : Rat) <= d.v * (2 ^ w : Nat) /\ d.v * (2 ^ w : Nat) < (aBc d w : Rat) + 1 := by
 unfold aBc
 rw [<- aC6 d] at *
 generalize oneD d = d at *
 obtain ⟨l1, l2, _⟩ := aUH d.m (d.e + (w : Int))
 rw [aA9, aBE] at l1 l2
 have hv : d.v = d.av := by
   rw [v_av]
   by_cases h0 : d.m = 0
   · have : d.av = 0 := by unfold D.av; rw [h0]; have : ((0 : Nat) : Rat) = 0 := rfl; grind
     rw [this]; grind
   · have hn : d.neg = false := by
       cases hn : d.neg with
       | false => rfl
       | true => have := (aB0 h0).1 hn; grind
     rw [hn]; have : sg false = 1 := rfl; grind
 have ha : d.av = (d.m : Rat) * p2 d.e := rfl
 rw [hv, ha]
 constructor <;> grind
theorem aKz {r w more : Nat} {x : Rat} (hx0 : 0 <= x) (hx8 : x * 256 <= 1) (h1 : (r : Rat) <= x * (2 ^ w : Nat)) (h2 : x * (2 ^ w : Nat) < (r : Rat) + 1) :
   ∀ k, (tQ r w more k : Rat) <= aA8 x more k * (2 ^ w : Nat) /\ aA8 x more k * (2 ^ w : Nat) <= (tQ r w more k : Rat) + 2 /\ (1 <= k -> aA8 x more k * 256 <= 1) /\ aA8 x more k <= 1 /\ tQ r w more k * 2 ^ k <= 2 ^ w := by
 have hp := aCS w
 have hpn : 0 < 2 ^ w := Nat.pow_pos (by decide)
 have hr8 : r * 256 <= 2 ^ w := by
   apply Rat.natCast_le_natCast.1
   rw [Rat.natCast_mul]
   have := Rat.mul_le_mul_of_nonneg_right hx8 (Rat.le_of_lt hp)
   have e : ((256 : Nat) : Rat) = 256 := rfl
   rw [e]; grind
 intro k
 induction k with
 | zero =>
   simp only [tQ, aA8]
   refine ⟨by grind, by grind, by omega, Rat.le_refl, by simp⟩
 | succ k ih =>
   obtain ⟨a1, a2, a3, a4, a5⟩ := ih
   have hn := aER hx0 more k
   have hk0 : (0 : Rat) < ((k + 1 + more : Nat) : Rat) := Rat.natCast_pos.2 (by omega)
   have hk1 : (1 : Rat) <= ((k + 1 + more : Nat) : Rat) := Rat.natCast_le_natCast.2 (show 1 <= k + 1 + more by omega)
   have d1 := aCY (tQ r w more k * r) (2 ^ w) hpn
   have d2 := aCY (tQ r w more k * r / 2 ^ w) (k + 1 + more) (by omega)
   have hsx : aA8 x more k * x * 256 <= 1 := by
     have := aAO a4 hx8 (by grind) (by grind); grind
   have hmul : 0 <= aA8 x more k * x := Rat.mul_nonneg hn hx0
   simp only [tQ, aA8]
   refine ⟨?_, ?_, fun _ => ?_, ?_, ?_⟩
   ·
     have e : aA8 x more k * x / ((k + 1 + more : Nat) : Rat) * ((2 ^ w : Nat) : Rat) = aA8 x more k * x * ((2 ^ w : Nat) : Rat) / ((k + 1 + more : Nat) : Rat) := by rw [Rat.div_def, Rat.div_def]; grind
     rw [e, aBw hk0]
     refine Rat.le_trans d2.1 ?_
     refine Rat.le_of_mul_le_mul_right (Rat.le_trans d1.1 ?_) hp
     rw [Rat.natCast_mul]
     have := aAO a1 h1 Rat.natCast_nonneg (Rat.mul_nonneg hn (Rat.le_of_lt hp))
     grind
   ·
     have e : aA8 x more k * x / ((k + 1 + more : Nat) : Rat) * ((2 ^ w : Nat) : Rat) = aA8 x more k * x * ((2 ^ w : Nat) : Rat) / ((k + 1 + more : Nat) : Rat) := by rw [Rat.div_def, Rat.div_def]; grind
     rw [e, aA0 hk0]
     have key : aA8 x more k * x * ((2 ^ w : Nat) : Rat) <= ((tQ r w more k * r / 2 ^ w : Nat) : Rat) + (if k = 0 then 1 else 2) := by
       by_cases hk : k = 0
       · subst hk
         rw [if_pos rfl]
         have e0 : tQ r w more 0 * r / 2 ^ w = r := by simp only [tQ]; exact Nat.mul_div_cancel_left r hpn
         rw [e0]
         have e1 : aA8 x more 0 = 1 := rfl
         rw [e1]; grind
       · rw [if_neg hk]
         have b1 := a3 (by omega)
         refine Rat.le_of_mul_le_mul_right (c := ((2 ^ w : Nat) : Rat)) ?_ hp
         rw [Rat.natCast_mul] at d1
         have b2 := d1.2
         have b3 := Rat.mul_le_mul_of_nonneg_right a2 (show 0 <= x * ((2 ^ w : Nat) : Rat) from Rat.mul_nonneg hx0 (Rat.le_of_lt hp))
         have b4 := Rat.mul_le_mul_of_nonneg_left (Rat.le_of_lt h2) (show (0 : Rat) <= (tQ r w more k : Rat) from Rat.natCast_nonneg)
         have b5 : (tQ r w more k : Rat) * 256 <= ((2 ^ w : Nat) : Rat) := by
           have := Rat.mul_le_mul_of_nonneg_right b1 (Rat.le_of_lt hp); grind
         have b6 : x * ((2 ^ w : Nat) : Rat) * 256 <= ((2 ^ w : Nat) : Rat) := by
           have := Rat.mul_le_mul_of_nonneg_right hx8 (Rat.le_of_lt hp); grind
         grind
     refine Rat.le_trans key ?_
     have d3 := d2.2
     by_cases hk : k = 0
     · subst hk; rw [if_pos rfl]; grind
     · rw [if_neg hk]
       have hk2 : (2 : Rat) <= ((k + 1 + more : Nat) : Rat) := Rat.natCast_le_natCast.2 (show 2 <= k + 1 + more by omega)
       grind
   · rw [Rat.div_def]
     have : aA8 x more k * x / ((k + 1 + more : Nat) : Rat) <= aA8 x more k * x := by
       rw [aA0 hk0]
       have := Rat.mul_le_mul_of_nonneg_left hk1 hmul; grind
     rw [Rat.div_def] at this
     grind
   · rw [aA0 hk0]; grind
   · have b1 : tQ r w more k * r / 2 ^ w / (k + 1 + more) <= tQ r w more k * r / 2 ^ w := Nat.div_le_self _ _
     have b2 : tQ r w more k * r / 2 ^ w * 256 <= tQ r w more k := by
       have b3 : tQ r w more k * r * 256 <= tQ r w more k * 2 ^ w := by rw [Nat.mul_assoc]; exact Nat.mul_le_mul_left _ hr8
       have b4 := Nat.div_mul_le_self (tQ r w more k * r) (2 ^ w)
       apply Nat.le_of_mul_le_mul_right _ hpn
       have : tQ r w more k * r / 2 ^ w * 256 * 2 ^ w = tQ r w more k * r / 2 ^ w * 2 ^ w * 256 := by rw [Nat.mul_assoc, Nat.mul_comm 256, <- Nat.mul_assoc]
       rw [this]
       exact Nat.le_trans (Nat.mul_le_mul_right 256 b4) b3
     rw [Nat.pow_succ, Nat.mul_comm (2 ^ k), <- Nat.mul_assoc]
     refine Nat.le_trans (Nat.mul_le_mul_right _ ?_) a5
     omega
theorem aTk {r w more : Nat} {x : Rat} (hx0 : 0 <= x) (hx8 : x * 256 <= 1) (h1 : (r : Rat) <= x * (2 ^ w : Nat)) (h2 : x * (2 ^ w : Nat) < (r : Rat) + 1) :
   tQ r w more (nQ r w more) = 0 /\ nQ r w more <= w + 1 /\ ∀ j, j < nQ r w more -> tQ r w more j ≠ 0 := by
 have hz : tQ r w more (w + 1) = 0 := by
   have h := (aKz (more := more) hx0 hx8 h1 h2 (w + 1)).2.2.2.2
   apply Nat.eq_zero_of_not_pos; intro hp
   have := Nat.mul_le_mul_right (2 ^ (w + 1)) hp
   have := Nat.pow_lt_pow_right (show 1 < 2 by decide) (show w < w + 1 by omega)
   omega
 obtain ⟨a, _, b, c⟩ := aDH (tQ r w more) hz (w + 1) 0 (by omega) (by omega)
 exact ⟨a, b, fun j hj => c j (by omega) hj⟩
theorem aOd {r w more : Nat} {x : Rat} (hx0 : 0 <= x) (hx8 : x * 256 <= 1) (h1 : (r : Rat) <= x * (2 ^ w : Nat)) (h2 : x * (2 ^ w : Nat) < (r : Rat) + 1) :
   ∀ k, (sQ r w more k : Rat) <= aA5 (aA8 x more) (k + 1) * (2 ^ w : Nat) /\ aA5 (aA8 x more) (k + 1) * (2 ^ w : Nat) <= (sQ r w more k : Rat) + 2 * k
 | 0 => by
   have : ((0 : Nat) : Rat) = 0 := rfl
   simp only [sQ, aA5, aA8, this]; constructor <;> grind
 | k + 1 => by
   obtain ⟨a, b⟩ := aOd (more := more) hx0 hx8 h1 h2 k
   obtain ⟨c, d, _⟩ := aKz (more := more) hx0 hx8 h1 h2 (k + 1)
   have e : aA5 (aA8 x more) (k + 1 + 1) = aA5 (aA8 x more) (k + 1) + aA8 x more (k + 1) := rfl
   have e2 : ((k + 1 : Nat) : Rat) = (k : Rat) + 1 := by rw [Rat.natCast_add]; rfl
   rw [e, e2]
   simp only [sQ]
   rw [Rat.natCast_add]
   constructor <;> grind
theorem aHN {r w more : Nat} {x : Rat} (hx0 : 0 <= x) (hx8 : x * 256 <= 1) (h1 : (r : Rat) <= x * (2 ^ w : Nat)) (h2 : x * (2 ^ w : Nat) < (r : Rat) + 1) :
   (aCb r w more).lo.v <= aA5 (aA8 x more) (nQ r w more + 1) /\ aA5 (aA8 x more) (nQ r w more + 1) + 2 * aA8 x more (nQ r w more + 1) <= (aCb r w more).hi.v /\ 1 <= (aCb r w more).lo.v := by
 obtain ⟨n1, n2, _⟩ := aTk (more := more) hx0 hx8 h1 h2
 obtain ⟨s1, s2⟩ := aOd (more := more) hx0 hx8 h1 h2 (nQ r w more)
 obtain ⟨_, t2, _, _, _⟩ := aKz (more := more) hx0 hx8 h1 h2 (nQ r w more)
 have hp := aAz (-(w : Int))
 have e := aDA (w : Int)
 rw [aBE] at e
 have e2 : ∀ r : Rat, r * ((2 ^ w : Nat) : Rat) * p2 (-(w : Int)) = r := fun r => by rw [Rat.mul_assoc, Rat.mul_comm _ (p2 _), e, Rat.mul_one]
 have sf : sg false = 1 := rfl
 unfold aCb
 dsimp only
 rw [aCy, aCy, sf]
 refine ⟨?_, ?_, ?_⟩
 · have := Rat.mul_le_mul_of_nonneg_right s1 (Rat.le_of_lt hp)
   rw [e2] at this; grind
 · rw [n1] at t2
   have z : ((0 : Nat) : Rat) = 0 := rfl
   rw [z] at t2
   have hk0 : (0 : Rat) < ((nQ r w more + 1 + more : Nat) : Rat) := Rat.natCast_pos.2 (by omega)
   have hn := aER hx0 more (nQ r w more)
   have h3 : aA8 x more (nQ r w more + 1) <= aA8 x more (nQ r w more) := by
     simp only [aA8]
     rw [aA0 hk0]
     have hk1 : (1 : Rat) <= ((nQ r w more + 1 + more : Nat) : Rat) := Rat.natCast_le_natCast.2 (show 1 <= nQ r w more + 1 + more by omega)
     have g1 := Rat.mul_le_mul_of_nonneg_left (show x <= 1 by grind) hn
     have g2 := Rat.mul_le_mul_of_nonneg_left hk1 hn
     grind
   have h4 := Rat.mul_le_mul_of_nonneg_right h3 (Rat.le_of_lt (aCS w))
   have h5 : (aA5 (aA8 x more) (nQ r w more + 1) + 2 * aA8 x more (nQ r w more + 1)) * ((2 ^ w : Nat) : Rat) <= ((sQ r w more (nQ r w more) + (2 * nQ r w more + 8) : Nat) : Rat) := by
     rw [Rat.natCast_add, Rat.natCast_add, Rat.natCast_mul]
     have e8 : ((8 : Nat) : Rat) = 8 := rfl
     have e22 : ((2 : Nat) : Rat) = 2 := rfl
     rw [e8, e22]
     grind
   have := Rat.mul_le_mul_of_nonneg_right h5 (Rat.le_of_lt hp)
   rw [e2] at this; grind
 · have g : 2 ^ w <= sQ r w more (nQ r w more) := by
     generalize nQ r w more = k
     induction k with
     | zero => exact Nat.le_refl _
     | succ k ih => simp only [sQ]; omega
   have g2 := Rat.mul_le_mul_of_nonneg_right (Rat.natCast_le_natCast.2 g) (Rat.le_of_lt hp)
   have := e2 1
   grind
end
section
def ExpE (v : Iv) (t : Rat) : Prop := 0 < v.lo.v /\ expL t v.lo.v /\ expH t v.hi.v
theorem aJj {v : Iv} {t : Rat} (h : ExpE v t) : v.lo.v <= v.hi.v := aAM h.2.1 h.2.2 Rat.le_refl
theorem aN9 {p : Int} (hp : 2 <= p) : ∀ (n : Nat) (v : Iv) (t : Rat), ExpE v t -> ExpE (sqI p n v) (t * (2 ^ n : Nat))
 | 0, v, t, h => by
   have e1 : ((2 ^ 0 : Nat) : Rat) = 1 := rfl
   rw [e1, Rat.mul_one]; exact h
 | n + 1, v, t, h => by
   have e1 : ((2 ^ (n + 1) : Nat) : Rat) = 2 * ((2 ^ n : Nat) : Rat) := by rw [Nat.pow_succ, Nat.mul_comm, Rat.natCast_mul]; rfl
   have hle := aJj h
   obtain ⟨h0, hL, hH⟩ := h
   obtain ⟨a1, a2, a3, a4⟩ := aDj (p := p) (by omega) h0 h0 hle hle
   have hε : p2 (1 - p) <= 1 / 2 := by
     have := aA7 (show 1 - p <= -((1 : Nat) : Int) by omega)
     have e := (aCi 1 (k := 2) rfl).2
     have e2 : ((2 : Nat) : Rat) = 2 := rfl
     rw [e2] at e; grind
   have hll := Rat.mul_pos h0 h0
   have b1 : 0 < (aAF v v p).lo.v := by
     have : 0 < v.lo.v * v.lo.v * (1 - p2 (1 - p)) := Rat.mul_pos hll (by grind)
     grind
   have ih := aN9 hp n (aAF v v p) (t + t) ⟨b1, aAV (aDR (Rat.le_of_lt h0) (Rat.le_of_lt h0) hL hL) Rat.le_refl a1, aBs (aEb hH hH) Rat.le_refl a3⟩
   rw [e1, show t * (2 * ((2 ^ n : Nat) : Rat)) = (t + t) * ((2 ^ n : Nat) : Rat) by grind]
   exact ih
def aAN (a : D) (p : Nat) : Iv := sqI ((p + 2 * aAH a + 64 : Nat) + 8 : Int) (aAH a) (aCb (aBc (aAs a (-(aAH a : Int))) (p + 2 * aAH a + 64)) (p + 2 * aAH a + 64) 0)
theorem aO4 {a : D} {w : Nat} (h0 : 0 <= a.v) (h8 : a.v * 256 <= 1) : ExpE (aCb (aBc a w) w 0) a.v := by
 obtain ⟨f1, f2⟩ := aNx (w := w) h0
 obtain ⟨s1, s2, s3⟩ := aHN (more := 0) h0 h8 f1 f2
 have e : aA8 a.v 0 = expT a.v := funext (aGt a.v)
 rw [e] at s1 s2
 refine ⟨by grind, aAV (aCv h0 _) Rat.le_refl s1, aBs (aCK h0 (aEp h0 _ ?_)) Rat.le_refl s2⟩
 have := aEm (nQ (aBc a w) w 0 + 1)
 grind
theorem aM1 {a : D} (hn : a.neg = false) : 0 <= (aAs a (-(aAH a : Int))).v /\ (aAs a (-(aAH a : Int))).v * 256 <= 1 /\ (aAs a (-(aAH a : Int))).v * (2 ^ aAH a : Nat) = a.v := by
 have hav := aHQ hn
 have hav0 := aHf a
 have hv0 : (aAs a (-(aAH a : Int))).v = a.av * p2 (-(aAH a : Int)) := by rw [aE6, hav]
 rw [hv0]
 refine ⟨Rat.mul_nonneg hav0 (Rat.le_of_lt (aAz _)), ?_, ?_⟩
 · by_cases h0 : a.m = 0
   · have : a.av = 0 := by unfold D.av; rw [h0]; have : ((0 : Nat) : Rat) = 0 := rfl; grind
     rw [this]; grind
   · have h1 := aFk a
     have h2 : topD a + 1 <= (aAH a : Int) - 8 := by unfold aAH; rw [if_neg h0]; omega
     have h3 := aA7 h2
     have h4 := aAz (-(aAH a : Int))
     have h5 := Rat.mul_le_mul_of_nonneg_right (Rat.le_trans (Rat.le_of_lt h1) h3) (Rat.le_of_lt h4)
     rw [<- aA9, show (aAH a : Int) - 8 + -(aAH a : Int) = -((8 : Nat) : Int) by omega] at h5
     have e8 := (aCi 8 (k := 256) rfl).2
     have e256 : ((256 : Nat) : Rat) = 256 := rfl
     rw [e256] at e8
     grind
 · rw [hav, <- aBE]
   have := aDA (aAH a : Int)
   grind
theorem aDp {a : D} {p : Nat} (hn : a.neg = false) : ExpE (aAN a p) a.v := by
 obtain ⟨h0, h8, he⟩ := aM1 hn
 have h := aN9 (p := ((p + 2 * aAH a + 64 : Nat) + 8 : Int)) (by omega) (aAH a) _ _ (aO4 (w := p + 2 * aAH a + 64) h0 h8)
 rw [he] at h
 exact h
def aA6 (d : D) : D := ⟨false, d.m, d.e⟩
def anyQ (t : D) (p : Nat) : Iv := if (oneD t).neg then divR (aAn (intD 1)) (aAN (aA6 (oneD t)) p) ((p : Int) + 64) else aAN (aA6 (oneD t)) p
theorem aQL {d : D} (_ : d.canon) : (aA6 d).v = if d.neg then -d.v else d.v := by
 have : (aA6 d).v = d.av := aHQ (a := aA6 d) rfl |>.trans rfl
 rw [this, v_av]
 cases d.neg with
 | false => rw [if_neg (by decide)]; have : sg false = 1 := rfl; grind
 | true => rw [if_pos rfl]; have : sg true = -1 := rfl; grind
theorem aE1 (t : D) (p : Nat) : ExpE (anyQ t p) t.v := by
 unfold anyQ
 rw [<- aC6 t]
 have hc := aB2 t
 generalize oneD t = t at *
 have hp := aDp (a := aA6 t) (p := p) rfl
 rw [aQL hc] at hp
 by_cases hn : t.neg = true
 · rw [if_pos hn]
   rw [if_pos hn] at hp
   have hle := aJj hp
   obtain ⟨a1, a2, a3⟩ := hp
   obtain ⟨o1, o2⟩ := aCZ
   obtain ⟨d1, d2, d3, d4⟩ := aLn (fun a b hb => fun {_} hp up => aQR a b hb hp up) (a := aAn (intD 1)) (b := aAN (aA6 t) p) (p := (p : Int) + 64) (by omega) (by rw [o1]; decide) a1 (by rw [o1, o2]; exact Rat.le_refl) hle
   rw [o1] at d1 d2
   rw [o2] at d3 d4
   have b1 := aFh a3
   have b2 := aDS a1 a2
   have e : - -t.v = t.v := by grind
   rw [e] at b1 b2
   have hε : p2 (1 - ((p : Int) + 64)) <= 1 / 2 := by
     have := aA7 (show 1 - ((p : Int) + 64) <= -((1 : Nat) : Int) by omega)
     have e := (aCi 1 (k := 2) rfl).2
     have e2 : ((2 : Nat) : Rat) = 2 := rfl
     rw [e2] at e; grind
   have c1 : 0 < 1 / (aAN (aA6 t) p).hi.v := by rw [Rat.lt_div_iff (by grind)]; grind
   refine ⟨?_, aAV b1 Rat.le_refl d1, aBs b2 Rat.le_refl d3⟩
   have := Rat.mul_pos c1 (show 0 < 1 - p2 (1 - ((p : Int) + 64)) by grind)
   unfold divR
   grind
 · rw [if_neg hn]
   rw [if_neg hn] at hp
   exact hp
def aBF (t : D) (p : Nat) : Iv :=
 if (oneD t).m = 0 then aAp else
 if -8 <= topD (oneD t) then aFn (anyQ (oneD t) (p + 24)) (aAn (intD 1)) ((p : Int) + 40) else
 if (oneD t).neg then aCd (divR (aAF (aAn (aA6 (oneD t))) (aCb (aBc (aA6 (oneD t)) (p + 64)) (p + 64) 1) ((p : Int) + 64)) (aAN (aA6 (oneD t)) p) ((p : Int) + 64))
 else aAF (aAn (aA6 (oneD t))) (aCb (aBc (aA6 (oneD t)) (p + 64)) (p + 64) 1) ((p : Int) + 64)
def aUm (v : Iv) (t : Rat) : Prop := expL t (v.lo.v + 1) /\ expH t (v.hi.v + 1)
theorem aHR (t : D) (p : Nat) : aUm (aBF t p) t.v := by
 unfold aBF
 rw [<- aC6 t]
 have hc := aB2 t
 generalize oneD t = t at *
 by_cases h0 : t.m = 0
 · rw [if_pos h0, aBL.2 h0]
   have e : aAp.lo.v = 0 := aKt
   have e2 : aAp.hi.v = 0 := aKt
   unfold aUm
   rw [e, e2, Rat.zero_add]
   exact ⟨aDu, aC0⟩
 rw [if_neg h0]
 split
 · obtain ⟨a1, a2, a3⟩ := aE1 t (p + 24)
   obtain ⟨o1, o2⟩ := aCZ
   have e1 : (addD (anyQ t (p + 24)).lo (aCd (aAn (intD 1))).lo).v = (anyQ t (p + 24)).lo.v - 1 := by rw [aMH]; unfold aCd; rw [aGj, o2]; grind
   have e2 : (addD (anyQ t (p + 24)).hi (aCd (aAn (intD 1))).hi).v = (anyQ t (p + 24)).hi.v - 1 := by rw [aMH]; unfold aCd; rw [aGj, o1]; grind
   have c1 := aDM (addD (anyQ t (p + 24)).lo (aCd (aAn (intD 1))).lo) (show 1 <= (p : Int) + 40 by omega) false
   have c2 := aDM (addD (anyQ t (p + 24)).hi (aCd (aAn (intD 1))).hi) (show 1 <= (p : Int) + 40 by omega) true
   rw [e1] at c1
   rw [e2] at c2
   have b1 := aDL c1
   have b2 := aDK c2
   unfold aFn aH4 aAD aUm
   exact ⟨aAV a2 Rat.le_refl (by grind), aBs a3 Rat.le_refl (by grind)⟩
 · rename_i h8
   have hpv := aQL hc
   have hav : (aA6 t).v = t.av := (aHQ (a := aA6 t) rfl).trans rfl
   have hav0 : 0 < (aA6 t).v := by rw [hav]; exact aOM h0
   have hav8 : (aA6 t).v * 256 <= 1 := by
     rw [hav]
     have h4 := aFk t
     have h5 := aA7 (show topD t + 1 <= -((8 : Nat) : Int) by omega)
     have h6 := (aCi 8 (k := 256) rfl).2
     have h7 : ((256 : Nat) : Rat) = 256 := rfl
     rw [h7] at h6
     grind
   have hpos := aDp (a := aA6 t) (p := p) rfl
   generalize ha : aA6 t = a at *
   obtain ⟨w, hw⟩ : ∃ w : Nat, p + 64 = w := ⟨_, rfl⟩
   have hwi : (p : Int) + 64 = (w : Int) := by omega
   rw [hw, hwi]
   obtain ⟨f1, f2⟩ := aNx (w := w) (Rat.le_of_lt hav0)
   obtain ⟨s1, s2, s3⟩ := aHN (more := 1) (Rat.le_of_lt hav0) hav8 f1 f2
   have hkr : 0 <= aA8 a.v 1 (nQ (aBc a w) w 1 + 1) := aER (Rat.le_of_lt hav0) 1 _
   have m1 := Rat.mul_le_mul_of_nonneg_left s1 (Rat.le_of_lt hav0)
   have m2 := Rat.mul_le_mul_of_nonneg_left s2 (Rat.le_of_lt hav0)
   rw [aD7] at m1
   have e2 : a.v * (aA5 (aA8 a.v 1) (nQ (aBc a w) w 1 + 1) + 2 * aA8 a.v 1 (nQ (aBc a w) w 1 + 1)) = expS a.v (nQ (aBc a w) w 1 + 1 + 1) - 1 + 2 * expT a.v (nQ (aBc a w) w 1 + 1 + 1) := by
     rw [<- aFX, <- aD7]; grind
   rw [e2] at m2
   have x1 : expL a.v (a.v * (aCb (aBc a w) w 1).lo.v + 1) := aAV (aCv (Rat.le_of_lt hav0) (nQ (aBc a w) w 1 + 1 + 1)) Rat.le_refl (by grind)
   have x2 : expH a.v (a.v * (aCb (aBc a w) w 1).hi.v + 1) := aBs (aCK (Rat.le_of_lt hav0) (aEp (Rat.le_of_lt hav0) (nQ (aBc a w) w 1 + 1 + 1) (by have := aEm (nQ (aBc a w) w 1 + 1 + 1); grind))) Rat.le_refl (by grind)
   have f5 : (aCb (aBc a w) w 1).lo.v <= (aCb (aBc a w) w 1).hi.v := by grind
   have pl : (aAn a).lo.v = a.v := aC6 a
   have ph : (aAn a).hi.v = a.v := aC6 a
   obtain ⟨t1, t2, t3, t4⟩ := aDj (a := aAn a) (b := aCb (aBc a w) w 1) (p := (w : Int)) (by omega) (by rw [pl]; exact hav0) (by grind) (by rw [pl, ph]; exact Rat.le_refl) f5
   rw [pl] at t1 t2
   rw [ph] at t3 t4
   generalize aAF (aAn a) (aCb (aBc a w) w 1) (w : Int) = V at *
   have hL := aAV x1 Rat.le_refl (show V.lo.v + 1 <= _ by grind)
   have hH := aBs x2 Rat.le_refl (show _ <= V.hi.v + 1 by grind)
   have hε : p2 (1 - (w : Int)) <= 1 / 2 := by
     have := aA7 (show 1 - (w : Int) <= -((1 : Nat) : Int) by omega)
     have e := (aCi 1 (k := 2) rfl).2
     have e2 : ((2 : Nat) : Rat) = 2 := rfl
     rw [e2] at e; grind
   have hV0 : 0 < V.lo.v := by
     have := Rat.mul_pos (Rat.mul_pos hav0 (show 0 < (aCb (aBc a w) w 1).lo.v by grind)) (show 0 < 1 - p2 (1 - (w : Int)) by grind)
     grind
   have hVle : V.lo.v <= V.hi.v := by have := aAM hL hH Rat.le_refl; grind
   clear m1 m2 e2 x1 x2 t1 t2 t3 t4 s1 s2 s3 f1 f2
   split
   · rename_i hn
     rw [if_pos hn] at hpv
     have htv : t.v = -a.v := by grind
     have hble := aJj hpos
     obtain ⟨b1, b2, b3⟩ := hpos
     obtain ⟨d1, d2, d3, d4⟩ := aLn (fun a b hb => fun {_} hp up => aQR a b hb hp up) (a := V) (b := aAN a p) (p := (w : Int)) (by omega) hV0 b1 hVle hble
     have u1 := aAM b2 hH Rat.le_refl
     have u2 := aAM hL b3 Rat.le_refl
     have g1 := aFh hH
     have g2 := aDS (show 0 < V.lo.v + 1 by grind) hL
     rw [<- htv] at g1 g2
     have nl : (aAN a p).lo.v ≠ 0 := by grind
     have nh : (aAN a p).hi.v ≠ 0 := by grind
     have w1 : 1 - V.hi.v / (aAN a p).lo.v <= 1 / (V.hi.v + 1) := by
       rw [aBw (by grind)]
       have y0 : 0 <= V.hi.v / (aAN a p).lo.v := aCf (by grind) b1
       have y1 := Rat.mul_le_mul_of_nonneg_left u1 y0
       rw [aEi _ nl] at y1
       grind
     have w2 : 1 / (V.lo.v + 1) <= 1 - V.lo.v / (aAN a p).hi.v := by
       rw [aA0 (by grind)]
       have y0 : 0 <= V.lo.v / (aAN a p).hi.v := aCf (by grind) (by grind)
       have y1 := Rat.mul_le_mul_of_nonneg_left u2 y0
       rw [aEi _ nh] at y1
       grind
     unfold aCd aUm divR
     dsimp only
     rw [aGj, aGj]
     exact ⟨aAV g1 Rat.le_refl (by grind), aBs g2 Rat.le_refl (by grind)⟩
   · rename_i hn
     rw [if_neg hn] at hpv
     have htv : t.v = a.v := by grind
     rw [htv]
     exact ⟨hL, hH⟩
end
section
def aAT (d : D) : Bool := decide ((limbsOf d.m).length <= 1024 /\ -32768 <= d.e /\ d.e <= 32768)
def aBb (v : Iv) : Bool := aAT v.lo && aAT v.hi && decide (cmpD v.lo v.hi <= 0)
def LnI (v : Iv) (r : Rat) : Prop := lnL v.lo.v r /\ lnH v.hi.v r
theorem aVF {x : Fx} {w : Nat} {r : Rat} (h : LnF x w r) : LnI (aBt x w) r := by
 obtain ⟨lo, hi, h1, h2, h3⟩ := h
 obtain ⟨a, b⟩ := aOt h1
 exact ⟨aBs h2 a Rat.le_refl, aAV h3 b Rat.le_refl⟩
theorem aU8 {v : Iv} {r : Rat} {p : Int} (hp : 1 <= p) (h : LnI v r) : LnI (aAD v p) r :=
 ⟨aBs h.1 (aDL (aDM v.lo hp false)) Rat.le_refl, aAV h.2 (aDK (aDM v.hi hp true)) Rat.le_refl⟩
theorem aK4 {u v : Iv} {r : Rat} (hr : 0 < r) (h1 : LnI u r) (h2 : LnI v r) : u.lo.v <= v.hi.v := aFF hr h1.1 h2.2
def lnV (n w : Nat) : Iv := aAD (aBt (if n = 2 then ln2F (w + 64) else aDV (w + 64)) (w + 64)) ((w : Int) + 8)
def lnVQ (n w : Nat) : Iv := aBt (if n = 2 then ln2Q (w + 32) else aFG (w + 32)) (w + 32)
theorem aJ2 {n w : Nat} (hn : n = 2 \/ n = 10) (hw : w <= 100000) : LnI (lnV n w) n := by
 refine aU8 (by omega) (aVF ?_)
 rcases hn with rfl | rfl
 · exact (aJ3 (by omega) (by omega)).1
 · exact (aI4 (by omega)).1
theorem aK5 {n w : Nat} (hn : n = 2 \/ n = 10) (hw : w <= 100000) : LnI (lnVQ n w) n := by
 refine aVF ?_
 rcases hn with rfl | rfl
 · exact (aHu (by omega) (by omega)).1
 · exact (aI3 (by omega) (by omega)).1
theorem aHy (x : Fx) (w : Nat) : (aBt x w).hi.v = (aBt x w).lo.v + (x.e : Rat) * p2 (-(w : Int)) := by
 unfold aBt
 rw [aCy, aCy, Rat.natCast_add]
 have : sg false = 1 := rfl
 rw [this]; grind
theorem aQY : lnL (1 / 2) 2 /\ lnH (6932 / 10000) 2 := by
 constructor
 · exact aBs (aIn (h := 1 / 2) (by decide +kernel) (by decide +kernel)) Rat.le_refl (by decide +kernel)
 · exact aAV (aCv (t := 6932 / 10000) (by decide +kernel) 9) Rat.le_refl (by decide +kernel)
theorem aOn : lnL 2 10 /\ lnH (2303 / 1000) 10 := by
 constructor
 · refine aBs (aCK (t := 2) (by decide +kernel) (aEp (by decide +kernel) 8 (by decide +kernel))) Rat.le_refl (by decide +kernel)
 · exact aAV (aCv (t := 2303 / 1000) (by decide +kernel) 16) Rat.le_refl (by decide +kernel)
def lnA (n : Nat) : Rat := if n = 2 then 1 / 2 else 2
def lnB (n : Nat) : Rat := if n = 2 then 6932 / 10000 else 2303 / 1000
theorem aUE {n : Nat} (hn : n = 2 \/ n = 10) : lnL (lnA n) n /\ lnH (lnB n) n := by
 rcases hn with rfl | rfl
 · exact aQY
 · exact aOn
theorem aI1 {n w : Nat} (hn : n = 2 \/ n = 10) (hw0 : 8 <= w) (hw : w <= 10000) : lnA n * (1 - p2 (-(w : Int) - 4)) <= (lnV n w).lo.v /\ (lnV n w).hi.v <= lnB n * (1 + p2 (-(w : Int) - 4)) /\ 0 < (lnV n w).lo.v /\ (lnV n w).hi.v <= (lnV n w).lo.v * (1 + p2 (-(w : Int) - 4)) := by
 have hr : (0 : Rat) < (n : Rat) := by rcases hn with rfl | rfl <;> decide +kernel
 obtain ⟨g1, g2⟩ := aUE hn
 unfold lnV
 obtain ⟨hF, he⟩ : LnF (if n = 2 then ln2F (w + 64) else aDV (w + 64)) (w + 64) n /\ (if n = 2 then ln2F (w + 64) else aDV (w + 64)).e <= 100 * (3 * (w + 64) + 20) := by
   rcases hn with rfl | rfl
   · obtain ⟨a, b⟩ := aJ3 (w := w + 64) (by omega) (by omega)
     rw [if_pos rfl]
     generalize ln2F (w + 64) = x at *
     exact ⟨a, Nat.le_trans b (Nat.mul_le_mul_right _ (by decide))⟩
   · obtain ⟨a, b⟩ := aI4 (w := w + 64) (by omega)
     rw [if_neg (by decide)]
     generalize aDV (w + 64) = x at *
     exact ⟨a, b⟩
 generalize (if n = 2 then ln2F (w + 64) else aDV (w + 64)) = x at *
 have hI := aVF hF
 have hw1 := aHy x (w + 64)
 have he2 : (x.e : Rat) * p2 (-((w + 64 : Nat) : Int)) <= p2 (-(w : Int) - 38) := by
   have h1 : (x.e : Rat) <= ((67108864 : Nat) : Rat) := Rat.natCast_le_natCast.2 (by omega)
   have h2 := (aCi 26 (k := 67108864) rfl).1
   rw [<- h2] at h1
   have := Rat.mul_le_mul_of_nonneg_right h1 (Rat.le_of_lt (aAz (-((w + 64 : Nat) : Int))))
   rw [<- aA9] at this
   refine Rat.le_trans this (aA7 ?_)
   omega
 have c1 := aDM (aBt x (w + 64)).lo (show 1 <= (w : Int) + 8 by omega) false
 have c2 := aDM (aBt x (w + 64)).hi (show 1 <= (w : Int) + 8 by omega) true
 have m1 := aFF hr g1 hI.2
 have m2 := aFF hr hI.1 g2
 have hA : 1 / 2 <= lnA n := by unfold lnA; split <;> decide +kernel
 have hB : lnA n <= lnB n := aFF hr g1 g2
 unfold aAD
 dsimp only
 have d1 := aDL c1
 have d2 := aDK c2
 have r1 := aBU c1
 have r2 := aBU c2
 have e38 : p2 (-(w : Int) - 38) * 2147483648 = p2 (1 - ((w : Int) + 8)) := by
   have k1 := (aCi 31 (k := 2147483648) rfl).1
   have k2 : ((2147483648 : Nat) : Rat) = 2147483648 := rfl
   rw [<- k2, <- k1, <- aA9]; congr 1; omega
 have e4 : p2 (-(w : Int) - 4) = 8 * p2 (1 - ((w : Int) + 8)) := by
   have k1 := (aCi 3 (k := 8) rfl).1
   have k2 : ((8 : Nat) : Rat) = 8 := rfl
   rw [<- k2, <- k1, <- aA9]; congr 1; omega
 have hε1 : p2 (1 - ((w : Int) + 8)) <= 1 / 128 := by
   have := aA7 (show 1 - ((w : Int) + 8) <= -((7 : Nat) : Int) by omega)
   have k := (aCi 7 (k := 128) rfl).2
   have k2 : ((128 : Nat) : Rat) = 128 := rfl
   rw [k2] at k; grind
 have hε0 := aAz (1 - ((w : Int) + 8))
 rw [e4]
 generalize (aBt x (w + 64)).lo.v = l at *
 generalize (aBt x (w + 64)).hi.v = h at *
 generalize (cutD (aBt x (w + 64)).lo ((w : Int) + 8) false).v = L at *
 generalize (cutD (aBt x (w + 64)).hi ((w : Int) + 8) true).v = H at *
 generalize p2 (1 - ((w : Int) + 8)) = ε at *
 generalize p2 (-(w : Int) - 38) = δ at *
 generalize lnA n = A at *
 generalize lnB n = B at *
 have hl : h <= l + δ := by grind
 clear c1 c2 hw1 he2 he hF hI e4
 have hl4 : 1 / 4 <= l := by grind
 obtain ⟨q1, q2⟩ := r1.1 (by grind)
 obtain ⟨q3, q4⟩ := r2.1 (by grind)
 have t1 : A * (1 - 2 * δ) <= l := by
   have := Rat.mul_le_mul_of_nonneg_right hA (show 0 <= δ by grind)
   grind
 have t2 := Rat.mul_le_mul_of_nonneg_right t1 (show 0 <= 1 - ε by grind)
 have t3 : 1 - 8 * ε <= (1 - 2 * δ) * (1 - ε) := by
   have := Rat.mul_nonneg (show 0 <= δ by grind) (Rat.le_of_lt hε0)
   grind
 have t4 := Rat.mul_le_mul_of_nonneg_left t3 (show 0 <= A by grind)
 have t5 : h <= l * (1 + 4 * δ) := by
   have := Rat.mul_le_mul_of_nonneg_right hl4 (show 0 <= δ by grind)
   grind
 have t6 := Rat.mul_le_mul_of_nonneg_right t5 (show 0 <= 1 + ε by grind)
 have t7 : (1 + 4 * δ) * (1 + ε) <= (1 - ε) * (1 + 8 * ε) := by
   have := Rat.mul_le_mul_of_nonneg_left hε1 (show 0 <= δ by grind)
   have := Rat.mul_le_mul_of_nonneg_left hε1 (Rat.le_of_lt hε0)
   grind
 have t8 := Rat.mul_le_mul_of_nonneg_left t7 (show 0 <= l by grind)
 have t9 := Rat.mul_le_mul_of_nonneg_right q1 (show 0 <= 1 + 8 * ε by grind)
 have t10 : h <= B * (1 + 4 * δ) := by
   have := Rat.mul_le_mul_of_nonneg_right (show l <= B from m2) (show 0 <= 1 + 4 * δ by grind)
   grind
 have t11 := Rat.mul_le_mul_of_nonneg_right t10 (show 0 <= 1 + ε by grind)
 have t12 : (1 + 4 * δ) * (1 + ε) <= 1 + 8 * ε := by
   have := Rat.mul_le_mul_of_nonneg_left hε1 (show 0 <= δ by grind)
   grind
 have t13 := Rat.mul_le_mul_of_nonneg_left t12 (show 0 <= B by grind)
 have t14 : 0 < l * (1 - ε) := Rat.mul_pos (by grind) (by grind)
 refine ⟨?_, ?_, ?_, ?_⟩
 · clear t5 t6 t7 t8 t9 t10 t11 t12 t13; grind
 · clear t1 t2 t3 t4 t5 t6 t7 t8 t9; grind
 · grind
 · clear t1 t2 t3 t4 t10 t11 t12 t13; grind
end
end Go.Proofs.YtgdkokgeldnliaaGreatDoor
