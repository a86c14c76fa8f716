/- Contracts of functions and plain lemmas that the laws of this seat lean on. -/
import Derived.Test.YtgdkokgeldnliaaGreatDoorKEfaa
import Derived.Test.YtgdkokgeldnliaaGreatDoorKEfab
import Derived.Test.YtgdkokgeldnliaaGreatDoorKEfac
import Derived.Test.YtgdkokgeldnliaaGreatDoorKEfad
import Derived.Test.YtgdkokgeldnliaaGreatDoorKEfae
import Derived.Test.YtgdkokgeldnliaaGreatDoorKEfaf
import Derived.Test.YtgdkokgeldnliaaGreatDoorKEfag
import Derived.Test.YtgdkokgeldnliaaGreatDoorKEfah
import Derived.Test.YtgdkokgeldnliaaGreatDoorRows
import Derived.WalkKit
import Derived.WalkSpells
import Derived.WalkLawsBesides
import Derived.Lib.Hide
import Derived.Deep.QuietTactic
import Derived.BigQuiet
import Derived.Test.YtgdkokgeldnliaaGreatDoorShelf
import Derived.Lib.BitFns
import Derived.Lib.ItoaNum
import Derived.Lib.TrailingZeros
import Derived.Deep.DeepCutAuto
import Derived.Deep.CutBlock
import Derived.Laws.AppendOwn
import Derived.Laws.AppendOwnNone
import Derived.Laws.CopyOwn
import Derived.StillTail
import Derived.Below
import Derived.Deep.MidRow
import Derived.Laws.Tables
import Derived.Laws.CopyRow
import Derived.IntWalk
namespace Go.Proofs.YtgdkokgeldnliaaGreatDoor
set_option linter.unusedSimpArgs false
set_option linter.unusedVariables false
set_option linter.unusedSectionVars false
set_option linter.constructorNameAsVariable false
set_option linter.unnecessarySimpa false
section
def aDf (less : Bool) (u : Iv) (p : Nat) : Iv × Int :=
 if (aBy less u.lo p).2 != 0 || (aBy less u.hi p).2 != 0 then (aAp, 3) else
 if aBb (aAD ⟨(aBy less u.lo p).1.lo, (aBy less u.hi p).1.hi⟩ p) then (aAD ⟨(aBy less u.lo p).1.lo, (aBy less u.hi p).1.hi⟩ p, 0) else (aAp, 3)
def aSz (u : Iv) : Prop := u.lo.canon /\ u.hi.canon /\ aAT u.lo = true /\ aAT u.hi = true /\ u.lo.av <= 11109 /\ u.hi.av <= 11109
theorem aEk (n : Nat) {k : Nat} (h : 2 ^ n = k) {e e' : Int} (he : e + n = e') : p2 e * (k : Rat) = p2 e' := by rw [<- he, aA9, (aCi n h).1]
theorem aL4 (n : Nat) {k : Nat} (h : 2 ^ n = k) (e : Int) : p2 e * (k : Rat) = p2 (e + n) := by rw [aA9, (aCi n h).1]
theorem aLl {u : Iv} {p : Nat} (h : aSz u) (hp8 : 16 <= p) (hp : p <= 9000) (h1 : u.lo.v <= u.hi.v) (h2 : u.hi.v <= u.lo.v + p2 (-(p : Int) - 16)) :
   ∃ out, aDf false u p = (out, 0) /\ aBb out = true /\ out.lo.canon /\ out.hi.canon /\ 0 < out.lo.v /\ expL u.lo.v out.lo.v /\ expH u.hi.v out.hi.v /\ out.hi.v <= out.lo.v * (1 + p2 (5 - (p : Int))) := by
 obtain ⟨c1, c2, f1, f2, v1, v2⟩ := h
 obtain ⟨x1, a1, a2, a3, a4⟩ := aME (p := p) c1 f1 v1 (by omega) hp
 obtain ⟨x2, b1, b2, b3, b4⟩ := aME (p := p) c2 f2 v2 (by omega) hp
 have hb := aGR ⟨(aAD (aBG u.lo p) ((p : Int) + 8)).lo, (aAD (aBG u.hi p) ((p : Int) + 8)).hi⟩ (show 1 <= (p : Int) by omega) (by omega)
 have w1 := aDM (aAD (aBG u.lo p) ((p : Int) + 8)).lo (show 1 <= (p : Int) by omega) false
 have w2 := aDM (aAD (aBG u.hi p) ((p : Int) + 8)).hi (show 1 <= (p : Int) by omega) true
 unfold aDf
 rw [x1, x2]
 dsimp only
 rw [if_neg (by decide)]
 have hle1 := aAM a2 a3 Rat.le_refl
 have hle2 := aAM b2 b3 Rat.le_refl
 have hlh := aAM a2 b3 h1
 have hav1 := aBh u.lo
 have hav2 := aBh u.hi
 have hlo := aAM (aG6 (t := u.lo.v) (by split at hav1 <;> grind)) a3 Rat.le_refl
 have hhi := aAM b2 (aFM (t := u.hi.v) (by split at hav2 <;> grind)) Rat.le_refl
 obtain ⟨k1, k2⟩ := aVr
 have hp17 := aAz (-17000)
 have hδ0 := aAz (-(p : Int) - 16)
 have hδ1 : p2 (-(p : Int) - 16) * 4 <= 1 := by
   have := aA7 (show -(p : Int) - 16 <= -((2 : Nat) : Int) by omega)
   have k := (aCi 2 (k := 4) rfl).2
   have k2 : ((4 : Nat) : Rat) = 4 := rfl
   rw [k2] at k; grind
 have g1 := aEb a3 (aBs (aIn (h := p2 (-(p : Int) - 16)) (Rat.le_of_lt hδ0) (by grind)) (s := u.hi.v - u.lo.v) (by grind) Rat.le_refl)
 rw [show u.lo.v + (u.hi.v - u.lo.v) = u.hi.v by grind] at g1
 have g2 := aAM b2 g1 Rat.le_refl
 have r1 := (aBU w1).1 (Rat.le_of_lt a1)
 have r2 := (aBU w2).1 (by grind)
 have d1 := aDL w1
 have d2 := aDK w2
 generalize hO : aAD ⟨(aAD (aBG u.lo p) ((p : Int) + 8)).lo, (aAD (aBG u.hi p) ((p : Int) + 8)).hi⟩ (p : Int) = out at *
 have o1 : out.lo.v = (cutD (aAD (aBG u.lo p) ((p : Int) + 8)).lo (p : Int) false).v := by rw [<- hO]; rfl
 have o2 : out.hi.v = (cutD (aAD (aBG u.hi p) ((p : Int) + 8)).hi (p : Int) true).v := by rw [<- hO]; rfl
 rw [<- o1] at r1 d1
 rw [<- o2] at r2 d2
 have e1 : p2 (-(p : Int) - 5) * 64 = p2 (1 - (p : Int)) := aEk 6 (k := 64) rfl (by omega)
 have e2 : p2 (-(p : Int) - 16) * 131072 = p2 (1 - (p : Int)) := aEk 17 (k := 131072) rfl (by omega)
 have e3 : p2 (1 - (p : Int)) * 16 = p2 (5 - (p : Int)) := aEk 4 (k := 16) rfl (by omega)
 have e5 := (aEq hp8).2
 have e50 := (aEq hp8).1
 rw [<- e3]
 generalize (aAD (aBG u.lo p) ((p : Int) + 8)).lo.v = al at *
 generalize (aAD (aBG u.lo p) ((p : Int) + 8)).hi.v = ah at *
 generalize (aAD (aBG u.hi p) ((p : Int) + 8)).lo.v = bl' at *
 generalize (aAD (aBG u.hi p) ((p : Int) + 8)).hi.v = bh at *
 generalize p2 (1 - (p : Int)) = ε at *
 generalize p2 (-(p : Int) - 16) = δ at *
 generalize p2 (-(p : Int) - 5) = ρ at *
 have hρ0 : 0 <= ρ := by grind
 have q0 : 0 < al * (1 - ε) := Rat.mul_pos a1 (by grind)
 have q1 : bl' * (1 - δ) <= ah := by
   have h3 : ah * (1 / (1 - δ)) = ah / (1 - δ) := by rw [Rat.div_def, Rat.div_def]; grind
   rw [h3] at g2
   exact (aBw (by grind)).1 g2
 have q2 : bh * (1 - δ) <= al * (1 + ρ) * (1 + ρ) := by
   have h3 := Rat.mul_le_mul_of_nonneg_right b4 (show 0 <= 1 - δ by grind)
   have h4 := Rat.mul_le_mul_of_nonneg_right (Rat.le_trans q1 a4) (show 0 <= 1 + ρ by grind)
   grind
 have q3 : (1 + ρ) * (1 + ρ) * (1 + ε) <= (1 - ε) * (1 + ε * 16) * (1 - δ) := by
   have x0 := Rat.mul_le_mul_of_nonneg_left e5 (Rat.le_of_lt e50)
   have x1 : ρ * ρ <= ρ * 1 := Rat.mul_le_mul_of_nonneg_left (by grind) hρ0
   have x2 : ρ * ε <= ρ * 1 := Rat.mul_le_mul_of_nonneg_left (by grind) hρ0
   have x3 : ρ * ρ * ε <= ρ * 1 * 1 := aAO x1 (by grind) (Rat.le_of_lt e50) (by grind)
   have x4 : ε * δ <= 1 * δ := Rat.mul_le_mul_of_nonneg_right (by grind) (Rat.le_of_lt hδ0)
   have x5 : ε * ε * δ >= 0 := Rat.mul_nonneg (Rat.mul_nonneg (Rat.le_of_lt e50) (Rat.le_of_lt e50)) (Rat.le_of_lt hδ0)
   grind
 have q4 : out.hi.v <= out.lo.v * (1 + ε * 16) := by
   apply Rat.le_of_mul_le_mul_right (c := 1 - δ) ?_ (by grind)
   have y1 := Rat.mul_le_mul_of_nonneg_right r2.2 (show 0 <= 1 - δ by grind)
   have y2 := Rat.mul_le_mul_of_nonneg_right q2 (show 0 <= 1 + ε by grind)
   have y3 := Rat.mul_le_mul_of_nonneg_left q3 (Rat.le_of_lt a1)
   have y4 := Rat.mul_le_mul_of_nonneg_right r1.1 (Rat.mul_nonneg (show 0 <= 1 + ε * 16 by grind) (show 0 <= 1 - δ by grind))
   clear q3 q2 q1 g2 r1 r2 a4 b4 x1 x2 hav1 hav2
   grind
 have q5 : 0 < out.lo.v := by grind
 have q6 : ε * 16 <= 1 / 2 := by grind
 have q7 : out.hi.v <= out.lo.v * 2 := by
   have := Rat.mul_le_mul_of_nonneg_left q6 (Rat.le_of_lt q5); grind
 have hoo : out.lo.v <= out.hi.v := by grind
 have hR : aBb out = true := by
   have e1 : out.lo.av = out.lo.v := by rw [aBh, if_neg (by grind)]
   have e2 : out.hi.av = out.hi.v := by rw [aBh, if_neg (by grind)]
   clear q3 q2 q1 g2 q4 hav1 hav2
   have q8 : ah <= al * 2 := by
     have := Rat.mul_le_mul_of_nonneg_left (show ρ <= 1 by grind) (Rat.le_of_lt a1); grind
   have q9 : bh <= bl' * 2 := by
     have := Rat.mul_le_mul_of_nonneg_left (show ρ <= 1 by grind) (Rat.le_of_lt b1); grind
   have q10 := Rat.mul_le_mul_of_nonneg_left (show 1 / 2 <= 1 - ε by grind) (Rat.le_of_lt a1)
   have q11 := Rat.mul_le_mul_of_nonneg_left (show 1 + ε <= 2 by grind) (show 0 <= bh by grind)
   have k1' : p2 (-17000) * 16 <= p2 (-16100) := by
     have := aL4 4 (k := 16) rfl (-17000)
     have k : ((16 : Nat) : Rat) = 16 := rfl
     rw [k] at this; rw [this]; exact aA7 (by omega)
   have k2' : p2 16100 * 16 <= p2 17000 := by
     have := aL4 4 (k := 16) rfl 16100
     have k : ((16 : Nat) : Rat) = 16 := rfl
     rw [k] at this; rw [this]; exact aA7 (by omega)
   exact aEz hb (by rw [e1]; constructor <;> grind) (by rw [e2]; constructor <;> grind) hoo
 rw [hR, if_pos rfl]
 exact ⟨out, rfl, hR, hb.1, hb.2.1, q5, aAV a2 Rat.le_refl d1, aBs b3 Rat.le_refl d2, q4⟩
end
section
theorem aRH {s t x y δ : Rat} (h1 : expL t x) (h2 : expH s y) (hδ : t <= s + δ) (h0 : 0 < δ) (h3 : δ < 1) : x * (1 - δ) <= y := by
 have g1 := aEb h2 (aBs (aIn (h := δ) (Rat.le_of_lt h0) h3) (s := t - s) (by grind) Rat.le_refl)
 rw [show s + (t - s) = t by grind] at g1
 have g2 := aAM h1 g1 Rat.le_refl
 have h3 : y * (1 / (1 - δ)) = y / (1 - δ) := by rw [Rat.div_def, Rat.div_def]; grind
 rw [h3] at g2
 exact (aBw (by grind)).1 g2
theorem aMt {u : Iv} {p : Nat} {x : Rat} (h : aSz u) (hp8 : 32 <= p) (hp : p <= 9000) (h1 : u.lo.v <= u.hi.v) (hx : x ≠ 0) (hS : aMK u x (p2 (-(p : Int) - 34))) (hl1 : p2 (-16900) <= u.lo.av) (hl2 : p2 (-16900) <= u.hi.av) :
   ∃ out, aDf true u p = (out, 0) /\ aBb out = true /\ out.lo.canon /\ out.hi.canon /\ expL u.lo.v (out.lo.v + 1) /\ expH u.hi.v (out.hi.v + 1) /\ aMK out x (p2 (5 - (p : Int))) := by
 obtain ⟨c1, c2, f1, f2, v1, v2⟩ := h
 have hp169 := aAz (-16900)
 have m1 : u.lo.m ≠ 0 := fun h => by
   have : u.lo.av = 0 := by unfold D.av; rw [h]; have : ((0 : Nat) : Rat) = 0 := rfl; grind
   grind
 have m2 : u.hi.m ≠ 0 := fun h => by
   have : u.hi.av = 0 := by unfold D.av; rw [h]; have : ((0 : Nat) : Rat) = 0 := rfl; grind
   grind
 obtain ⟨x1, a1, a2, a3, a4⟩ := aKq (p := p) c1 f1 v1 m1 hl1 (by omega) hp
 obtain ⟨x2, b1, b2, b3, b4⟩ := aKq (p := p) c2 f2 v2 m2 hl2 (by omega) hp
 have hb := aGR ⟨(aAD (aCT u.lo p) ((p : Int) + 8)).lo, (aAD (aCT u.hi p) ((p : Int) + 8)).hi⟩ (show 1 <= (p : Int) by omega) (by omega)
 have w1 := aDM (aAD (aCT u.lo p) ((p : Int) + 8)).lo (show 1 <= (p : Int) by omega) false
 have w2 := aDM (aAD (aCT u.hi p) ((p : Int) + 8)).hi (show 1 <= (p : Int) by omega) true
 unfold aDf
 rw [x1, x2]
 dsimp only
 rw [if_neg (by decide)]
 have hav1 := aBh u.lo
 have hav2 := aBh u.hi
 have r1 := aBU w1
 have r2 := aBU w2
 have d1 := aDL w1
 have d2 := aDK w2
 generalize hO : aAD ⟨(aAD (aCT u.lo p) ((p : Int) + 8)).lo, (aAD (aCT u.hi p) ((p : Int) + 8)).hi⟩ (p : Int) = out at *
 have o1 : out.lo.v = (cutD (aAD (aCT u.lo p) ((p : Int) + 8)).lo (p : Int) false).v := by rw [<- hO]; rfl
 have o2 : out.hi.v = (cutD (aAD (aCT u.hi p) ((p : Int) + 8)).hi (p : Int) true).v := by rw [<- hO]; rfl
 rw [<- o1] at r1 d1
 rw [<- o2] at r2 d2
 have e1 : p2 (-(p : Int) - 5) * 64 = p2 (1 - (p : Int)) := aEk 6 (k := 64) rfl (by omega)
 have e2 : p2 (-(p : Int) - 34) * 34359738368 = p2 (1 - (p : Int)) := aEk 35 (k := 34359738368) rfl (by omega)
 have e3 : p2 (1 - (p : Int)) * 16 = p2 (5 - (p : Int)) := aEk 4 (k := 16) rfl (by omega)
 have e5 := (aEq (w := p) (by omega)).2
 have e50 := (aEq (w := p) (by omega)).1
 rw [<- e3]
 have hlo1 := aAM (aG6 (t := u.lo.v) (by split at hav1 <;> grind)) a2 Rat.le_refl
 have hhi1 := aAM b1 (aFM (t := u.hi.v) (by split at hav2 <;> grind)) Rat.le_refl
 have hL := aAV a1 (t := u.lo.v) Rat.le_refl (show out.lo.v + 1 <= _ by grind)
 have hH := aBs b2 (s := u.hi.v) Rat.le_refl (show _ <= out.hi.v + 1 by grind)
 have hoo : out.lo.v <= out.hi.v := by have := aAM hL hH h1; grind
 have hle1 := aAM a1 a2 Rat.le_refl
 have hle2 := aAM b1 b2 Rat.le_refl
 obtain ⟨s1, s2⟩ := hS
 have lin1 : 0 <= u.lo.v -> u.lo.v + 1 <= (aAD (aCT u.lo p) ((p : Int) + 8)).hi.v + 1 := fun h => by
   have := aAM (aDQ h) a2 Rat.le_refl; grind
 have lin2 : u.hi.v <= 0 -> (aAD (aCT u.hi p) ((p : Int) + 8)).lo.v + 1 <= 1 / (1 + -u.hi.v) := fun h => by
   have g0 := aDS (x := 1 + -u.hi.v) (by grind) (aDQ (h := -u.hi.v) (by grind))
   rw [show - -u.hi.v = u.hi.v by grind] at g0
   exact aAM b1 g0 Rat.le_refl
 have apart := fun (δ : Rat) (hδ : u.hi.v <= u.lo.v + δ) (h0 : 0 < δ) (h3 : δ < 1) => aRH b1 a2 hδ h0 h3
 have e72 : p2 (-17000) * 65536 * 65536 <= p2 (-16900) := by
   have k1 := aL4 16 (k := 65536) rfl (-17000)
   have k2 := aL4 16 (k := 65536) rfl (-17000 + ((16 : Nat) : Int))
   have k : ((65536 : Nat) : Rat) = 65536 := rfl
   rw [k] at k1 k2
   rw [k1, k2]; exact aA7 (by omega)
 have h1' : (1 : Rat) <= p2 16100 := by have := aA7 (show (0 : Int) <= 16100 by omega); rwa [aCt] at this
 have k2' : p2 16100 * 16 <= p2 17000 := by
   have k1 := aL4 4 (k := 16) rfl 16100
   have k : ((16 : Nat) : Rat) = 16 := rfl
   rw [k] at k1
   rw [k1]; exact aA7 (by omega)
 have hp17 := aAz (-17000)
 generalize (aAD (aCT u.lo p) ((p : Int) + 8)).lo.v = al at *
 generalize (aAD (aCT u.lo p) ((p : Int) + 8)).hi.v = ah at *
 generalize (aAD (aCT u.hi p) ((p : Int) + 8)).lo.v = bl' at *
 generalize (aAD (aCT u.hi p) ((p : Int) + 8)).hi.v = bh at *
 generalize p2 (1 - (p : Int)) = ε at *
 generalize p2 (-(p : Int) - 34) = θ at *
 generalize p2 (-(p : Int) - 5) = ρ at *
 have hρ0 : 0 <= ρ := by grind
 have hθ0 : 0 < θ := by grind
 have q3 : (1 + ρ) * (1 + ρ) * (1 + ε) * (1 + ρ) <= (1 - ε) * (1 + ε * 16) * (1 - ρ) := by
   have x0 := Rat.mul_le_mul_of_nonneg_left e5 (Rat.le_of_lt e50)
   have x1 : ρ * ρ <= ρ * (1 / 16) := Rat.mul_le_mul_of_nonneg_left (by grind) hρ0
   have x2 : ρ * ε <= ρ * (1 / 16) := Rat.mul_le_mul_of_nonneg_left (by grind) hρ0
   have x3 : ρ * ρ * ε <= ρ * (1 / 16) * 1 := aAO x1 (by grind) (Rat.le_of_lt e50) (by grind)
   have x4 : ρ * ρ * ρ <= ρ * (1 / 16) * 1 := aAO x1 (by grind) hρ0 (by grind)
   have x5 : ρ * ρ * ρ * ε <= ρ * (1 / 16) * 1 * 1 := aAO x4 (by grind) (Rat.le_of_lt e50) (by grind)
   have x6 : ε * ε * ρ >= 0 := Rat.mul_nonneg (Rat.mul_nonneg (Rat.le_of_lt e50) (Rat.le_of_lt e50)) hρ0
   grind
 have side : (0 < x -> 0 < out.lo.v /\ out.hi.v <= out.lo.v * (1 + ε * 16)) /\ (x < 0 -> out.hi.v < 0 /\ out.hi.v * (1 + ε * 16) <= out.lo.v) := by
   constructor
   · intro hx0
     obtain ⟨t1, t2⟩ := s1 hx0
     rw [if_neg (by grind)] at hav1 hav2
     obtain ⟨a5, a6⟩ := a3 t1
     obtain ⟨b5, b6⟩ := b3 (by grind)
     have l1 := lin1 (Rat.le_of_lt t1)
     obtain ⟨z1, z2⟩ := r1.1 (Rat.le_of_lt a5)
     obtain ⟨z3, z4⟩ := r2.1 (by grind)
     have q0 : 0 < al * (1 - ε) := Rat.mul_pos a5 (by grind)
     have hδ0 : 0 < u.lo.v * θ := Rat.mul_pos t1 hθ0
     have hδ1 : u.lo.v * θ <= 11109 * θ := Rat.mul_le_mul_of_nonneg_right (by grind) (Rat.le_of_lt hθ0)
     have hδρ : u.lo.v * θ <= ρ := by grind
     have g2 := apart (u.lo.v * θ) (by grind) hδ0 (by grind)
     have hah : 0 < ah := by grind
     have g3 : u.lo.v * θ <= ah * ρ := aAO (by grind) (by grind) (Rat.le_of_lt hθ0) (Rat.le_of_lt hah)
     have g4 : bl' * (1 - ρ) <= ah * (1 + ρ) := by
       have := Rat.mul_le_mul_of_nonneg_left hδρ (Rat.le_of_lt b5); grind
     have q4 : out.hi.v <= out.lo.v * (1 + ε * 16) := by
       apply Rat.le_of_mul_le_mul_right (c := 1 - ρ) ?_ (by grind)
       have y1 := Rat.mul_le_mul_of_nonneg_right z4 (show 0 <= 1 - ρ by grind)
       have y2 := Rat.mul_le_mul_of_nonneg_right b6 (show 0 <= 1 - ρ by grind)
       have y3 := Rat.mul_le_mul_of_nonneg_right g4 (show 0 <= 1 + ρ by grind)
       have y4 := Rat.mul_le_mul_of_nonneg_right a6 (Rat.mul_nonneg (show 0 <= 1 + ρ by grind) (show 0 <= 1 + ρ by grind))
       have y5 : bh * (1 - ρ) <= al * (1 + ρ) * ((1 + ρ) * (1 + ρ)) := by clear q3 z1 z2 z3 z4 g2; grind
       have y6 := Rat.mul_le_mul_of_nonneg_right y5 (show 0 <= 1 + ε by grind)
       have y7 := Rat.mul_le_mul_of_nonneg_left q3 (Rat.le_of_lt a5)
       have y8 := Rat.mul_le_mul_of_nonneg_right z1 (Rat.mul_nonneg (show 0 <= 1 + ε * 16 by grind) (show 0 <= 1 - ρ by grind))
       clear q3 y2 y3 y4 y5 g2 g3 g4 r1 r2 a6 b6 hav1 hav2 a3 a4 b3 b4 s1 s2 lin1 lin2 apart
       grind
     exact ⟨by grind, q4⟩
   · intro hx0
     obtain ⟨t1, t2⟩ := s2 hx0
     rw [if_pos (by grind)] at hav1 hav2
     obtain ⟨a5, a6⟩ := a4 (by grind)
     obtain ⟨b5, b6⟩ := b4 t1
     have l2 := lin2 (Rat.le_of_lt t1)
     obtain ⟨z1, z2⟩ := r1.2 (by grind)
     obtain ⟨z3, z4⟩ := r2.2 (by grind)
     have q0 : 0 < -bh * (1 - ε) := Rat.mul_pos (by grind) (by grind)
     have hδ0 : 0 < -u.hi.v * θ := Rat.mul_pos (by grind) hθ0
     have hδ1 : -u.hi.v * θ <= 11109 * θ := Rat.mul_le_mul_of_nonneg_right (by grind) (Rat.le_of_lt hθ0)
     have g2 := apart (-u.hi.v * θ) (by grind) hδ0 (by grind)
     have g3 : -u.hi.v <= -bl' * 11110 := by
       have g4 := (aBw (show 0 < 1 + -u.hi.v by grind)).1 l2
       have hbl : bl' <= 0 := by
         have : bl' + 1 <= 1 := by
           refine Rat.le_trans l2 ?_
           rw [aA0 (by grind)]; grind
         grind
       have g5 := Rat.mul_le_mul_of_nonneg_left (show 1 + -u.hi.v <= 11110 by grind) (show 0 <= -bl' by grind)
       grind
     have hbl : 0 < -bl' := by grind
     have g6 : -u.hi.v * θ <= -bl' * ρ := by
       have h7 := Rat.mul_le_mul_of_nonneg_right g3 (Rat.le_of_lt hθ0)
       have h8 : 11110 * θ <= ρ := by grind
       have h9 := Rat.mul_le_mul_of_nonneg_left h8 (Rat.le_of_lt hbl)
       grind
     have g7 : -ah <= -bl' * (1 + ρ) := by
       have : 0 <= -bl' * (-u.hi.v * θ) := Rat.mul_nonneg (Rat.le_of_lt hbl) (Rat.le_of_lt hδ0)
       grind
     have q4 : -out.lo.v <= -out.hi.v * (1 + ε * 16) := by
       have y2 := Rat.mul_le_mul_of_nonneg_right g7 (show 0 <= 1 + ρ by grind)
       have b6' : -bl' <= -bh * (1 + ρ) := by grind
       have y4 := Rat.mul_le_mul_of_nonneg_right b6' (Rat.mul_nonneg (show 0 <= 1 + ρ by grind) (show 0 <= 1 + ρ by grind))
       have y5 : -al <= -bh * (1 + ρ) * ((1 + ρ) * (1 + ρ)) := by clear q3 z1 z2 z3 z4 g2; grind
       have y6 := Rat.mul_le_mul_of_nonneg_right y5 (show 0 <= 1 + ε by grind)
       have q5 : (1 + ρ) * (1 + ρ) * (1 + ε) * (1 + ρ) <= (1 - ε) * (1 + ε * 16) := by
         have := Rat.mul_nonneg (Rat.mul_nonneg (show 0 <= 1 - ε by grind) (show 0 <= 1 + ε * 16 by grind)) hρ0
         grind
       have y7 := Rat.mul_le_mul_of_nonneg_left q5 (show 0 <= -bh by grind)
       have y8 := Rat.mul_le_mul_of_nonneg_right (show -bh * (1 - ε) <= -out.hi.v by grind) (show 0 <= 1 + ε * 16 by grind)
       clear q3 q5 y2 y4 y5 g2 g3 g6 g7 r1 r2 a6 b6 hav1 hav2 a3 a4 b3 b4 s1 s2 lin1 lin2 apart
       grind
     exact ⟨by grind, by grind⟩
 have hR : aBb out = true := by
   have he16 : ε * 16 <= 1 / 2 := by grind
   by_cases hs : 0 < x
   · obtain ⟨t1, t2⟩ := s1 hs
     obtain ⟨w1, w2⟩ := side.1 hs
     rw [if_neg (by grind)] at hav1 hav2
     obtain ⟨a5, a6⟩ := a3 t1
     obtain ⟨b5, b6⟩ := b3 (by grind)
     have l1 := lin1 (Rat.le_of_lt t1)
     obtain ⟨z1, z2⟩ := r1.1 (Rat.le_of_lt a5)
     obtain ⟨z3, z4⟩ := r2.1 (by grind)
     have e1 : out.lo.av = out.lo.v := by rw [aBh, if_neg (by grind)]
     have e2 : out.hi.av = out.hi.v := by rw [aBh, if_neg (by grind)]
     have q8 : ah <= al * 2 := by
       have := Rat.mul_le_mul_of_nonneg_left (show ρ <= 1 by grind) (Rat.le_of_lt a5); grind
     have q9 : bh <= bl' * 2 := by
       have := Rat.mul_le_mul_of_nonneg_left (show ρ <= 1 by grind) (Rat.le_of_lt b5); grind
     have q10 := Rat.mul_le_mul_of_nonneg_left (show 1 / 2 <= 1 - ε by grind) (Rat.le_of_lt a5)
     have q11 := Rat.mul_le_mul_of_nonneg_left (show 1 + ε <= 2 by grind) (show 0 <= bh by grind)
     clear r1 r2 a3 a4 b3 b4 s1 s2 lin1 lin2 apart q3 side
     exact aEz hb (by rw [e1]; constructor <;> grind) (by rw [e2]; constructor <;> grind) hoo
   · have hs2 : x < 0 := by grind
     obtain ⟨t1, t2⟩ := s2 hs2
     obtain ⟨w1, w2⟩ := side.2 hs2
     rw [if_pos (by grind)] at hav1 hav2
     obtain ⟨a5, a6⟩ := a4 (by grind)
     obtain ⟨b5, b6⟩ := b4 t1
     have l2 := lin2 (Rat.le_of_lt t1)
     obtain ⟨z1, z2⟩ := r1.2 (by grind)
     obtain ⟨z3, z4⟩ := r2.2 (by grind)
     have e1 : out.lo.av = -out.lo.v := by rw [aBh, if_pos (by grind)]
     have e2 : out.hi.av = -out.hi.v := by rw [aBh, if_pos (by grind)]
     have g3 : -u.hi.v <= -bl' * 11110 := by
       have g4 := (aBw (show 0 < 1 + -u.hi.v by grind)).1 l2
       have hbl : bl' <= 0 := by
         have : bl' + 1 <= 1 := by
           refine Rat.le_trans l2 ?_
           rw [aA0 (by grind)]; grind
         grind
       have g5 := Rat.mul_le_mul_of_nonneg_left (show 1 + -u.hi.v <= 11110 by grind) (show 0 <= -bl' by grind)
       grind
     have q9 : -bl' <= -bh * 2 := by
       have := Rat.mul_le_mul_of_nonneg_left (show ρ <= 1 by grind) (show 0 <= -bh by grind); grind
     have q10 := Rat.mul_le_mul_of_nonneg_left (show 1 / 2 <= 1 - ε by grind) (show 0 <= -bh by grind)
     have q12 : -al <= 2 := by
       have := Rat.mul_le_mul_of_nonneg_left (show ρ <= 1 by grind) (show 0 <= -ah by grind)
       have hp161 := aAz (-16100)
       grind
     have q13 := Rat.mul_le_mul_of_nonneg_left (show 1 + ε <= 2 by grind) (show 0 <= -al by grind)
     clear r1 r2 a3 a4 b3 b4 s1 s2 lin1 lin2 apart q3 side
     exact aEz hb (by rw [e1]; constructor <;> grind) (by rw [e2]; constructor <;> grind) hoo
 rw [hR, if_pos rfl]
 exact ⟨out, rfl, hR, hb.1, hb.2.1, hL, hH, side⟩
end
section
def aAo (n : Nat) : Nat := if n = 2 then 16000 else if n = 10 then 4800 else 11000
def aAR (n : Nat) (t : D) : Bool := decide (cmpD t (intD (-(aAo n : Int))) < 0)
def inB (n : Nat) (t : D) : Bool := !aAR n t && decide (cmpD t (intD (aAo n : Int)) <= 0)
def aA1 (n : Nat) (less : Bool) (t : D) (p : Nat) : Iv × Int :=
 if aAR n t && less then (⟨intD (-1), addD (intD (-1)) ⟨false, 1, -(p : Int) - 4⟩⟩, 0) else
 if !inB n t then (aAp, 3) else
 if t.m == 0 && less then (aAp, 0) else
 if t.m == 0 then (aAn (intD 1), 0) else
 aDf less (aAt n t (p + 64)) (p + 24)
def aAw (n : Nat) (t : D) (q : Nat) : Iv := if n = 0 then aAn t else aAF (aAn t) (lnVQ n q) q
def rawQ (n : Nat) (t : D) (p : Nat) : Iv := ⟨(anyQ (aAw n t (p + 64)).lo (p + 8)).lo, (anyQ (aAw n t (p + 64)).hi (p + 8)).hi⟩
def aD5 (n : Nat) (t : D) (p : Nat) : Iv := ⟨(aBF (aAw n t (p + 64)).lo (p + 8)).lo, (aBF (aAw n t (p + 64)).hi (p + 8)).hi⟩
def aBq (n : Nat) (less : Bool) (t : D) (p : Nat) : Iv × Int :=
 if decide (0 < cmpD t (intD (aAo n : Int))) || aAR n t && !less then (aAp, 3) else
 if aAR n t then (⟨intD (-1), addD (intD (-1)) ⟨false, 1, -(p : Int) - 2⟩⟩, 0) else
 if less then (aD5 n t p, 0) else (rawQ n t p, 0)
def aDs (v : Iv) (p : Int) : Bool :=
 aBb v && decide (0 <= p) &&
 (if aAK v.lo != aAK v.hi || aAK v.lo == 0 then aAK v.lo == aAK v.hi else
  (addD v.hi (negD v.lo)).m == 0 || (!decide (196608 < p) && decide (cmpD (aAs (addD v.hi (negD v.lo)) p) (if aAK v.lo < 0 then negD v.hi else v.lo) <= 0)))
def aJk (v own : Iv) (p : Int) : Prop := v.lo.canon /\ v.hi.canon /\ aBb v = true /\ aDs v p = true /\ v.lo.v <= own.hi.v /\ own.lo.v <= v.hi.v
theorem aQi (a b : D) : (addD a (negD b)).v = a.v - b.v := by rw [aMH, aGj]; grind
theorem aET {v : Iv} {p : Nat} (hr : aBb v = true) (hp : p <= 100000) (h : 0 < v.lo.v /\ v.hi.v <= v.lo.v * (1 + p2 (-(p : Int)))) (hle : v.lo.v <= v.hi.v) : aDs v p = true := by
 unfold aDs
 have s1 : aAK v.lo = 1 := by rw [aIF, if_neg (by grind), if_pos h.1]
 have s2 : aAK v.hi = 1 := by rw [aIF, if_neg (by grind), if_pos (by grind)]
 rw [hr, s1, s2, if_neg (by decide), if_neg (by decide)]
 have e : decide ((196608 : Int) < (p : Int)) = false := decide_eq_false (by omega)
 have e2 : decide (0 <= (p : Int)) = true := decide_eq_true (by omega)
 have e3 : cmpD (aAs (addD v.hi (negD v.lo)) (p : Int)) v.lo <= 0 := by
   rw [aCV, aE6, aQi]
   have k := aDA (p : Int)
   have k2 := aAz (p : Int)
   have := Rat.mul_le_mul_of_nonneg_right (show v.hi.v - v.lo.v <= v.lo.v * p2 (-(p : Int)) by grind) (Rat.le_of_lt k2)
   rw [Rat.mul_assoc (v.lo.v), k, Rat.mul_one] at this; exact this
 rw [e, e2, decide_eq_true e3]
 simp
theorem aPk {v : Iv} {p : Nat} (hr : aBb v = true) (hp : p <= 100000) (h : v.hi.v < 0 /\ v.hi.v * (1 + p2 (-(p : Int))) <= v.lo.v) (hle : v.lo.v <= v.hi.v) : aDs v p = true := by
 unfold aDs
 have s1 : aAK v.lo = -1 := by rw [aIF, if_pos (by grind)]
 have s2 : aAK v.hi = -1 := by rw [aIF, if_pos (by grind)]
 rw [hr, s1, s2, if_neg (by decide), if_pos (by decide)]
 have e : decide ((196608 : Int) < (p : Int)) = false := decide_eq_false (by omega)
 have e2 : decide (0 <= (p : Int)) = true := decide_eq_true (by omega)
 have e3 : cmpD (aAs (addD v.hi (negD v.lo)) (p : Int)) (negD v.hi) <= 0 := by
   rw [aCV, aE6, aQi, aGj]
   have k := aDA (p : Int)
   have k2 := aAz (p : Int)
   have := Rat.mul_le_mul_of_nonneg_right (show v.hi.v - v.lo.v <= -v.hi.v * p2 (-(p : Int)) by grind) (Rat.le_of_lt k2)
   rw [Rat.mul_assoc (-v.hi.v), k, Rat.mul_one] at this; exact this
 rw [e, e2, decide_eq_true e3]
 simp
theorem aIG {v : Iv} {x θ : Rat} {p : Nat} (hr : aBb v = true) (hp : p <= 100000) (hx : x ≠ 0) (hθ : θ <= p2 (-(p : Int))) (h : aMK v x θ) (hle : v.lo.v <= v.hi.v) : aDs v p = true := by
 by_cases hs : 0 < x
 · obtain ⟨a, b⟩ := h.1 hs
   have := Rat.mul_le_mul_of_nonneg_left hθ (Rat.le_of_lt a)
   exact aET hr hp ⟨a, by grind⟩ hle
 · obtain ⟨a, b⟩ := h.2 (by grind)
   have := Rat.mul_le_mul_of_nonneg_left hθ (show 0 <= -v.hi.v by grind)
   exact aPk hr hp ⟨a, by grind⟩ hle
theorem aGN (n : Nat) (t : D) : aAR n t = decide (t.v < -(aAo n : Rat)) := by
 unfold aAR
 rw [decide_eq_decide, aGK, aEw, Rat.intCast_neg]
 rfl
theorem aFw (n : Nat) (t : D) : cmpD t (intD (aAo n : Int)) <= 0 <-> t.v <= (aAo n : Rat) := by
 rw [aCV, aEw]; rfl
theorem aPp {a b : Iv} (h1 : a.lo.v <= b.hi.v) (h2 : b.lo.v <= a.hi.v) (ha : a.lo.v <= a.hi.v) (hb : b.lo.v <= b.hi.v) : ∃ c, a.has c /\ b.has c := by
 by_cases h : a.lo.v <= b.lo.v
 · exact ⟨b.lo.v, ⟨h, h2⟩, ⟨Rat.le_refl, hb⟩⟩
 · exact ⟨a.lo.v, ⟨Rat.le_refl, ha⟩, ⟨by grind, h1⟩⟩
theorem aGu {n w q : Nat} {t : D} (hn : n = 0 \/ n = 2 \/ n = 10) (hw : 70 <= w) (hw2 : w <= 10000) (hq : 70 <= q) (hq2 : q <= 10000) : ∃ y, (aAt n t w).has y /\ (aAw n t q).has y := by
 unfold aAt aAw
 by_cases h : n = 0
 · rw [if_pos h, if_pos h]
   exact ⟨t.v, aGQ (by omega) (aCx t), aCx t⟩
 · rw [if_neg h, if_neg h]
   have hn2 : n = 2 \/ n = 10 := by omega
   have hr : (0 : Rat) < (n : Rat) := by rcases hn2 with rfl | rfl <;> decide +kernel
   have l1 := aJ2 (w := w) hn2 (by omega)
   have l2 := aK5 (w := q) hn2 (by omega)
   obtain ⟨c, c1, c2⟩ := aPp (aK4 hr l1 l2) (aK4 hr l2 l1) (aFF hr l1.1 l1.2) (aFF hr l2.1 l2.2)
   exact ⟨t.v * c, aFr (by omega) (aGQ (by omega) (aCx t)) c1, aFr (by omega) (aCx t) c2⟩
theorem aIK {n : Nat} (hn : n = 0 \/ n = 2 \/ n = 10) : (aAo n : Rat) * lnC n <= 11092 /\ 4 * lnC n <= 11092 /\ (1 : Rat) / 4 <= lnC n := by
 rcases hn with rfl | rfl | rfl <;> exact ⟨by decide +kernel, by decide +kernel, by decide +kernel⟩
theorem aJW {n p : Nat} {t : D} (hn : n = 0 \/ n = 2 \/ n = 10) (hp8 : 8 <= p) (hp : p <= 4096) (h0 : t.m ≠ 0) (hin : t.av <= (aAo n : Rat)) :
   (aAt n t (p + 64)).lo.canon /\ (aAt n t (p + 64)).hi.canon /\ bl (aAt n t (p + 64)).lo.m <= 15000 /\ bl (aAt n t (p + 64)).hi.m <= 15000 /\
   (aAt n t (p + 64)).lo.v <= (aAt n t (p + 64)).hi.v /\
   aMK (aAt n t (p + 64)) t.v (p2 (-((p + 24 : Nat) : Int) - 34)) /\
   (t.av / 4 <= (aAt n t (p + 64)).lo.av /\ (aAt n t (p + 64)).lo.av <= 11109) /\ (t.av / 4 <= (aAt n t (p + 64)).hi.av /\ (aAt n t (p + 64)).hi.av <= 11109) /\
   (aAt n t (p + 64)).hi.v <= (aAt n t (p + 64)).lo.v + p2 (-((p + 24 : Nat) : Int) - 16) := by
 obtain ⟨s1, s2, s3, s4, s5, s6, s7⟩ := aLV (t := t) hn (w := p + 64) (by omega) (by omega)
 obtain ⟨r1, r2, r3⟩ := aIK hn
 obtain ⟨y, hy, _⟩ := aGu (t := t) hn (w := p + 64) (q := p + 64) (by omega) (by omega) (by omega) (by omega)
 have hle : (aAt n t (p + 64)).lo.v <= (aAt n t (p + 64)).hi.v := Rat.le_trans hy.1 hy.2
 have hvn : t.v ≠ 0 := fun h => h0 (aBL.1 h)
 have hav := aBh t
 have hl := aBh (aAt n t (p + 64)).lo
 have hh := aBh (aAt n t (p + 64)).hi
 obtain ⟨e1, e2⟩ := aEq (w := p + 64) (by omega)
 have eθ : (32 : Rat) * p2 (1 - ((p + 64 : Nat) : Int)) = p2 (-((p + 24 : Nat) : Int) - 34) := by
   have : p2 (1 - ((p + 64 : Nat) : Int)) * ((32 : Nat) : Rat) = p2 (-((p + 24 : Nat) : Int) - 34) := aEk 5 (k := 32) rfl (by omega)
   have k : ((32 : Nat) : Rat) = 32 := rfl
   rw [k] at this; rw [<- this]; grind
 have eδ : p2 (-((p + 24 : Nat) : Int) - 34) * 262144 = p2 (-((p + 24 : Nat) : Int) - 16) := aEk 18 (k := 262144) rfl (by omega)
 rw [eθ] at s5
 have hsize : ∀ x : Rat, 0 <= x -> x <= (aAo n : Rat) -> x * lnC n * (1 + 8 * p2 (1 - ((p + 64 : Nat) : Int))) <= 11109 := fun x h1 h2 => by
   have k1 := Rat.mul_le_mul_of_nonneg_right h2 (show 0 <= lnC n by grind)
   have k2 := aAO (Rat.le_trans k1 r1) (show 1 + 8 * p2 (1 - ((p + 64 : Nat) : Int)) <= 1 + 1 / 4096 by grind) (by grind) (by grind)
   grind
 have hθ0 := aAz (-((p + 24 : Nat) : Int) - 34)
 refine ⟨s1, s2, by omega, by omega, hle, s5, ?_⟩
 by_cases hs : 0 < t.v
 · obtain ⟨a1, a2⟩ := s5.1 hs
   obtain ⟨b1, b2⟩ := s6 hs
   rw [if_neg (by grind)] at hav hl hh
   have k := hsize t.v (by grind) (by grind)
   have k2 := Rat.mul_le_mul_of_nonneg_right (show (aAt n t (p + 64)).lo.v <= 11109 by grind) (Rat.le_of_lt hθ0)
   refine ⟨⟨?_, ?_⟩, ⟨?_, ?_⟩, ?_⟩ <;> grind
 · have hs2 : t.v < 0 := by grind
   obtain ⟨a1, a2⟩ := s5.2 hs2
   obtain ⟨b1, b2⟩ := s7 hs2
   rw [if_pos (by grind)] at hav hl hh
   have k := hsize (-t.v) (by grind) (by grind)
   have k2 := Rat.mul_le_mul_of_nonneg_right (show -(aAt n t (p + 64)).hi.v <= 11109 by grind) (Rat.le_of_lt hθ0)
   refine ⟨⟨?_, ?_⟩, ⟨?_, ?_⟩, ?_⟩ <;> grind
theorem aIJ {n p : Nat} {t : D} (hn : n = 0 \/ n = 2 \/ n = 10) (hp8 : 8 <= p) (hp : p <= 4096) (h0 : t.m ≠ 0) (hin : t.av <= (aAo n : Rat)) (hsm : p2 (-16898) <= t.av) :
   aSz (aAt n t (p + 64)) /\ (aAt n t (p + 64)).lo.v <= (aAt n t (p + 64)).hi.v /\
   aMK (aAt n t (p + 64)) t.v (p2 (-((p + 24 : Nat) : Int) - 34)) /\ p2 (-16900) <= (aAt n t (p + 64)).lo.av /\ p2 (-16900) <= (aAt n t (p + 64)).hi.av /\
   (aAt n t (p + 64)).hi.v <= (aAt n t (p + 64)).lo.v + p2 (-((p + 24 : Nat) : Int) - 16) := by
 obtain ⟨s1, s2, s3, s4, hle, s5, ⟨m1, m2⟩, ⟨m3, m4⟩, m5⟩ := aJW (t := t) hn hp8 hp h0 hin
 have e98 : p2 (-16900) * 4 = p2 (-16898) := aEk 2 (k := 4) rfl (by omega)
 have h17 : p2 (-17000) <= p2 (-16900) := aA7 (by omega)
 have h18 : (11109 : Rat) <= p2 17000 := by
   have k1 := aA7 (show ((14 : Nat) : Int) <= 17000 by omega)
   have k2 := (aCi 14 (k := 16384) rfl).1
   have k : ((16384 : Nat) : Rat) = 16384 := rfl
   rw [k2, k] at k1; grind
 refine ⟨⟨s1, s2, aKd s1 s3 (.inr ⟨by grind, by grind⟩), aKd s2 s4 (.inr ⟨by grind, by grind⟩), m2, m4⟩, hle, s5, by grind, by grind, m5⟩
theorem aFp : aAp.lo.v = 0 /\ aAp.hi.v = 0 := ⟨aKt, aKt⟩
theorem aJQ : aBb aAp = true := by decide +kernel
theorem aLB (p : Nat) (hp : p <= 100000) : aDs aAp p = true := by
 unfold aDs
 have s : aAK aAp.lo = 0 := rfl
 have s2 : aAK aAp.hi = 0 := rfl
 have e2 : decide (0 <= (p : Int)) = true := decide_eq_true (by omega)
 rw [aJQ, s, s2, e2]
 rfl
theorem aFI (n : Int) : (intD n).canon := aCz _ _ _
theorem aGZ : aBb (aAn (intD 1)) = true := aEz ⟨aB2 _, aB2 _, by decide +kernel, by decide +kernel⟩
 (by decide +kernel) (by decide +kernel) Rat.le_refl
end
section
def aKs (a b : Iv × Int) (p : Int) : Prop := a.2 = b.2 /\ (a.2 ≠ 0 -> a.1 = aAp) /\ (a.2 = 0 -> aJk a.1 b.1 p)
theorem aHg (p : Int) : aKs (aAp, 3) (aAp, 3) p := ⟨rfl, fun _ => rfl, fun h => by cases h⟩
theorem aWT : intD (-1) = ⟨true, 1, 0⟩ := D.ext' (by decide +kernel) (by decide +kernel) (by decide +kernel)
theorem aJt (p k : Nat) : (addD (intD (-1)) ⟨false, 1, -(p : Int) - k⟩).v = -1 + p2 (-(p : Int) - k) /\ (intD (-1)).v = -1 := by
 have h1 : (intD (-1)).v = -1 := aEw (-1)
 refine ⟨?_, h1⟩
 rw [aMH, h1]
 have h2 : D.v ⟨false, 1, -(p : Int) - k⟩ = p2 (-(p : Int) - k) := by
   unfold D.v
   have : sg false = 1 := rfl
   have e : ((1 : Nat) : Rat) = 1 := rfl
   dsimp only
   rw [this, e]; grind
 rw [h2]
theorem aPI {p k : Nat} (hk : 2 <= k) (hk2 : p + k <= 14000) : (addD (intD (-1)) ⟨false, 1, -(p : Int) - k⟩).canon /\ bl (addD (intD (-1)) ⟨false, 1, -(p : Int) - k⟩).m <= 15000 := by
 have h1 : oneD (⟨true, 1, 0⟩ : D) = ⟨true, 1, 0⟩ := aCL (.inl rfl)
 have h2 : oneD (⟨false, 1, -(p : Int) - k⟩ : D) = ⟨false, 1, -(p : Int) - k⟩ := aCL (.inl rfl)
 rw [aWT]
 unfold addD
 rw [h1, h2]
 dsimp only
 rw [if_neg (by decide), if_neg (by decide)]
 rw [show min (0 : Int) (-(p : Int) - k) = -(p : Int) - k by omega, show ((0 : Int) - (-(p : Int) - k)).toNat = p + k by omega, show (-(p : Int) - k - (-(p : Int) - k)).toNat = 0 by omega]
 rw [if_neg (by decide), if_pos (by have : 0 < 2 ^ (p + k) := Nat.pow_pos (by decide); omega)]
 refine ⟨aCz _ _ _, ?_⟩
 have h3 := aWd true (1 * 2 ^ (p + k) - 1 * 2 ^ 0) (-(p : Int) - k)
 have h4 : bl (1 * 2 ^ (p + k) - 1 * 2 ^ 0) <= p + k := aC8 (by have : 0 < 2 ^ (p + k) := Nat.pow_pos (by decide); omega)
 omega
theorem aGc {n p : Nat} {t : D} (hn : n = 0 \/ n = 2 \/ n = 10) (hp8 : 8 <= p) (hp : p <= 4096) (hsm : t.m = 0 \/ p2 (-16898) <= t.av) (less : Bool) :
   aKs (aA1 n less t p) (aBq n less t p) p := by
 have hbe := aGN n t
 have hre := aFw n t
 have hcg := aHH t (intD (aAo n : Int))
 rw [aEw] at hcg
 have hcast : ((aAo n : Int) : Rat) = (aAo n : Rat) := rfl
 rw [hcast] at hcg
 have hr0 : (0 : Rat) <= (aAo n : Rat) := Rat.natCast_nonneg
 unfold aA1 aBq inB
 by_cases hb : t.v < -(aAo n : Rat)
 · have h1 : aAR n t = true := by rw [hbe]; exact decide_eq_true hb
   have h2 : decide (0 < cmpD t (intD (aAo n : Int))) = false := decide_eq_false (by rw [hcg]; grind)
   rw [h1, h2]
   cases less with
   | false => simp only [Bool.and_false, Bool.false_eq_true, if_false, Bool.not_true, Bool.false_and, Bool.not_false, if_true, Bool.and_true, Bool.or_true]; exact aHg p
   | true =>
     simp only [Bool.and_true, if_true, Bool.not_true, Bool.and_false, Bool.or_false, Bool.false_eq_true, if_false]
     refine ⟨rfl, fun h => absurd rfl h, fun _ => ?_⟩
     obtain ⟨v1, v0⟩ := aJt p 4
     obtain ⟨v2, _⟩ := aJt p 2
     obtain ⟨c1, c2⟩ := aPI (p := p) (k := 4) (by omega) (by omega)
     have g1 := aAz (-(p : Int) - (4 : Nat))
     have g2 := aAz (-(p : Int) - (2 : Nat))
     have g3 : p2 (-(p : Int) - (4 : Nat)) * ((16 : Nat) : Rat) = p2 (-(p : Int)) := aEk 4 (k := 16) rfl (by omega)
     have g4 := aA7 (show -(p : Int) <= 0 by omega)
     rw [aCt] at g4
     have g5 : ((16 : Nat) : Rat) = 16 := rfl
     rw [g5] at g3
     have k1 : p2 (-17000) * 4 <= 1 := by
       have := aEk 2 (k := 4) rfl (show (-17000 : Int) + 2 = -16998 by omega)
       have e : ((4 : Nat) : Rat) = 4 := rfl
       rw [e] at this
       have := aA7 (show (-16998 : Int) <= 0 by omega)
       rw [aCt] at this
       grind
     have k2 : 1 <= p2 17000 := by have := aA7 (show (0 : Int) <= 17000 by omega); rwa [aCt] at this
     have hR : aBb ⟨intD (-1), addD (intD (-1)) ⟨false, 1, -(p : Int) - (4 : Nat)⟩⟩ = true := by
       refine aEz ⟨aFI _, c1, (show bl (intD (-1)).m <= 15000 by decide +kernel), c2⟩ ?_ ?_ ?_
       · rw [aBh, v0, if_pos (by decide)]; constructor <;> grind
       · rw [aBh, v1, if_pos (by grind)]; constructor <;> grind
       · rw [v0, v1]; grind
     have hS : aMK ⟨intD (-1), addD (intD (-1)) ⟨false, 1, -(p : Int) - (4 : Nat)⟩⟩ (-1) (p2 (-(p : Int))) := by
       refine ⟨fun h => absurd h (by decide), fun _ => ?_⟩
       dsimp only
       rw [v0, v1]
       have : p2 (-(p : Int) - (4 : Nat)) * p2 (-(p : Int)) <= 1 / 16 * p2 (-(p : Int)) := Rat.mul_le_mul_of_nonneg_right (by grind) (by grind)
       constructor <;> grind
     refine ⟨aFI _, c1, hR, aIG hR (by omega) (by decide) Rat.le_refl hS ?_, ?_, ?_⟩
     · show (intD (-1)).v <= (addD (intD (-1)) ⟨false, 1, -(p : Int) - (4 : Nat)⟩).v
       rw [v0, v1]; grind
     · show (intD (-1)).v <= (addD (intD (-1)) ⟨false, 1, -(p : Int) - (2 : Nat)⟩).v
       rw [v0, v2]; grind
     · show (intD (-1)).v <= (addD (intD (-1)) ⟨false, 1, -(p : Int) - (4 : Nat)⟩).v
       rw [v0, v1]; grind
 have h1 : aAR n t = false := by rw [hbe]; exact decide_eq_false hb
 rw [h1]
 simp only [Bool.false_and, Bool.false_eq_true, if_false, Bool.not_false, Bool.true_and, Bool.or_false]
 by_cases ha : (aAo n : Rat) < t.v
 · have h2 : decide (cmpD t (intD (aAo n : Int)) <= 0) = false := decide_eq_false (by rw [hre]; grind)
   have h3 : decide (0 < cmpD t (intD (aAo n : Int))) = true := decide_eq_true (by rw [hcg]; exact ha)
   rw [h2, h3]
   simp only [Bool.not_false, if_true]
   exact aHg p
 have h2 : decide (cmpD t (intD (aAo n : Int)) <= 0) = true := decide_eq_true (by rw [hre]; grind)
 have h3 : decide (0 < cmpD t (intD (aAo n : Int))) = false := decide_eq_false (by rw [hcg]; exact ha)
 rw [h2, h3]
 simp only [Bool.not_true, Bool.false_eq_true, if_false]
 obtain ⟨y, y1, y2⟩ := aGu (t := t) hn (w := p + 64) (q := p + 64) (by omega) (by omega) (by omega) (by omega)
 have qL := aE1 (aAw n t (p + 64)).lo (p + 8)
 have qH := aE1 (aAw n t (p + 64)).hi (p + 8)
 have rL := aHR (aAw n t (p + 64)).lo (p + 8)
 have rH := aHR (aAw n t (p + 64)).hi (p + 8)
 by_cases hm : t.m = 0
 ·
   have hv : t.v = 0 := aBL.2 hm
   have hq0 : (aAw n t (p + 64)).has 0 := by
     unfold aAw
     by_cases h : n = 0
     · rw [if_pos h]; have := aCx t; rwa [hv] at this
     · rw [if_neg h]
       have hn2 : n = 2 \/ n = 10 := by omega
       have l2 := aK5 (w := p + 64) hn2 (by omega)
       have hr : (0 : Rat) < (n : Rat) := by rcases hn2 with rfl | rfl <;> decide +kernel
       have := aFr (p := ((p + 64 : Nat) : Int)) (by omega) (aCx t) (b := lnVQ n (p + 64)) (y := (lnVQ n (p + 64)).lo.v) ⟨Rat.le_refl, aFF hr l2.1 l2.2⟩
       rw [hv, Rat.zero_mul] at this
       exact this
   have hm0 : (t.m == 0) = true := by rw [hm]; rfl
   rw [hm0]
   cases less with
   | true =>
     simp only [Bool.and_true, if_true]
     refine ⟨rfl, fun h => absurd rfl h, fun _ => ?_⟩
     refine ⟨aIt, aIt, aJQ, aLB p (by omega), ?_, ?_⟩
     · rw [aFp.1]
       have := aAM aDu rH.2 hq0.2
       show 0 <= (aBF (aAw n t (p + 64)).hi (p + 8)).hi.v
       grind
     · rw [aFp.2]
       have := aAM rL.1 aC0 hq0.1
       show (aBF (aAw n t (p + 64)).lo (p + 8)).lo.v <= 0
       grind
   | false =>
     simp only [Bool.and_false, Bool.false_eq_true, if_false, if_true]
     refine ⟨rfl, fun h => absurd rfl h, fun _ => ?_⟩
     obtain ⟨o1, o2⟩ := aCZ
     refine ⟨aB2 _, aB2 _, aGZ, aET aGZ (by omega) ⟨by rw [o1]; decide, ?_⟩ (by rw [o1, o2]; exact Rat.le_refl), ?_, ?_⟩
     · rw [o1, o2]; have := aAz (-(p : Int)); grind
     · rw [o1]; exact aAM aDu qH.2.2 hq0.2
     · rw [o2]; exact aAM qL.2.1 aC0 hq0.1
 · have hm0 : (t.m == 0) = false := beq_eq_false_iff_ne.2 hm
   rw [hm0]
   simp only [Bool.false_and, Bool.false_eq_true, if_false]
   have hsm' : p2 (-16898) <= t.av := hsm.resolve_left hm
   have hvn : t.v ≠ 0 := fun h => hm (aBL.1 h)
   obtain ⟨e1, e2, e3, e4, e5, e6⟩ := aIJ hn hp8 hp hm (by rw [aBh]; split <;> grind) hsm'
   cases less with
   | true =>
     obtain ⟨out, o1, o2, o3, o4, o5, o6, o7⟩ := aMt e1 (by omega) (by omega) e2 hvn e3 e4 e5
     rw [o1]
     simp only [if_true]
     refine ⟨rfl, fun h => absurd rfl h, fun _ => ?_⟩
     have hle : out.lo.v <= out.hi.v := by have := aAM o5 o6 e2; grind
     refine ⟨o3, o4, o2, aIG o2 (by omega) hvn (aA7 (by omega)) o7 hle, ?_, ?_⟩
     · have := aAM o5 rH.2 (Rat.le_trans y1.1 y2.2)
       show out.lo.v <= (aBF (aAw n t (p + 64)).hi (p + 8)).hi.v
       grind
     · have := aAM rL.1 o6 (Rat.le_trans y2.1 y1.2)
       show (aBF (aAw n t (p + 64)).lo (p + 8)).lo.v <= out.hi.v
       grind
   | false =>
     obtain ⟨out, o1, o2, o3, o4, o5, o6, o7, o8⟩ := aLl e1 (by omega) (by omega) e2 e6
     rw [o1]
     simp only [Bool.false_eq_true, if_false]
     refine ⟨rfl, fun h => absurd rfl h, fun _ => ?_⟩
     have hle : out.lo.v <= out.hi.v := aAM o6 o7 e2
     have hp2 := aA7 (show 5 - ((p + 24 : Nat) : Int) <= -(p : Int) by omega)
     refine ⟨o3, o4, o2, aET o2 (by omega) ⟨o5, ?_⟩ hle, ?_, ?_⟩
     · have := Rat.mul_le_mul_of_nonneg_left hp2 (Rat.le_of_lt o5); grind
     · exact aAM o6 qH.2.2 (Rat.le_trans y1.1 y2.2)
     · exact aAM qL.2.1 o7 (Rat.le_trans y2.1 y1.2)
end
section
def powV (n : Nat) (t : D) (p : Nat) : Iv × Int :=
 if !inB n t then (aAp, 3) else
 if t.m == 0 then (aAn (intD 1), 0) else
 aDf false (aAt n (oneD t) (p + 64)) (p + 24)
end
section
set_option maxRecDepth 10000
set_option maxHeartbeats 4000000
open Go.RowKit
def aAj (k R : Int) : AV := .agg [.lit (.int .u8 k), .lit (.int .i64 R)]
theorem aDG {d : D} (h1 : bl d.m <= 65536) (h2 : ae d <= 32768) : aAT d = true := by
 unfold aAT
 have := aDt (n := d.m) (k := 1024) (by omega)
 unfold ae at h2
 exact decide_eq_true (by omega)
theorem aK3 {n w : Nat} (hn : n = 2 \/ n = 10) (hw : 16 <= w /\ w <= 4100) : aBb (aBt (if n = 2 then ln2F (w + 64) else aDV (w + 64)) (w + 64)) = true /\ aAT (lnV n w).lo = true /\ aAT (lnV n w).hi = true := by
 have hs : bl (if n = 2 then ln2F (w + 64) else aDV (w + 64)).a <= 2 * (w + 64) + 70 /\ (if n = 2 then ln2F (w + 64) else aDV (w + 64)).e < 18446744073709551616 := by
   split
   · exact (aR6 (w + 64) (by omega)).2
   · exact (aOK (w + 64) (by omega)).2
 have hi := aIl (if n = 2 then ln2F (w + 64) else aDV (w + 64)) (w + 64) hs.2
 have hv := aBe (aBt (if n = 2 then ln2F (w + 64) else aDV (w + 64)) (w + 64))
 have hwide := aHy (if n = 2 then ln2F (w + 64) else aDV (w + 64)) (w + 64)
 generalize (if n = 2 then ln2F (w + 64) else aDV (w + 64)) = x at *
 refine ⟨?_, ?_⟩
 · unfold aBb
   rw [aDG (d := (aBt x (w + 64)).lo) (by omega) (by omega), aDG (d := (aBt x (w + 64)).hi) (by omega) (by omega)]
   have : cmpD (aBt x (w + 64)).lo (aBt x (w + 64)).hi <= 0 := by
     rw [aCV]
     rw [hwide]
     have := Rat.mul_nonneg (aEm x.e) (Rat.le_of_lt (aAz (-((w + 64 : Nat) : Int))))
     grind
   simp [this]
 · obtain ⟨f1, f2, f3, f4⟩ := aI1 (w := w) hn (by omega) (by omega)
   have hb : ∀ (d : D) (up : Bool), bl (cutD d ((w : Int) + 8) up).m <= 15000 := fun d up => by
     have := aJr d (p := (w : Int) + 8) (by omega) up
     omega
   have heps : p2 (-(w : Int) - 4) <= 1 / 16 := by
     have := aA7 (show -(w : Int) - 4 <= -4 by omega)
     have e4 : p2 (-4) * 16 = 1 := (aCi 4 (k := 16) rfl).2
     grind
   have hep := aAz (-(w : Int) - 4)
   have hA : 1 / 2 <= lnA n /\ lnB n <= 3 := by
     rcases hn with rfl | rfl <;> exact ⟨by decide +kernel, by decide +kernel⟩
   have b1 : p2 (-17000) <= 1 / 4 := by
     have := aA7 (show (-17000 : Int) <= -2 by omega)
     have e2 : p2 (-2) * 4 = 1 := (aCi 2 (k := 4) rfl).2
     grind
   have b2 : 4 <= p2 17000 := by
     have := aA7 (show (2 : Int) <= 17000 by omega)
     have e2 : p2 2 = 4 := (aCi 2 (k := 4) rfl).1
     grind
   have l1 : 1 / 4 <= (lnV n w).lo.v := by
     have : (1 : Rat) / 2 * (1 - p2 (-(w : Int) - 4)) <= lnA n * (1 - p2 (-(w : Int) - 4)) := Rat.mul_le_mul_of_nonneg_right hA.1 (by grind)
     grind
   have l2 : (lnV n w).hi.v <= 4 := by
     have : lnB n * (1 + p2 (-(w : Int) - 4)) <= 3 * (1 + p2 (-(w : Int) - 4)) := Rat.mul_le_mul_of_nonneg_right hA.2 (by grind)
     grind
   have hle : (lnV n w).lo.v <= (lnV n w).hi.v := aK4 (by rcases hn with rfl | rfl <;> decide +kernel) (aJ2 hn (by omega)) (aJ2 hn (by omega))
   have a1 := aBh (lnV n w).lo
   have a2 := aBh (lnV n w).hi
   constructor
   · refine aKd (aD1 _ (by omega) _) (hb _ _) (.inr ?_)
     show p2 (-17000) <= (lnV n w).lo.av /\ (lnV n w).lo.av <= _
     rw [a1, if_neg (by grind)]
     constructor <;> grind
   · refine aKd (aD1 _ (by omega) _) (hb _ _) (.inr ?_)
     show p2 (-17000) <= (lnV n w).hi.av /\ (lnV n w).hi.av <= _
     rw [a2, if_neg (by grind)]
     constructor <;> grind
theorem aUG {n w : Nat} (hn : n = 2 \/ n = 10) (hw : 16 <= w /\ w <= 4100) : ib (lnV n w) <= 65536 /\ ie (lnV n w) <= 32768 := by
 obtain ⟨_, h1, h2⟩ := aK3 hn hw
 have h1 := aCJ h1
 have h2 := aCJ h2
 unfold ib ie
 omega
theorem aJd  : AC Tryz.prog TabW 44 [.lit (.int .i64 0)] (.tup [aAj 0 11000, .lit (.bool true)]) := by
 refine aAd Tryz.func44 rfl (by kernel_rfl) aAc Tryz.mixed rfl rfl (by kernel_rfl) ?_
 simp only [aAl, Tryz.ntmps44, dyV, ivV, fxV, aAj]
 refine aAa fun K1 g1 => ?_
 refine aAb fun os => ?_
 try simp (disch := omega) only [xq, simprocAttr, dyV, ivV, fxV, aAj]
 refine g1 _ ?_
 refine aAa fun K2 g2 => ?_
 refine aAa fun K3 g3 => ?_
 refine aAb fun os => ?_
 try simp (disch := omega) only [xq, simprocAttr, dyV, ivV, fxV, aAj]
 refine g3 _ ?_
 refine aAv ?_
 refine aAa fun K4 g4 => ?_
 refine aAb fun os => ?_
 try simp (disch := omega) only [xq, simprocAttr, dyV, ivV, fxV, aAj]
 refine g4 _ ?_
 refine aAf (by first | rfl | assumption) (fun c1 => ?_) (fun c1 => ?_)
 ·try simp only [xn] at c1
  refine aAa fun K5 g5 => ?_
  refine aAb fun os => ?_
  try simp (disch := omega) only [xq, simprocAttr, dyV, ivV, fxV, aAj]
  refine g5 _ ?_
  refine aAe ?_
  simp only [aAm, aAg, reduceIte, Nat.reduceEqDiff]
  simp only [endX, resX, resV, Tryz.results44]
  try simp (disch := omega) only [xq, simprocAttr, dyV, ivV, fxV, aAj]
  first | done | rfl
 ·exact absurd c1 (by decide)
theorem aJc  : AC Tryz.prog TabW 44 [.lit (.int .i64 2)] (.tup [aAj 2 16000, .lit (.bool true)]) := by
 refine aAd Tryz.func44 rfl (by kernel_rfl) aAc Tryz.mixed rfl rfl (by kernel_rfl) ?_
 simp only [aAl, Tryz.ntmps44, dyV, ivV, fxV, aAj]
 refine aAa fun K1 g1 => ?_
 refine aAb fun os => ?_
 try simp (disch := omega) only [xq, simprocAttr, dyV, ivV, fxV, aAj]
 refine g1 _ ?_
 refine aAa fun K2 g2 => ?_
 refine aAa fun K3 g3 => ?_
 refine aAb fun os => ?_
 try simp (disch := omega) only [xq, simprocAttr, dyV, ivV, fxV, aAj]
 refine g3 _ ?_
 refine aAv ?_
 refine aAa fun K4 g4 => ?_
 refine aAb fun os => ?_
 try simp (disch := omega) only [xq, simprocAttr, dyV, ivV, fxV, aAj]
 refine g4 _ ?_
 refine aAf (by first | rfl | assumption) (fun c1 => ?_) (fun c1 => ?_)
 ·exact absurd c1 (by decide)
 ·try simp only [xn] at c1
  refine aAa fun K5 g5 => ?_
  refine aAb fun os => ?_
  try simp (disch := omega) only [xq, simprocAttr, dyV, ivV, fxV, aAj]
  refine g5 _ ?_
  refine aAf (by first | rfl | assumption) (fun c2 => ?_) (fun c2 => ?_)
  ·try simp only [xn] at c2
   refine aAa fun K6 g6 => ?_
   refine aAb fun os => ?_
   try simp (disch := omega) only [xq, simprocAttr, dyV, ivV, fxV, aAj]
   refine g6 _ ?_
   refine aAe ?_
   simp only [aAm, aAg, reduceIte, Nat.reduceEqDiff]
   simp only [endX, resX, resV, Tryz.results44]
   try simp (disch := omega) only [xq, simprocAttr, dyV, ivV, fxV, aAj]
   first | done | rfl
  ·exact absurd c2 (by decide)
theorem aGb  : AC Tryz.prog TabW 44 [.lit (.int .i64 10)] (.tup [aAj 3 4800, .lit (.bool true)]) := by
 refine aAd Tryz.func44 rfl (by kernel_rfl) aAc Tryz.mixed rfl rfl (by kernel_rfl) ?_
 simp only [aAl, Tryz.ntmps44, dyV, ivV, fxV, aAj]
 repeat' first
  | refine aAa fun K g => ?_
  | refine goK (by assumption) ?_
  | refine aAv ?_
  | ((first | refine aAk ?_ | refine aAe ?_) <;> try simp only [aAm, aAg, reduceIte, Nat.reduceEqDiff])
  | ((first
  | refine aAU rfl fun os => ?_
  | simp only [endX, resX, resV, Tryz.results44]) <;> try (simp (disch := omega) only [xq, simprocAttr, dyV, ivV, fxV, aAj]))
  | (refine aAf (by first | rfl | assumption) (fun c => ?_) (fun c => ?_) <;> first | exact absurd c (by decide) | ((try rw [c]); try simp only [xn] at c))
  | (first | done | rfl
     done)
theorem aDI (k R : Int) (t : D) (hR : 0 <= R /\ R <= 100000) (h : bl t.m <= 1000000 /\ ae t <= 1000000) : AC Tryz.prog TabW 45 [aAj k R, dyV t] (.tup [.lit (.bool (!decide (cmpD t (intD (-R)) < 0) && decide (cmpD t (intD R) <= 0))), .lit (.bool (decide (cmpD t (intD (-R)) < 0)))]) := by
 have i1 := aBX (-R) (by omega)
 have i2 := aBX R (by omega)
 have q1 := aFz t (intD (-R)) (by omega)
 have q2 := aFz t (intD R) (by omega)
 refine aAd Tryz.func45 rfl (by kernel_rfl) aAc Tryz.mixed rfl rfl (by kernel_rfl) ?_
 simp only [aAl, Tryz.ntmps45, dyV, ivV, fxV, aAj]
 repeat' first
  | refine aAa fun K g => ?_
  | refine goK (by assumption) ?_
  | (refine aAe ?_; try simp only [aAm, aAg, reduceIte, Nat.reduceEqDiff])
  | ((first
  | refine aAU rfl fun os => ?_
  | refine aCR rfl (by kernel_rfl) fun os => ?_
  | refine aLC (by kernel_rfl) ?_
  | refine gd1 rfl rfl ?_
  | refine gd0 rfl rfl (by exact Nat.le_of_ble_eq_true rfl) ?_
  | refine cxd (i1.1) ?_
  | refine cxd (q1) ?_
  | refine cxd (i2.1) ?_
  | refine cxd (q2) ?_
  | simp only [endX, resX, resV, Tryz.results45]) <;> try (simp (disch := omega) only [xq, simprocAttr, dyV, ivV, fxV, aAj, Int.zero_sub]))
  | ((first | refine gx (fun c => ?_) (fun c => ?_) | refine gdt rfl rfl rfl (fun c => ?_) (fun c => ?_)) <;> first | exact absurd c (by decide) | ((try rw [c]); (try simp only [xn] at c); try (simp (disch := omega) only [xq, simprocAttr, dyV, ivV, fxV, aAj, Int.zero_sub])))
  | (simp [*]
     done)
theorem aGH (t : D) (w : Nat) (hw : 16 <= w /\ w <= 4100) (h : bl t.m <= 1000000 /\ ae t <= 1000000) : AC Tryz.prog TabW 54 [aAj 0 11000, dyV t, .lit (.int .i64 ((w : Nat) : Int))] (ivV (aAt 0 t w)) /\ (ib (aAt 0 t w) <= 4200 /\ ie (aAt 0 t w) <= 10000000) := by
 have h1 := aBS t (by omega)
 have h2 := aDm (aAn t) w (by omega)
 have hr : aAt 0 t w = aAD (aAn t) w := rfl
 refine ⟨?_, by rw [hr]; omega⟩
 rw [hr]
 refine aAd Tryz.func54 rfl (by kernel_rfl) aAc Tryz.mixed rfl rfl (by kernel_rfl) ?_
 simp only [aAl, Tryz.ntmps54, dyV, ivV, fxV, aAj]
 refine aAa fun K1 g1 => ?_
 refine aAb fun os => ?_
 try simp (disch := omega) only [xq, simprocAttr, dyV, ivV, fxV, aAj]
 refine g1 _ ?_
 refine aAa fun K2 g2 => ?_
 refine aAb fun os => ?_
 try simp (disch := omega) only [xq, simprocAttr, dyV, ivV, fxV, aAj]
 refine cxo (h1.1) ?_
 try simp (disch := omega) only [xq, simprocAttr, dyV, ivV, fxV, aAj]
 refine cxo (h2.1) ?_
 try simp (disch := omega) only [xq, simprocAttr, dyV, ivV, fxV, aAj]
 refine g2 _ ?_
 refine aAa fun K3 g3 => ?_
 refine aAa fun K4 g4 => ?_
 refine aAb fun os => ?_
 try simp (disch := omega) only [xq, simprocAttr, dyV, ivV, fxV, aAj]
 refine g4 _ ?_
 refine aAf (by first | rfl | assumption) (fun c1 => ?_) (fun c1 => ?_)
 ·try simp only [xn] at c1
  refine aAa fun K5 g5 => ?_
  refine aAb fun os => ?_
  try simp (disch := omega) only [xq, simprocAttr, dyV, ivV, fxV, aAj]
  refine g5 _ ?_
  refine aAe ?_
  simp only [aAm, aAg, reduceIte, Nat.reduceEqDiff]
  simp only [endX, resX, resV, Tryz.results54]
  try simp (disch := omega) only [xq, simprocAttr, dyV, ivV, fxV, aAj]
  first | done | rfl
 ·exact absurd c1 (by decide)
theorem aGG (t : D) (w : Nat) (hw : 16 <= w /\ w <= 4100) (h : bl t.m <= 1000000 /\ ae t <= 1000000) : AC Tryz.prog TabW 54 [aAj 2 16000, dyV t, .lit (.int .i64 ((w : Nat) : Int))] (ivV (aAt 2 t w)) /\ (ib (aAt 2 t w) <= 4200 /\ ie (aAt 2 t w) <= 10000000) := by
 have h1 := aBS t (by omega)
 have h2 := aDm (aAn t) w (by omega)
 obtain ⟨r1, r2, r3⟩ := aK3 (n := 2) (w := w) (by decide) hw
 have h3 := aPH w (by omega) r1 r2 r3
 have h4 := aUG (n := 2) (w := w) (by decide) hw
 have h5 := aFx (aAD (aAn t) w) (lnV 2 w) w (by omega)
 have hr : aAt 2 t w = aAF (aAD (aAn t) w) (lnV 2 w) w := rfl
 refine ⟨?_, by rw [hr]; omega⟩
 rw [hr]
 refine aAd Tryz.func54 rfl (by kernel_rfl) aAc Tryz.mixed rfl rfl (by kernel_rfl) ?_
 simp only [aAl, Tryz.ntmps54, dyV, ivV, fxV, aAj]
 repeat' first
  | refine aAa fun K g => ?_
  | refine goK (by assumption) ?_
  | ((first | refine aAk ?_ | refine aAe ?_) <;> try simp only [aAm, aAg, reduceIte, Nat.reduceEqDiff])
  | ((first
  | refine aAU rfl fun os => ?_
  | refine cxo (h1.1) ?_
  | refine cxo (h2.1) ?_
  | refine cxo (h3) ?_
  | refine cxo (h5.1) ?_
  | simp only [endX, resX, resV, Tryz.results54]) <;> try (simp (disch := omega) only [xq, simprocAttr, dyV, ivV, fxV, aAj]))
  | (refine aAf (by first | rfl | assumption) (fun c => ?_) (fun c => ?_) <;> first | exact absurd c (by decide) | ((try rw [c]); try simp only [xn] at c))
  | (first | done | rfl
     done)
theorem aEG (t : D) (w : Nat) (hw : 16 <= w /\ w <= 4100) (h : bl t.m <= 1000000 /\ ae t <= 1000000) : AC Tryz.prog TabW 54 [aAj 3 4800, dyV t, .lit (.int .i64 ((w : Nat) : Int))] (ivV (aAt 10 t w)) /\ (ib (aAt 10 t w) <= 4200 /\ ie (aAt 10 t w) <= 10000000) := by
 have h1 := aBS t (by omega)
 have h2 := aDm (aAn t) w (by omega)
 obtain ⟨r1, r2, r3⟩ := aK3 (n := 10) (w := w) (by decide) hw
 have h3 := aNM w (by omega) r1 r2 r3
 have h4 := aUG (n := 10) (w := w) (by decide) hw
 have h5 := aFx (aAD (aAn t) w) (lnV 10 w) w (by omega)
 have hr : aAt 10 t w = aAF (aAD (aAn t) w) (lnV 10 w) w := rfl
 refine ⟨?_, by rw [hr]; omega⟩
 rw [hr]
 refine aAd Tryz.func54 rfl (by kernel_rfl) aAc Tryz.mixed rfl rfl (by kernel_rfl) ?_
 simp only [aAl, Tryz.ntmps54, dyV, ivV, fxV, aAj]
 repeat' first
  | refine aAa fun K g => ?_
  | refine goK (by assumption) ?_
  | ((first | refine aAk ?_ | refine aAe ?_) <;> try simp only [aAm, aAg, reduceIte, Nat.reduceEqDiff])
  | ((first
  | refine aAU rfl fun os => ?_
  | refine cxo (h1.1) ?_
  | refine cxo (h2.1) ?_
  | refine cxo (h3) ?_
  | refine cxo (h5.1) ?_
  | simp only [endX, resX, resV, Tryz.results54]) <;> try (simp (disch := omega) only [xq, simprocAttr, dyV, ivV, fxV, aAj]))
  | (refine aAf (by first | rfl | assumption) (fun c => ?_) (fun c => ?_) <;> first | exact absurd c (by decide) | ((try rw [c]); try simp only [xn] at c))
  | (first | done | rfl
     done)
theorem aEo (u : Iv) (p : Nat) (hp : 8 <= p /\ p <= 4096) : AC Tryz.prog TabW 53 [ivV u, .lit (.int .i64 ((p : Nat) : Int)), .clo 51 []] (.tup [ivV (aDf false u p).1, .lit (.int .i64 (aDf false u p).2)]) := by
 have x1 := aRL u.lo p hp
 have x2 := aRL u.hi p hp
 have s1 := aIr (less := false) (t := u.lo) hp
 have s2 := aIr (less := false) (t := u.hi) hp
 have hr : aDf false u p = if (aBy false u.lo p).2 != 0 || (aBy false u.hi p).2 != 0 then (aAp, 3) else
   if aBb (aAD ⟨(aBy false u.lo p).1.lo, (aBy false u.hi p).1.hi⟩ p) then (aAD ⟨(aBy false u.lo p).1.lo, (aBy false u.hi p).1.hi⟩ p, 0) else (aAp, 3) := rfl
 rw [hr]
 clear hr
 generalize aBy false u.lo p = A at *
 generalize aBy false u.hi p = Bb at *
 have v1 := aBe A.1
 have v2 := aBe Bb.1
 have g := aQ4 A.1.lo Bb.1.hi
 have ht := aDm ⟨A.1.lo, Bb.1.hi⟩ p (by omega)
 have hrt := aFy (aAD ⟨A.1.lo, Bb.1.hi⟩ p) (by omega)
 refine aAd Tryz.func53 rfl (by kernel_rfl) aAc Tryz.mixed rfl rfl (by kernel_rfl) ?_
 simp only [aAl, Tryz.ntmps53, dyV, ivV, fxV, aAj]
 repeat' first
  | refine aAa fun K g => ?_
  | refine goK (by assumption) ?_
  | ((first | refine aAk ?_ | refine aAe ?_) <;> try simp only [aAm, aAg, reduceIte, Nat.reduceEqDiff])
  | ((first
  | refine aAU rfl fun os => ?_
  | refine aB7 ?_
  | refine cxo (x1) ?_
  | refine cxo (x2) ?_
  | refine cxo (ht.1) ?_
  | refine cxo (hrt) ?_
  | simp only [endX, resX, resV, Tryz.results53]) <;> try (simp (disch := omega) only [xq, simprocAttr, dyV, ivV, fxV, aAj]))
  | (refine gx (fun c => ?_) (fun c => ?_) <;> first | exact absurd c (by decide) | ((try rw [c]); (try simp only [xn] at c); try (simp (disch := omega) only [xq, simprocAttr, dyV, ivV, fxV, aAj])))
  | (refine aAf (by first | rfl | assumption) (fun c => ?_) (fun c => ?_) <;> first | exact absurd c (by decide) | ((try rw [c]); try simp only [xn] at c))
  | (simp [*, aAp, aAY, ivV]
     done)
theorem aFf (u : Iv) (p : Nat) (hp : 8 <= p /\ p <= 4096) : AC Tryz.prog TabW 53 [ivV u, .lit (.int .i64 ((p : Nat) : Int)), .clo 52 []] (.tup [ivV (aDf true u p).1, .lit (.int .i64 (aDf true u p).2)]) := by
 have x1 := aMx u.lo p hp
 have x2 := aMx u.hi p hp
 have s1 := aIr (less := true) (t := u.lo) hp
 have s2 := aIr (less := true) (t := u.hi) hp
 have hr : aDf true u p = if (aBy true u.lo p).2 != 0 || (aBy true u.hi p).2 != 0 then (aAp, 3) else
   if aBb (aAD ⟨(aBy true u.lo p).1.lo, (aBy true u.hi p).1.hi⟩ p) then (aAD ⟨(aBy true u.lo p).1.lo, (aBy true u.hi p).1.hi⟩ p, 0) else (aAp, 3) := rfl
 rw [hr]
 clear hr
 generalize aBy true u.lo p = A at *
 generalize aBy true u.hi p = Bb at *
 have v1 := aBe A.1
 have v2 := aBe Bb.1
 have g := aQ4 A.1.lo Bb.1.hi
 have ht := aDm ⟨A.1.lo, Bb.1.hi⟩ p (by omega)
 have hrt := aFy (aAD ⟨A.1.lo, Bb.1.hi⟩ p) (by omega)
 refine aAd Tryz.func53 rfl (by kernel_rfl) aAc Tryz.mixed rfl rfl (by kernel_rfl) ?_
 simp only [aAl, Tryz.ntmps53, dyV, ivV, fxV, aAj]
 repeat' first
  | refine aAa fun K g => ?_
  | refine goK (by assumption) ?_
  | ((first | refine aAk ?_ | refine aAe ?_) <;> try simp only [aAm, aAg, reduceIte, Nat.reduceEqDiff])
  | ((first
  | refine aAU rfl fun os => ?_
  | refine aB7 ?_
  | refine cxo (x1) ?_
  | refine cxo (x2) ?_
  | refine cxo (ht.1) ?_
  | refine cxo (hrt) ?_
  | simp only [endX, resX, resV, Tryz.results53]) <;> try (simp (disch := omega) only [xq, simprocAttr, dyV, ivV, fxV, aAj]))
  | (refine gx (fun c => ?_) (fun c => ?_) <;> first | exact absurd c (by decide) | ((try rw [c]); (try simp only [xn] at c); try (simp (disch := omega) only [xq, simprocAttr, dyV, ivV, fxV, aAj])))
  | (refine aAf (by first | rfl | assumption) (fun c => ?_) (fun c => ?_) <;> first | exact absurd c (by decide) | ((try rw [c]); try simp only [xn] at c))
  | (simp [*, aAp, aAY, ivV]
     done)
end
section
set_option maxRecDepth 10000
set_option maxHeartbeats 4000000
open Go.RowKit
def aFJ : List Value := [.int .i64 0, .bool false, .int .i64 0, .bool false, .int .i64 2, .bool false, .int .i64 10, .bool false, .int .i64 0, .bool true, .int .i64 2, .bool true, .int .i64 10, .bool true]
def TabF (w : World) : Prop := TabW w /\ ∀ (j : Nat) (u : Value), aFJ[j]? = some u -> w.cell? ⟨0, j, none⟩ = some u
theorem aCo : aHK TabF := fun w w' h hb => ⟨aAc _ _ h.1 hb, fun j u hj => by
 have := h.2 j u hj
 exact (hb.cell (World.block_lt_of_cell? w _ this)).trans this⟩
theorem aHB {j : Nat} {n : Int} {l : Bool} (h1 : aFJ[j]? = some (.int .i64 n)) (h2 : aFJ[j + 1]? = some (.bool l)) : GL Tryz.prog TabF 66 ⟨0, j, none⟩ (.agg #[.int .i64 n, .bool l]) := fun w h => by
 refine run_loadAt_mid w _ _ _ [.int .i64 n, .bool l] _ (fun i u hi => ?_) Tryz.underlying66 (by kernel_rfl) (by kernel_rfl)
 match i, hi with
 | 0, hi => cases hi; exact h.2 j _ h1
 | 1, hi => cases hi; exact h.2 (j + 1) _ h2
theorem aE7 {S : Nat -> Prop} {β : List Nat} {w : World} {v : Value} {n : Int} (h : Rep S β w (.agg [.lit (.bool false), .arr 1 [.lit (.int .u64 1)], .lit (.int .i64 n)]) v) : Rep S β w (dyV ⟨false, 1, n⟩) v := by
 simp only [Rep, RepL, dyV] at h ⊢
 obtain ⟨vs, rfl, v1, r1, rfl, h1, v2, r2, rfl, h2, v3, r3, rfl, h3, rfl⟩ := h
 refine ⟨_, rfl, v1, _, rfl, h1, v2, _, rfl, ?_, v3, _, rfl, h3, rfl⟩
 have h2 := aOe (S := S) (β := β) (w := w) (v := v2) (m := 1) (by decide) (by simp only [Rep, RepL]; exact h2)
 have e : limbsOf 1 = [1] := by rw [limbsOf]; simp [limbsOf]
 rw [e]; exact h2
theorem aES (n : Int) : AC Tryz.prog TabW 48 [.lit (.int .i64 n)] (dyV ⟨false, 1, n⟩) := by
 refine AC.conv (r := .agg [.lit (.bool false), .arr 1 [.lit (.int .u64 1)], .lit (.int .i64 n)]) ?_ fun S β w v h => aE7 h
 refine aAd Tryz.func48 rfl (by kernel_rfl) aAc Tryz.mixed rfl rfl (by kernel_rfl) ?_
 simp only [aAl, Tryz.ntmps48, dyV, ivV, fxV]
 refine aAa fun K1 g1 => ?_
 refine aAb fun os => ?_
 try simp (disch := omega) only [xq, simprocAttr, dyV, ivV, fxV]
 refine g1 _ ?_
 refine aAa fun K2 g2 => ?_
 refine aAb fun os => ?_
 try simp (disch := omega) only [xq, simprocAttr, dyV, ivV, fxV]
 refine g2 _ ?_
 refine aAe ?_
 simp only [endX, resX, resV, Tryz.results48]
 try simp (disch := omega) only [xq, simprocAttr, dyV, ivV, fxV]
 first | done | rfl
theorem aDZ (f : Int) : AC Tryz.prog TabW 13 [.lit (.int .u8 f)] (.lit (.bool (decide (1 <= f) && decide (f <= 6)))) := by
 refine aAd Tryz.func13 rfl (by kernel_rfl) aAc Tryz.mixed rfl rfl (by kernel_rfl) ?_
 simp only [aAl, Tryz.ntmps13, dyV, ivV, fxV]
 refine aAa fun K1 g1 => ?_
 refine aAb fun os => ?_
 try simp (disch := omega) only [xq, simprocAttr, dyV, ivV, fxV]
 refine g1 _ ?_
 refine aAa fun K2 g2 => ?_
 refine aAx ?_
 try simp (disch := omega) only [xq, simprocAttr, dyV, ivV, fxV]
 refine gx (fun c1 => ?_) (fun c1 => ?_)
 ·rw [c1]
  try simp only [xn] at c1
  try simp (disch := omega) only [xq, simprocAttr, dyV, ivV, fxV]
  refine g2 _ ?_
  refine aAe ?_
  simp only [endX, resX, resV, Tryz.results13]
  try simp (disch := omega) only [xq, simprocAttr, dyV, ivV, fxV]
  simp [*]
 ·rw [c1]
  try simp only [xn] at c1
  try simp (disch := omega) only [xq, simprocAttr, dyV, ivV, fxV]
  refine g2 _ ?_
  refine aAe ?_
  simp only [endX, resX, resV, Tryz.results13]
  try simp (disch := omega) only [xq, simprocAttr, dyV, ivV, fxV]
  simp [*]
theorem aRz (t : D) (hf : aAT t = true) (p : Nat) (hp : 8 <= p /\ p <= 3968) : AC Tryz.prog TabW 16 [.lit (.int .i64 10), dyV t, .lit (.int .i64 ((p : Nat) : Int))] (.tup [ivV (powV 10 t p).1, .lit (.int .i64 (powV 10 t p).2)]) := by
 have h0 := aRS t
 rw [hf, if_pos rfl] at h0
 have hz := aCJ hf
 have hw : AC Tryz.prog TabW 45 [aAj 3 4800, dyV t] (.tup [.lit (.bool (inB 10 t)), .lit (.bool (aAR 10 t))]) := aDI 3 4800 t (by omega) (by omega)
 have k1 : decide (((p : Nat) : Int) < 8) = false := decide_eq_false (by omega)
 have k2 : decide ((3968 : Int) < ((p : Nat) : Int)) = false := decide_eq_false (by omega)
 have i0 := aBX 1 (by omega)
 have i1 := i0.1
 have i2 := (aBS (intD 1) (by have := i0.2; omega)).1
 have q0 := aCB t
 have o1 := aE8 t (by omega)
 have s1 := aEG (oneD t) (p + 64) (by omega) (by omega)
 have e1 := aEo (aAt 10 (oneD t) (p + 64)) (p + 24) (by omega)
 have kp64 : ((p : Nat) : Int) + 64 = ((p + 64 : Nat) : Int) := rfl
 have kp24 : ((p : Nat) : Int) + 24 = ((p + 24 : Nat) : Int) := rfl
 have hr : powV 10 t p = if !inB 10 t then (aAp, 3) else if t.m == 0 then (aAn (intD 1), 0) else aDf false (aAt 10 (oneD t) (p + 64)) (p + 24) := rfl
 rw [hr]
 clear hr
 generalize (t.m == 0) = zb at *
 generalize inB 10 t = ok at *
 generalize aAR 10 t = below at *
 generalize aDf false (aAt 10 (oneD t) (p + 64)) (p + 24) = E at *
 refine aAd Tryz.func16 rfl (by kernel_rfl) aAc Tryz.mixed rfl rfl (by kernel_rfl) ?_
 simp only [aAl, Tryz.ntmps16, dyV, ivV, fxV, aAj]
 repeat' first
  | refine aAa fun K g => ?_
  | refine goK (by assumption) ?_
  | ((first | refine aAk ?_ | refine aAe ?_) <;> try simp only [aAm, aAg, reduceIte, Nat.reduceEqDiff])
  | ((first
  | refine aAU rfl fun os => ?_
  | refine aB7 ?_
  | refine aCR rfl (by kernel_rfl) fun os => ?_
  | refine cxo (aGb) ?_
  | refine cxo (h0) ?_
  | refine cxo (hw) ?_
  | refine cxo (q0) ?_
  | refine cxo (i1) ?_
  | refine cxo (i2) ?_
  | refine cxd (o1.1) ?_
  | refine cxd (s1.1) ?_
  | refine cxd (e1) ?_
  | simp only [endX, resX, resV, Tryz.results16]) <;> try (simp (disch := omega) only [xq, simprocAttr, dyV, ivV, fxV, aAj, k1, k2, kp64, kp24]))
  | (refine gx (fun c => ?_) (fun c => ?_) <;> first | exact absurd c (by decide) | ((try rw [c]); (try simp only [xn] at c); try (simp (disch := omega) only [xq, simprocAttr, dyV, ivV, fxV, aAj, k1, k2, kp64, kp24])))
  | (refine aAf (by first | rfl | assumption) (fun c => ?_) (fun c => ?_) <;> first | exact absurd c (by decide) | ((try rw [c]); try simp only [xn] at c))
  | (simp only [*, Bool.not_true, Bool.not_false, Bool.false_eq_true, if_true, if_false, reduceIte, ivV, aAp, aAY] <;> rfl
     done)
end
section
set_option maxRecDepth 10000
set_option maxHeartbeats 4000000
open Go.RowKit
theorem aVV (f : Int) (x : Nat) (p : Int) (h : ¬ (1 <= f /\ f <= 6)) : AC Tryz.prog TabF 10 [.lit (.int .u8 f), .lit (.int .u64 ((x : Nat) : Int)), .lit (.int .i64 p)] (.tup [ivV aAp, .lit (.int .i64 2)]) := by
 have hi : AC Tryz.prog TabW 13 [.lit (.int .u8 f)] (.lit (.bool (decide (1 <= f /\ f <= 6)))) := by
   have := aDZ f
   rwa [<- Bool.decide_and] at this
 rw [decide_eq_false h] at hi
 refine aAd Tryz.func10 rfl (by kernel_rfl) aCo Tryz.mixed rfl rfl (by kernel_rfl) ?_
 simp only [aAl, Tryz.ntmps10, dyV, ivV, fxV, aAj]
 refine aAa fun K1 g1 => ?_
 refine aAb fun os => ?_
 try simp (disch := omega) only [xq, simprocAttr, dyV, ivV, fxV, aAj]
 refine g1 _ ?_
 refine aAa fun K2 g2 => ?_
 refine aAa fun K3 g3 => ?_
 refine aAx ?_
 try simp (disch := omega) only [xq, simprocAttr, dyV, ivV, fxV, aAj]
 refine cxo (AC.weak (hi) fun _ q => q.1) ?_
 try simp (disch := omega) only [xq, simprocAttr, dyV, ivV, fxV, aAj]
 refine g3 _ ?_
 refine aAf (by first | rfl | assumption) (fun c1 => ?_) (fun c1 => ?_)
 ·try simp only [xn] at c1
  refine aAa fun K4 g4 => ?_
  refine aAb fun os => ?_
  try simp (disch := omega) only [xq, simprocAttr, dyV, ivV, fxV, aAj]
  refine g4 _ ?_
  refine aAe ?_
  simp only [aAm, aAg, reduceIte, Nat.reduceEqDiff]
  simp only [endX, resX, resV, Tryz.results10]
  try simp (disch := omega) only [xq, simprocAttr, dyV, ivV, fxV, aAj]
  simp only [aAp, aAY, ivV] <;> rfl
 ·exact absurd c1 (by decide)
theorem aVU (f : Int) (x : Nat) (p : Int) (h : 1 <= f /\ f <= 6) (hp : p < 8) : AC Tryz.prog TabF 10 [.lit (.int .u8 f), .lit (.int .u64 ((x : Nat) : Int)), .lit (.int .i64 p)] (.tup [ivV aAp, .lit (.int .i64 2)]) := by
 have hi : AC Tryz.prog TabW 13 [.lit (.int .u8 f)] (.lit (.bool (decide (1 <= f /\ f <= 6)))) := by
   have := aDZ f
   rwa [<- Bool.decide_and] at this
 rw [decide_eq_true h] at hi
 have k1 : decide (p < 8) = true := decide_eq_true hp
 refine aAd Tryz.func10 rfl (by kernel_rfl) aCo Tryz.mixed rfl rfl (by kernel_rfl) ?_
 simp only [aAl, Tryz.ntmps10, dyV, ivV, fxV, aAj]
 refine aAa fun K1 g1 => ?_
 refine aAb fun os => ?_
 try simp (disch := omega) only [xq, simprocAttr, dyV, ivV, fxV, aAj, k1]
 refine g1 _ ?_
 refine aAa fun K2 g2 => ?_
 refine aAa fun K3 g3 => ?_
 refine aAx ?_
 try simp (disch := omega) only [xq, simprocAttr, dyV, ivV, fxV, aAj, k1]
 refine cxo (AC.weak (hi) fun _ q => q.1) ?_
 try simp (disch := omega) only [xq, simprocAttr, dyV, ivV, fxV, aAj, k1]
 refine g3 _ ?_
 refine aAf (by first | rfl | assumption) (fun c1 => ?_) (fun c1 => ?_)
 ·try simp only [xn] at c1
  refine aAa fun K4 g4 => ?_
  refine aAb fun os => ?_
  try simp (disch := omega) only [xq, simprocAttr, dyV, ivV, fxV, aAj, k1]
  refine g4 _ ?_
  refine aAe ?_
  simp only [aAm, aAg, reduceIte, Nat.reduceEqDiff]
  simp only [endX, resX, resV, Tryz.results10]
  try simp (disch := omega) only [xq, simprocAttr, dyV, ivV, fxV, aAj, k1]
  simp only [aAp, aAY, ivV] <;> rfl
 ·exact absurd c1 (by decide)
theorem aVT (f : Int) (x : Nat) (p : Int) (h : 1 <= f /\ f <= 6) (hp : 2048 < p) : AC Tryz.prog TabF 10 [.lit (.int .u8 f), .lit (.int .u64 ((x : Nat) : Int)), .lit (.int .i64 p)] (.tup [ivV aAp, .lit (.int .i64 2)]) := by
 have hi : AC Tryz.prog TabW 13 [.lit (.int .u8 f)] (.lit (.bool (decide (1 <= f /\ f <= 6)))) := by
   have := aDZ f
   rwa [<- Bool.decide_and] at this
 rw [decide_eq_true h] at hi
 have k1 : decide (p < 8) = false := decide_eq_false (by omega)
 have k2 : decide (2048 < p) = true := decide_eq_true hp
 refine aAd Tryz.func10 rfl (by kernel_rfl) aCo Tryz.mixed rfl rfl (by kernel_rfl) ?_
 simp only [aAl, Tryz.ntmps10, dyV, ivV, fxV, aAj]
 refine aAa fun K1 g1 => ?_
 refine aAb fun os => ?_
 try simp (disch := omega) only [xq, simprocAttr, dyV, ivV, fxV, aAj, k1, k2]
 refine g1 _ ?_
 refine aAa fun K2 g2 => ?_
 refine aAa fun K3 g3 => ?_
 refine aAx ?_
 try simp (disch := omega) only [xq, simprocAttr, dyV, ivV, fxV, aAj, k1, k2]
 refine cxo (AC.weak (hi) fun _ q => q.1) ?_
 try simp (disch := omega) only [xq, simprocAttr, dyV, ivV, fxV, aAj, k1, k2]
 refine g3 _ ?_
 refine aAf (by first | rfl | assumption) (fun c1 => ?_) (fun c1 => ?_)
 ·try simp only [xn] at c1
  refine aAa fun K4 g4 => ?_
  refine aAb fun os => ?_
  try simp (disch := omega) only [xq, simprocAttr, dyV, ivV, fxV, aAj, k1, k2]
  refine g4 _ ?_
  refine aAe ?_
  simp only [aAm, aAg, reduceIte, Nat.reduceEqDiff]
  simp only [endX, resX, resV, Tryz.results10]
  try simp (disch := omega) only [xq, simprocAttr, dyV, ivV, fxV, aAj, k1, k2]
  simp only [aAp, aAY, ivV] <;> rfl
 ·exact absurd c1 (by decide)
theorem aRC (f : Int) (x : Nat) (p : Int) (h : ¬ (1 <= f /\ f <= 6) \/ p < 8 \/ 2048 < p) : AC Tryz.prog TabF 10 [.lit (.int .u8 f), .lit (.int .u64 ((x : Nat) : Int)), .lit (.int .i64 p)] (.tup [ivV aAp, .lit (.int .i64 2)]) := by
 by_cases hi : 1 <= f /\ f <= 6
 · by_cases h8 : p < 8
   · exact aVU f x p hi h8
   · exact aVT f x p hi (by omega)
 · exact aVV f x p hi
theorem aNF (x : Nat) (hx : x < 18446744073709551616) (he : bitE x = 2047) (p : Nat) (hp : 8 <= p /\ p <= 2048) : AC Tryz.prog TabF 10 [.lit (.int .u8 1), .lit (.int .u64 ((x : Nat) : Int)), .lit (.int .i64 ((p : Nat) : Int))] (.tup [ivV aAp, .lit (.int .i64 5)]) := by
 have k1 : decide (((p : Nat) : Int) < 8) = false := decide_eq_false (by omega)
 have k2 : decide ((2048 : Int) < ((p : Nat) : Int)) = false := decide_eq_false (by omega)
 have h0 := aC2 x hx
 have hr : aBP x = if bitE x = 2047 then (aAY, 5) else (aBl x, 0) := rfl
 rw [if_pos he] at hr
 rw [hr] at h0
 refine aAd Tryz.func10 rfl (by kernel_rfl) aCo Tryz.mixed rfl rfl (by kernel_rfl) ?_
 simp only [aAl, Tryz.ntmps10, dyV, ivV, fxV, aAj]
 refine aAa fun K1 g1 => ?_
 refine aAb fun os => ?_
 try simp (disch := omega) only [xq, simprocAttr, dyV, ivV, fxV, aAj, k1, k2, Bool.and_self]
 refine g1 _ ?_
 refine aAa fun K2 g2 => ?_
 refine aAa fun K3 g3 => ?_
 refine aAx ?_
 try simp (disch := omega) only [xq, simprocAttr, dyV, ivV, fxV, aAj, k1, k2, Bool.and_self]
 refine cxo (AC.weak (aDZ _) fun _ q => q.1) ?_
 try simp (disch := omega) only [xq, simprocAttr, dyV, ivV, fxV, aAj, k1, k2, Bool.and_self]
 refine g3 _ ?_
 refine aAf (by first | rfl | assumption) (fun c1 => ?_) (fun c1 => ?_)
 ·exact absurd c1 (by decide)
 ·try simp only [xn] at c1
  refine aAk ?_
  simp only [aAm, aAg, reduceIte, Nat.reduceEqDiff]
  refine g2 _ ?_
  refine aAa fun K4 g4 => ?_
  refine aAb fun os => ?_
  try simp (disch := omega) only [xq, simprocAttr, dyV, ivV, fxV, aAj, k1, k2, Bool.and_self]
  refine cxo (AC.weak (h0) fun _ q => q.1) ?_
  try simp (disch := omega) only [xq, simprocAttr, dyV, ivV, fxV, aAj, k1, k2, Bool.and_self]
  refine g4 _ ?_
  refine aAa fun K5 g5 => ?_
  refine aAa fun K6 g6 => ?_
  refine aAb fun os => ?_
  try simp (disch := omega) only [xq, simprocAttr, dyV, ivV, fxV, aAj, k1, k2, Bool.and_self]
  refine g6 _ ?_
  refine aAf (by first | rfl | assumption) (fun c2 => ?_) (fun c2 => ?_)
  ·try simp only [xn] at c2
   refine aAa fun K7 g7 => ?_
   refine aAb fun os => ?_
   try simp (disch := omega) only [xq, simprocAttr, dyV, ivV, fxV, aAj, k1, k2, Bool.and_self]
   refine g7 _ ?_
   refine aAe ?_
   simp only [aAm, aAg, reduceIte, Nat.reduceEqDiff]
   simp only [endX, resX, resV, Tryz.results10]
   try simp (disch := omega) only [xq, simprocAttr, dyV, ivV, fxV, aAj, k1, k2, Bool.and_self]
   simp only [*, Bool.not_true, Bool.not_false, Bool.false_eq_true, if_true, if_false, reduceIte, ivV, aAp, aAY] <;> rfl
  ·exact absurd c2 (by decide)
theorem aTN (x : Nat) (hx : x < 18446744073709551616) (he : bitE x ≠ 2047) (p : Nat) (hp : 8 <= p /\ p <= 2048) : AC Tryz.prog TabF 10 [.lit (.int .u8 1), .lit (.int .u64 ((x : Nat) : Int)), .lit (.int .i64 ((p : Nat) : Int))] (.tup [ivV (aA1 0 false (aBl x) p).1, .lit (.int .i64 (aA1 0 false (aBl x) p).2)]) := by
 have k1 : decide (((p : Nat) : Int) < 8) = false := decide_eq_false (by omega)
 have k2 : decide ((2048 : Int) < ((p : Nat) : Int)) = false := decide_eq_false (by omega)
 have h0 := aC2 x hx
 have hr : aBP x = if bitE x = 2047 then (aAY, 5) else (aBl x, 0) := rfl
 rw [if_neg he] at hr
 rw [hr] at h0
 have hz := aCE x
 generalize aBl x = t at *
 have hw : AC Tryz.prog TabW 45 [aAj 0 11000, dyV t] (.tup [.lit (.bool (inB 0 t)), .lit (.bool (aAR 0 t))]) := aDI 0 11000 t (by omega) (by omega)
 have i0 := aBX 1 (by omega)
 have i1 := i0.1
 have i2 := (aBS (intD 1) (by have := i0.2; omega)).1
 have q0 := aCB t
 have s1 := aGH t (p + 64) (by omega) (by omega)
 have e1 := aEo (aAt 0 t (p + 64)) (p + 24) (by omega)
 have kp64 : ((p : Nat) : Int) + 64 = ((p + 64 : Nat) : Int) := rfl
 have kp24 : ((p : Nat) : Int) + 24 = ((p + 24 : Nat) : Int) := rfl
 have hr : aA1 0 false t p = if aAR 0 t && false then (⟨intD (-1), addD (intD (-1)) ⟨false, 1, -(p : Int) - 4⟩⟩, 0) else if !inB 0 t then (aAp, 3) else if t.m == 0 && false then (aAp, 0) else if t.m == 0 then (aAn (intD 1), 0) else aDf false (aAt 0 t (p + 64)) (p + 24) := rfl
 have m1 := (aBX (-1) (by omega)).1
 have m2 := aES (-(p : Int) - 4)
 have m3 := (aHp (intD (-1)) ⟨false, 1, -(p : Int) - 4⟩ (by
   have a1 := aAW (-1)
   have a2 : bl (-1 : Int).natAbs = 1 := by decide
   have a3 : bl 1 = 1 := by decide
   have a4 : ae ⟨false, 1, -(p : Int) - 4⟩ <= 3000 := by unfold ae; show (-(p : Int) - 4).natAbs <= _; omega
   show 2 * bl (intD (-1)).m + 2 * bl 1 + ae (intD (-1)) + ae ⟨false, 1, -(p : Int) - 4⟩ <= _
   omega)).1
 rw [hr]
 clear hr
 generalize (t.m == 0) = zb at *
 generalize inB 0 t = ok at *
 generalize aAR 0 t = below at *
 generalize aDf false (aAt 0 t (p + 64)) (p + 24) = E at *
 refine aAd Tryz.func10 rfl (by kernel_rfl) aCo Tryz.mixed rfl rfl (by kernel_rfl) ?_
 simp only [aAl, Tryz.ntmps10, dyV, ivV, fxV, aAj]
 repeat' first
  | refine aAa fun K g => ?_
  | refine goK (by assumption) ?_
  | refine aAv ?_
  | ((first | refine aAk ?_ | refine aAe ?_) <;> try simp only [aAm, aAg, reduceIte, Nat.reduceEqDiff])
  | ((first
  | refine aAU rfl fun os => ?_
  | refine aB7 ?_
  | refine aCR rfl (by kernel_rfl) fun os => ?_
  | refine cxo (AC.weak (aDZ _) fun _ q => q.1) ?_
  | refine cxo (AC.weak (h0) fun _ q => q.1) ?_
  | refine ⟨_, aHB (j := 2) (n := 0) (l := false) rfl rfl, ?_⟩
  | refine cxo (AC.weak (aJd) fun _ q => q.1) ?_
  | refine cxo (AC.weak (hw) fun _ q => q.1) ?_
  | refine cxo (AC.weak (m1) fun _ q => q.1) ?_
  | refine cxo (AC.weak (m2) fun _ q => q.1) ?_
  | refine cxo (AC.weak (m3) fun _ q => q.1) ?_
  | refine cxd (AC.weak (m1) fun _ q => q.1) ?_
  | refine cxo (AC.weak (q0) fun _ q => q.1) ?_
  | refine cxo (AC.weak (i1) fun _ q => q.1) ?_
  | refine cxo (AC.weak (i2) fun _ q => q.1) ?_
  | refine cxo (AC.weak (s1.1) fun _ q => q.1) ?_
  | refine cxo (AC.weak (e1) fun _ q => q.1) ?_
  | simp only [endX, resX, resV, Tryz.results10]) <;> try (simp (disch := omega) only [xq, simprocAttr, dyV, ivV, fxV, aAj, k1, k2, kp64, kp24, Bool.and_self, Int.zero_sub]))
  | (refine gx (fun c => ?_) (fun c => ?_) <;> first | exact absurd c (by decide) | ((try rw [c]); (try simp only [xn] at c); try (simp (disch := omega) only [xq, simprocAttr, dyV, ivV, fxV, aAj, k1, k2, kp64, kp24, Bool.and_self, Int.zero_sub])))
  | (refine aAf (by first | rfl | assumption) (fun c => ?_) (fun c => ?_) <;> first | exact absurd c (by decide) | ((try rw [c]); try simp only [xn] at c))
  | (first | (simp only [*, Bool.not_true, Bool.not_false, Bool.false_eq_true, Bool.and_true, Bool.and_false, Bool.true_and, Bool.false_and, if_true, if_false, reduceIte, ivV, aAp, aAY] <;> rfl) | (exfalso; clear kp64 kp24; simp_all)
     done)
theorem aNE (x : Nat) (hx : x < 18446744073709551616) (he : bitE x = 2047) (p : Nat) (hp : 8 <= p /\ p <= 2048) : AC Tryz.prog TabF 10 [.lit (.int .u8 2), .lit (.int .u64 ((x : Nat) : Int)), .lit (.int .i64 ((p : Nat) : Int))] (.tup [ivV aAp, .lit (.int .i64 5)]) := by
 have k1 : decide (((p : Nat) : Int) < 8) = false := decide_eq_false (by omega)
 have k2 : decide ((2048 : Int) < ((p : Nat) : Int)) = false := decide_eq_false (by omega)
 have h0 := aC2 x hx
 have hr : aBP x = if bitE x = 2047 then (aAY, 5) else (aBl x, 0) := rfl
 rw [if_pos he] at hr
 rw [hr] at h0
 refine aAd Tryz.func10 rfl (by kernel_rfl) aCo Tryz.mixed rfl rfl (by kernel_rfl) ?_
 simp only [aAl, Tryz.ntmps10, dyV, ivV, fxV, aAj]
 refine aAa fun K1 g1 => ?_
 refine aAb fun os => ?_
 try simp (disch := omega) only [xq, simprocAttr, dyV, ivV, fxV, aAj, k1, k2, Bool.and_self]
 refine g1 _ ?_
 refine aAa fun K2 g2 => ?_
 refine aAa fun K3 g3 => ?_
 refine aAx ?_
 try simp (disch := omega) only [xq, simprocAttr, dyV, ivV, fxV, aAj, k1, k2, Bool.and_self]
 refine cxo (AC.weak (aDZ _) fun _ q => q.1) ?_
 try simp (disch := omega) only [xq, simprocAttr, dyV, ivV, fxV, aAj, k1, k2, Bool.and_self]
 refine g3 _ ?_
 refine aAf (by first | rfl | assumption) (fun c1 => ?_) (fun c1 => ?_)
 ·exact absurd c1 (by decide)
 ·try simp only [xn] at c1
  refine aAk ?_
  simp only [aAm, aAg, reduceIte, Nat.reduceEqDiff]
  refine g2 _ ?_
  refine aAa fun K4 g4 => ?_
  refine aAb fun os => ?_
  try simp (disch := omega) only [xq, simprocAttr, dyV, ivV, fxV, aAj, k1, k2, Bool.and_self]
  refine cxo (AC.weak (h0) fun _ q => q.1) ?_
  try simp (disch := omega) only [xq, simprocAttr, dyV, ivV, fxV, aAj, k1, k2, Bool.and_self]
  refine g4 _ ?_
  refine aAa fun K5 g5 => ?_
  refine aAa fun K6 g6 => ?_
  refine aAb fun os => ?_
  try simp (disch := omega) only [xq, simprocAttr, dyV, ivV, fxV, aAj, k1, k2, Bool.and_self]
  refine g6 _ ?_
  refine aAf (by first | rfl | assumption) (fun c2 => ?_) (fun c2 => ?_)
  ·try simp only [xn] at c2
   refine aAa fun K7 g7 => ?_
   refine aAb fun os => ?_
   try simp (disch := omega) only [xq, simprocAttr, dyV, ivV, fxV, aAj, k1, k2, Bool.and_self]
   refine g7 _ ?_
   refine aAe ?_
   simp only [aAm, aAg, reduceIte, Nat.reduceEqDiff]
   simp only [endX, resX, resV, Tryz.results10]
   try simp (disch := omega) only [xq, simprocAttr, dyV, ivV, fxV, aAj, k1, k2, Bool.and_self]
   simp only [*, Bool.not_true, Bool.not_false, Bool.false_eq_true, if_true, if_false, reduceIte, ivV, aAp, aAY] <;> rfl
  ·exact absurd c2 (by decide)
theorem aTM (x : Nat) (hx : x < 18446744073709551616) (he : bitE x ≠ 2047) (p : Nat) (hp : 8 <= p /\ p <= 2048) : AC Tryz.prog TabF 10 [.lit (.int .u8 2), .lit (.int .u64 ((x : Nat) : Int)), .lit (.int .i64 ((p : Nat) : Int))] (.tup [ivV (aA1 2 false (aBl x) p).1, .lit (.int .i64 (aA1 2 false (aBl x) p).2)]) := by
 have k1 : decide (((p : Nat) : Int) < 8) = false := decide_eq_false (by omega)
 have k2 : decide ((2048 : Int) < ((p : Nat) : Int)) = false := decide_eq_false (by omega)
 have h0 := aC2 x hx
 have hr : aBP x = if bitE x = 2047 then (aAY, 5) else (aBl x, 0) := rfl
 rw [if_neg he] at hr
 rw [hr] at h0
 have hz := aCE x
 generalize aBl x = t at *
 have hw : AC Tryz.prog TabW 45 [aAj 2 16000, dyV t] (.tup [.lit (.bool (inB 2 t)), .lit (.bool (aAR 2 t))]) := aDI 2 16000 t (by omega) (by omega)
 have i0 := aBX 1 (by omega)
 have i1 := i0.1
 have i2 := (aBS (intD 1) (by have := i0.2; omega)).1
 have q0 := aCB t
 have s1 := aGG t (p + 64) (by omega) (by omega)
 have e1 := aEo (aAt 2 t (p + 64)) (p + 24) (by omega)
 have kp64 : ((p : Nat) : Int) + 64 = ((p + 64 : Nat) : Int) := rfl
 have kp24 : ((p : Nat) : Int) + 24 = ((p + 24 : Nat) : Int) := rfl
 have hr : aA1 2 false t p = if aAR 2 t && false then (⟨intD (-1), addD (intD (-1)) ⟨false, 1, -(p : Int) - 4⟩⟩, 0) else if !inB 2 t then (aAp, 3) else if t.m == 0 && false then (aAp, 0) else if t.m == 0 then (aAn (intD 1), 0) else aDf false (aAt 2 t (p + 64)) (p + 24) := rfl
 have m1 := (aBX (-1) (by omega)).1
 have m2 := aES (-(p : Int) - 4)
 have m3 := (aHp (intD (-1)) ⟨false, 1, -(p : Int) - 4⟩ (by
   have a1 := aAW (-1)
   have a2 : bl (-1 : Int).natAbs = 1 := by decide
   have a3 : bl 1 = 1 := by decide
   have a4 : ae ⟨false, 1, -(p : Int) - 4⟩ <= 3000 := by unfold ae; show (-(p : Int) - 4).natAbs <= _; omega
   show 2 * bl (intD (-1)).m + 2 * bl 1 + ae (intD (-1)) + ae ⟨false, 1, -(p : Int) - 4⟩ <= _
   omega)).1
 rw [hr]
 clear hr
 generalize (t.m == 0) = zb at *
 generalize inB 2 t = ok at *
 generalize aAR 2 t = below at *
 generalize aDf false (aAt 2 t (p + 64)) (p + 24) = E at *
 refine aAd Tryz.func10 rfl (by kernel_rfl) aCo Tryz.mixed rfl rfl (by kernel_rfl) ?_
 simp only [aAl, Tryz.ntmps10, dyV, ivV, fxV, aAj]
 repeat' first
  | refine aAa fun K g => ?_
  | refine goK (by assumption) ?_
  | refine aAv ?_
  | ((first | refine aAk ?_ | refine aAe ?_) <;> try simp only [aAm, aAg, reduceIte, Nat.reduceEqDiff])
  | ((first
  | refine aAU rfl fun os => ?_
  | refine aB7 ?_
  | refine aCR rfl (by kernel_rfl) fun os => ?_
  | refine cxo (AC.weak (aDZ _) fun _ q => q.1) ?_
  | refine cxo (AC.weak (h0) fun _ q => q.1) ?_
  | refine ⟨_, aHB (j := 4) (n := 2) (l := false) rfl rfl, ?_⟩
  | refine cxo (AC.weak (aJc) fun _ q => q.1) ?_
  | refine cxo (AC.weak (hw) fun _ q => q.1) ?_
  | refine cxo (AC.weak (m1) fun _ q => q.1) ?_
  | refine cxo (AC.weak (m2) fun _ q => q.1) ?_
  | refine cxo (AC.weak (m3) fun _ q => q.1) ?_
  | refine cxd (AC.weak (m1) fun _ q => q.1) ?_
  | refine cxo (AC.weak (q0) fun _ q => q.1) ?_
  | refine cxo (AC.weak (i1) fun _ q => q.1) ?_
  | refine cxo (AC.weak (i2) fun _ q => q.1) ?_
  | refine cxo (AC.weak (s1.1) fun _ q => q.1) ?_
  | refine cxo (AC.weak (e1) fun _ q => q.1) ?_
  | simp only [endX, resX, resV, Tryz.results10]) <;> try (simp (disch := omega) only [xq, simprocAttr, dyV, ivV, fxV, aAj, k1, k2, kp64, kp24, Bool.and_self, Int.zero_sub]))
  | (refine gx (fun c => ?_) (fun c => ?_) <;> first | exact absurd c (by decide) | ((try rw [c]); (try simp only [xn] at c); try (simp (disch := omega) only [xq, simprocAttr, dyV, ivV, fxV, aAj, k1, k2, kp64, kp24, Bool.and_self, Int.zero_sub])))
  | (refine aAf (by first | rfl | assumption) (fun c => ?_) (fun c => ?_) <;> first | exact absurd c (by decide) | ((try rw [c]); try simp only [xn] at c))
  | (first | (simp only [*, Bool.not_true, Bool.not_false, Bool.false_eq_true, Bool.and_true, Bool.and_false, Bool.true_and, Bool.false_and, if_true, if_false, reduceIte, ivV, aAp, aAY] <;> rfl) | (exfalso; clear kp64 kp24; simp_all)
     done)
end
section
set_option maxRecDepth 10000
set_option maxHeartbeats 4000000
open Go.RowKit
theorem aND (x : Nat) (hx : x < 18446744073709551616) (he : bitE x = 2047) (p : Nat) (hp : 8 <= p /\ p <= 2048) : AC Tryz.prog TabF 10 [.lit (.int .u8 3), .lit (.int .u64 ((x : Nat) : Int)), .lit (.int .i64 ((p : Nat) : Int))] (.tup [ivV aAp, .lit (.int .i64 5)]) := by
 have k1 : decide (((p : Nat) : Int) < 8) = false := decide_eq_false (by omega)
 have k2 : decide ((2048 : Int) < ((p : Nat) : Int)) = false := decide_eq_false (by omega)
 have h0 := aC2 x hx
 have hr : aBP x = if bitE x = 2047 then (aAY, 5) else (aBl x, 0) := rfl
 rw [if_pos he] at hr
 rw [hr] at h0
 refine aAd Tryz.func10 rfl (by kernel_rfl) aCo Tryz.mixed rfl rfl (by kernel_rfl) ?_
 simp only [aAl, Tryz.ntmps10, dyV, ivV, fxV, aAj]
 refine aAa fun K1 g1 => ?_
 refine aAb fun os => ?_
 try simp (disch := omega) only [xq, simprocAttr, dyV, ivV, fxV, aAj, k1, k2, Bool.and_self]
 refine g1 _ ?_
 refine aAa fun K2 g2 => ?_
 refine aAa fun K3 g3 => ?_
 refine aAx ?_
 try simp (disch := omega) only [xq, simprocAttr, dyV, ivV, fxV, aAj, k1, k2, Bool.and_self]
 refine cxo (AC.weak (aDZ _) fun _ q => q.1) ?_
 try simp (disch := omega) only [xq, simprocAttr, dyV, ivV, fxV, aAj, k1, k2, Bool.and_self]
 refine g3 _ ?_
 refine aAf (by first | rfl | assumption) (fun c1 => ?_) (fun c1 => ?_)
 ·exact absurd c1 (by decide)
 ·try simp only [xn] at c1
  refine aAk ?_
  simp only [aAm, aAg, reduceIte, Nat.reduceEqDiff]
  refine g2 _ ?_
  refine aAa fun K4 g4 => ?_
  refine aAb fun os => ?_
  try simp (disch := omega) only [xq, simprocAttr, dyV, ivV, fxV, aAj, k1, k2, Bool.and_self]
  refine cxo (AC.weak (h0) fun _ q => q.1) ?_
  try simp (disch := omega) only [xq, simprocAttr, dyV, ivV, fxV, aAj, k1, k2, Bool.and_self]
  refine g4 _ ?_
  refine aAa fun K5 g5 => ?_
  refine aAa fun K6 g6 => ?_
  refine aAb fun os => ?_
  try simp (disch := omega) only [xq, simprocAttr, dyV, ivV, fxV, aAj, k1, k2, Bool.and_self]
  refine g6 _ ?_
  refine aAf (by first | rfl | assumption) (fun c2 => ?_) (fun c2 => ?_)
  ·try simp only [xn] at c2
   refine aAa fun K7 g7 => ?_
   refine aAb fun os => ?_
   try simp (disch := omega) only [xq, simprocAttr, dyV, ivV, fxV, aAj, k1, k2, Bool.and_self]
   refine g7 _ ?_
   refine aAe ?_
   simp only [aAm, aAg, reduceIte, Nat.reduceEqDiff]
   simp only [endX, resX, resV, Tryz.results10]
   try simp (disch := omega) only [xq, simprocAttr, dyV, ivV, fxV, aAj, k1, k2, Bool.and_self]
   simp only [*, Bool.not_true, Bool.not_false, Bool.false_eq_true, if_true, if_false, reduceIte, ivV, aAp, aAY] <;> rfl
  ·exact absurd c2 (by decide)
theorem aTL (x : Nat) (hx : x < 18446744073709551616) (he : bitE x ≠ 2047) (p : Nat) (hp : 8 <= p /\ p <= 2048) : AC Tryz.prog TabF 10 [.lit (.int .u8 3), .lit (.int .u64 ((x : Nat) : Int)), .lit (.int .i64 ((p : Nat) : Int))] (.tup [ivV (aA1 10 false (aBl x) p).1, .lit (.int .i64 (aA1 10 false (aBl x) p).2)]) := by
 have k1 : decide (((p : Nat) : Int) < 8) = false := decide_eq_false (by omega)
 have k2 : decide ((2048 : Int) < ((p : Nat) : Int)) = false := decide_eq_false (by omega)
 have h0 := aC2 x hx
 have hr : aBP x = if bitE x = 2047 then (aAY, 5) else (aBl x, 0) := rfl
 rw [if_neg he] at hr
 rw [hr] at h0
 have hz := aCE x
 generalize aBl x = t at *
 have hw : AC Tryz.prog TabW 45 [aAj 3 4800, dyV t] (.tup [.lit (.bool (inB 10 t)), .lit (.bool (aAR 10 t))]) := aDI 3 4800 t (by omega) (by omega)
 have i0 := aBX 1 (by omega)
 have i1 := i0.1
 have i2 := (aBS (intD 1) (by have := i0.2; omega)).1
 have q0 := aCB t
 have s1 := aEG t (p + 64) (by omega) (by omega)
 have e1 := aEo (aAt 10 t (p + 64)) (p + 24) (by omega)
 have kp64 : ((p : Nat) : Int) + 64 = ((p + 64 : Nat) : Int) := rfl
 have kp24 : ((p : Nat) : Int) + 24 = ((p + 24 : Nat) : Int) := rfl
 have hr : aA1 10 false t p = if aAR 10 t && false then (⟨intD (-1), addD (intD (-1)) ⟨false, 1, -(p : Int) - 4⟩⟩, 0) else if !inB 10 t then (aAp, 3) else if t.m == 0 && false then (aAp, 0) else if t.m == 0 then (aAn (intD 1), 0) else aDf false (aAt 10 t (p + 64)) (p + 24) := rfl
 have m1 := (aBX (-1) (by omega)).1
 have m2 := aES (-(p : Int) - 4)
 have m3 := (aHp (intD (-1)) ⟨false, 1, -(p : Int) - 4⟩ (by
   have a1 := aAW (-1)
   have a2 : bl (-1 : Int).natAbs = 1 := by decide
   have a3 : bl 1 = 1 := by decide
   have a4 : ae ⟨false, 1, -(p : Int) - 4⟩ <= 3000 := by unfold ae; show (-(p : Int) - 4).natAbs <= _; omega
   show 2 * bl (intD (-1)).m + 2 * bl 1 + ae (intD (-1)) + ae ⟨false, 1, -(p : Int) - 4⟩ <= _
   omega)).1
 rw [hr]
 clear hr
 generalize (t.m == 0) = zb at *
 generalize inB 10 t = ok at *
 generalize aAR 10 t = below at *
 generalize aDf false (aAt 10 t (p + 64)) (p + 24) = E at *
 refine aAd Tryz.func10 rfl (by kernel_rfl) aCo Tryz.mixed rfl rfl (by kernel_rfl) ?_
 simp only [aAl, Tryz.ntmps10, dyV, ivV, fxV, aAj]
 repeat' first
  | refine aAa fun K g => ?_
  | refine goK (by assumption) ?_
  | refine aAv ?_
  | ((first | refine aAk ?_ | refine aAe ?_) <;> try simp only [aAm, aAg, reduceIte, Nat.reduceEqDiff])
  | ((first
  | refine aAU rfl fun os => ?_
  | refine aB7 ?_
  | refine aCR rfl (by kernel_rfl) fun os => ?_
  | refine cxo (AC.weak (aDZ _) fun _ q => q.1) ?_
  | refine cxo (AC.weak (h0) fun _ q => q.1) ?_
  | refine ⟨_, aHB (j := 6) (n := 10) (l := false) rfl rfl, ?_⟩
  | refine cxo (AC.weak (aGb) fun _ q => q.1) ?_
  | refine cxo (AC.weak (hw) fun _ q => q.1) ?_
  | refine cxo (AC.weak (m1) fun _ q => q.1) ?_
  | refine cxo (AC.weak (m2) fun _ q => q.1) ?_
  | refine cxo (AC.weak (m3) fun _ q => q.1) ?_
  | refine cxd (AC.weak (m1) fun _ q => q.1) ?_
  | refine cxo (AC.weak (q0) fun _ q => q.1) ?_
  | refine cxo (AC.weak (i1) fun _ q => q.1) ?_
  | refine cxo (AC.weak (i2) fun _ q => q.1) ?_
  | refine cxo (AC.weak (s1.1) fun _ q => q.1) ?_
  | refine cxo (AC.weak (e1) fun _ q => q.1) ?_
  | simp only [endX, resX, resV, Tryz.results10]) <;> try (simp (disch := omega) only [xq, simprocAttr, dyV, ivV, fxV, aAj, k1, k2, kp64, kp24, Bool.and_self, Int.zero_sub]))
  | (refine gx (fun c => ?_) (fun c => ?_) <;> first | exact absurd c (by decide) | ((try rw [c]); (try simp only [xn] at c); try (simp (disch := omega) only [xq, simprocAttr, dyV, ivV, fxV, aAj, k1, k2, kp64, kp24, Bool.and_self, Int.zero_sub])))
  | (refine aAf (by first | rfl | assumption) (fun c => ?_) (fun c => ?_) <;> first | exact absurd c (by decide) | ((try rw [c]); try simp only [xn] at c))
  | (first | (simp only [*, Bool.not_true, Bool.not_false, Bool.false_eq_true, Bool.and_true, Bool.and_false, Bool.true_and, Bool.false_and, if_true, if_false, reduceIte, ivV, aAp, aAY] <;> rfl) | (exfalso; clear kp64 kp24; simp_all)
     done)
theorem aNC (x : Nat) (hx : x < 18446744073709551616) (he : bitE x = 2047) (p : Nat) (hp : 8 <= p /\ p <= 2048) : AC Tryz.prog TabF 10 [.lit (.int .u8 4), .lit (.int .u64 ((x : Nat) : Int)), .lit (.int .i64 ((p : Nat) : Int))] (.tup [ivV aAp, .lit (.int .i64 5)]) := by
 have k1 : decide (((p : Nat) : Int) < 8) = false := decide_eq_false (by omega)
 have k2 : decide ((2048 : Int) < ((p : Nat) : Int)) = false := decide_eq_false (by omega)
 have h0 := aC2 x hx
 have hr : aBP x = if bitE x = 2047 then (aAY, 5) else (aBl x, 0) := rfl
 rw [if_pos he] at hr
 rw [hr] at h0
 refine aAd Tryz.func10 rfl (by kernel_rfl) aCo Tryz.mixed rfl rfl (by kernel_rfl) ?_
 simp only [aAl, Tryz.ntmps10, dyV, ivV, fxV, aAj]
 refine aAa fun K1 g1 => ?_
 refine aAb fun os => ?_
 try simp (disch := omega) only [xq, simprocAttr, dyV, ivV, fxV, aAj, k1, k2, Bool.and_self]
 refine g1 _ ?_
 refine aAa fun K2 g2 => ?_
 refine aAa fun K3 g3 => ?_
 refine aAx ?_
 try simp (disch := omega) only [xq, simprocAttr, dyV, ivV, fxV, aAj, k1, k2, Bool.and_self]
 refine cxo (AC.weak (aDZ _) fun _ q => q.1) ?_
 try simp (disch := omega) only [xq, simprocAttr, dyV, ivV, fxV, aAj, k1, k2, Bool.and_self]
 refine g3 _ ?_
 refine aAf (by first | rfl | assumption) (fun c1 => ?_) (fun c1 => ?_)
 ·exact absurd c1 (by decide)
 ·try simp only [xn] at c1
  refine aAk ?_
  simp only [aAm, aAg, reduceIte, Nat.reduceEqDiff]
  refine g2 _ ?_
  refine aAa fun K4 g4 => ?_
  refine aAb fun os => ?_
  try simp (disch := omega) only [xq, simprocAttr, dyV, ivV, fxV, aAj, k1, k2, Bool.and_self]
  refine cxo (AC.weak (h0) fun _ q => q.1) ?_
  try simp (disch := omega) only [xq, simprocAttr, dyV, ivV, fxV, aAj, k1, k2, Bool.and_self]
  refine g4 _ ?_
  refine aAa fun K5 g5 => ?_
  refine aAa fun K6 g6 => ?_
  refine aAb fun os => ?_
  try simp (disch := omega) only [xq, simprocAttr, dyV, ivV, fxV, aAj, k1, k2, Bool.and_self]
  refine g6 _ ?_
  refine aAf (by first | rfl | assumption) (fun c2 => ?_) (fun c2 => ?_)
  ·try simp only [xn] at c2
   refine aAa fun K7 g7 => ?_
   refine aAb fun os => ?_
   try simp (disch := omega) only [xq, simprocAttr, dyV, ivV, fxV, aAj, k1, k2, Bool.and_self]
   refine g7 _ ?_
   refine aAe ?_
   simp only [aAm, aAg, reduceIte, Nat.reduceEqDiff]
   simp only [endX, resX, resV, Tryz.results10]
   try simp (disch := omega) only [xq, simprocAttr, dyV, ivV, fxV, aAj, k1, k2, Bool.and_self]
   simp only [*, Bool.not_true, Bool.not_false, Bool.false_eq_true, if_true, if_false, reduceIte, ivV, aAp, aAY] <;> rfl
  ·exact absurd c2 (by decide)
theorem aTK (x : Nat) (hx : x < 18446744073709551616) (he : bitE x ≠ 2047) (p : Nat) (hp : 8 <= p /\ p <= 2048) : AC Tryz.prog TabF 10 [.lit (.int .u8 4), .lit (.int .u64 ((x : Nat) : Int)), .lit (.int .i64 ((p : Nat) : Int))] (.tup [ivV (aA1 0 true (aBl x) p).1, .lit (.int .i64 (aA1 0 true (aBl x) p).2)]) := by
 have k1 : decide (((p : Nat) : Int) < 8) = false := decide_eq_false (by omega)
 have k2 : decide ((2048 : Int) < ((p : Nat) : Int)) = false := decide_eq_false (by omega)
 have h0 := aC2 x hx
 have hr : aBP x = if bitE x = 2047 then (aAY, 5) else (aBl x, 0) := rfl
 rw [if_neg he] at hr
 rw [hr] at h0
 have hz := aCE x
 generalize aBl x = t at *
 have hw : AC Tryz.prog TabW 45 [aAj 0 11000, dyV t] (.tup [.lit (.bool (inB 0 t)), .lit (.bool (aAR 0 t))]) := aDI 0 11000 t (by omega) (by omega)
 have i0 := aBX 1 (by omega)
 have i1 := i0.1
 have i2 := (aBS (intD 1) (by have := i0.2; omega)).1
 have q0 := aCB t
 have s1 := aGH t (p + 64) (by omega) (by omega)
 have e1 := aFf (aAt 0 t (p + 64)) (p + 24) (by omega)
 have kp64 : ((p : Nat) : Int) + 64 = ((p + 64 : Nat) : Int) := rfl
 have kp24 : ((p : Nat) : Int) + 24 = ((p + 24 : Nat) : Int) := rfl
 have hr : aA1 0 true t p = if aAR 0 t && true then (⟨intD (-1), addD (intD (-1)) ⟨false, 1, -(p : Int) - 4⟩⟩, 0) else if !inB 0 t then (aAp, 3) else if t.m == 0 && true then (aAp, 0) else if t.m == 0 then (aAn (intD 1), 0) else aDf true (aAt 0 t (p + 64)) (p + 24) := rfl
 have m1 := (aBX (-1) (by omega)).1
 have m2 := aES (-(p : Int) - 4)
 have m3 := (aHp (intD (-1)) ⟨false, 1, -(p : Int) - 4⟩ (by
   have a1 := aAW (-1)
   have a2 : bl (-1 : Int).natAbs = 1 := by decide
   have a3 : bl 1 = 1 := by decide
   have a4 : ae ⟨false, 1, -(p : Int) - 4⟩ <= 3000 := by unfold ae; show (-(p : Int) - 4).natAbs <= _; omega
   show 2 * bl (intD (-1)).m + 2 * bl 1 + ae (intD (-1)) + ae ⟨false, 1, -(p : Int) - 4⟩ <= _
   omega)).1
 rw [hr]
 clear hr
 generalize (t.m == 0) = zb at *
 generalize inB 0 t = ok at *
 generalize aAR 0 t = below at *
 generalize aDf true (aAt 0 t (p + 64)) (p + 24) = E at *
 refine aAd Tryz.func10 rfl (by kernel_rfl) aCo Tryz.mixed rfl rfl (by kernel_rfl) ?_
 simp only [aAl, Tryz.ntmps10, dyV, ivV, fxV, aAj]
 repeat' first
  | refine aAa fun K g => ?_
  | refine goK (by assumption) ?_
  | refine aAv ?_
  | ((first | refine aAk ?_ | refine aAe ?_) <;> try simp only [aAm, aAg, reduceIte, Nat.reduceEqDiff])
  | ((first
  | refine aAU rfl fun os => ?_
  | refine aB7 ?_
  | refine aCR rfl (by kernel_rfl) fun os => ?_
  | refine cxo (AC.weak (aDZ _) fun _ q => q.1) ?_
  | refine cxo (AC.weak (h0) fun _ q => q.1) ?_
  | refine ⟨_, aHB (j := 8) (n := 0) (l := true) rfl rfl, ?_⟩
  | refine cxo (AC.weak (aJd) fun _ q => q.1) ?_
  | refine cxo (AC.weak (hw) fun _ q => q.1) ?_
  | refine cxo (AC.weak (m1) fun _ q => q.1) ?_
  | refine cxo (AC.weak (m2) fun _ q => q.1) ?_
  | refine cxo (AC.weak (m3) fun _ q => q.1) ?_
  | refine cxd (AC.weak (m1) fun _ q => q.1) ?_
  | refine cxo (AC.weak (q0) fun _ q => q.1) ?_
  | refine cxo (AC.weak (i1) fun _ q => q.1) ?_
  | refine cxo (AC.weak (i2) fun _ q => q.1) ?_
  | refine cxo (AC.weak (s1.1) fun _ q => q.1) ?_
  | refine cxo (AC.weak (e1) fun _ q => q.1) ?_
  | simp only [endX, resX, resV, Tryz.results10]) <;> try (simp (disch := omega) only [xq, simprocAttr, dyV, ivV, fxV, aAj, k1, k2, kp64, kp24, Bool.and_self, Int.zero_sub]))
  | (refine gx (fun c => ?_) (fun c => ?_) <;> first | exact absurd c (by decide) | ((try rw [c]); (try simp only [xn] at c); try (simp (disch := omega) only [xq, simprocAttr, dyV, ivV, fxV, aAj, k1, k2, kp64, kp24, Bool.and_self, Int.zero_sub])))
  | (refine aAf (by first | rfl | assumption) (fun c => ?_) (fun c => ?_) <;> first | exact absurd c (by decide) | ((try rw [c]); try simp only [xn] at c))
  | (first | (simp only [*, Bool.not_true, Bool.not_false, Bool.false_eq_true, Bool.and_true, Bool.and_false, Bool.true_and, Bool.false_and, if_true, if_false, reduceIte, ivV, aAp, aAY] <;> rfl) | (exfalso; clear kp64 kp24; simp_all)
     done)
end
section
set_option maxRecDepth 10000
set_option maxHeartbeats 4000000
open Go.RowKit
theorem aNB (x : Nat) (hx : x < 18446744073709551616) (he : bitE x = 2047) (p : Nat) (hp : 8 <= p /\ p <= 2048) : AC Tryz.prog TabF 10 [.lit (.int .u8 5), .lit (.int .u64 ((x : Nat) : Int)), .lit (.int .i64 ((p : Nat) : Int))] (.tup [ivV aAp, .lit (.int .i64 5)]) := by
 have k1 : decide (((p : Nat) : Int) < 8) = false := decide_eq_false (by omega)
 have k2 : decide ((2048 : Int) < ((p : Nat) : Int)) = false := decide_eq_false (by omega)
 have h0 := aC2 x hx
 have hr : aBP x = if bitE x = 2047 then (aAY, 5) else (aBl x, 0) := rfl
 rw [if_pos he] at hr
 rw [hr] at h0
 refine aAd Tryz.func10 rfl (by kernel_rfl) aCo Tryz.mixed rfl rfl (by kernel_rfl) ?_
 simp only [aAl, Tryz.ntmps10, dyV, ivV, fxV, aAj]
 refine aAa fun K1 g1 => ?_
 refine aAb fun os => ?_
 try simp (disch := omega) only [xq, simprocAttr, dyV, ivV, fxV, aAj, k1, k2, Bool.and_self]
 refine g1 _ ?_
 refine aAa fun K2 g2 => ?_
 refine aAa fun K3 g3 => ?_
 refine aAx ?_
 try simp (disch := omega) only [xq, simprocAttr, dyV, ivV, fxV, aAj, k1, k2, Bool.and_self]
 refine cxo (AC.weak (aDZ _) fun _ q => q.1) ?_
 try simp (disch := omega) only [xq, simprocAttr, dyV, ivV, fxV, aAj, k1, k2, Bool.and_self]
 refine g3 _ ?_
 refine aAf (by first | rfl | assumption) (fun c1 => ?_) (fun c1 => ?_)
 ·exact absurd c1 (by decide)
 ·try simp only [xn] at c1
  refine aAk ?_
  simp only [aAm, aAg, reduceIte, Nat.reduceEqDiff]
  refine g2 _ ?_
  refine aAa fun K4 g4 => ?_
  refine aAb fun os => ?_
  try simp (disch := omega) only [xq, simprocAttr, dyV, ivV, fxV, aAj, k1, k2, Bool.and_self]
  refine cxo (AC.weak (h0) fun _ q => q.1) ?_
  try simp (disch := omega) only [xq, simprocAttr, dyV, ivV, fxV, aAj, k1, k2, Bool.and_self]
  refine g4 _ ?_
  refine aAa fun K5 g5 => ?_
  refine aAa fun K6 g6 => ?_
  refine aAb fun os => ?_
  try simp (disch := omega) only [xq, simprocAttr, dyV, ivV, fxV, aAj, k1, k2, Bool.and_self]
  refine g6 _ ?_
  refine aAf (by first | rfl | assumption) (fun c2 => ?_) (fun c2 => ?_)
  ·try simp only [xn] at c2
   refine aAa fun K7 g7 => ?_
   refine aAb fun os => ?_
   try simp (disch := omega) only [xq, simprocAttr, dyV, ivV, fxV, aAj, k1, k2, Bool.and_self]
   refine g7 _ ?_
   refine aAe ?_
   simp only [aAm, aAg, reduceIte, Nat.reduceEqDiff]
   simp only [endX, resX, resV, Tryz.results10]
   try simp (disch := omega) only [xq, simprocAttr, dyV, ivV, fxV, aAj, k1, k2, Bool.and_self]
   simp only [*, Bool.not_true, Bool.not_false, Bool.false_eq_true, if_true, if_false, reduceIte, ivV, aAp, aAY] <;> rfl
  ·exact absurd c2 (by decide)
theorem aTJ (x : Nat) (hx : x < 18446744073709551616) (he : bitE x ≠ 2047) (p : Nat) (hp : 8 <= p /\ p <= 2048) : AC Tryz.prog TabF 10 [.lit (.int .u8 5), .lit (.int .u64 ((x : Nat) : Int)), .lit (.int .i64 ((p : Nat) : Int))] (.tup [ivV (aA1 2 true (aBl x) p).1, .lit (.int .i64 (aA1 2 true (aBl x) p).2)]) := by
 have k1 : decide (((p : Nat) : Int) < 8) = false := decide_eq_false (by omega)
 have k2 : decide ((2048 : Int) < ((p : Nat) : Int)) = false := decide_eq_false (by omega)
 have h0 := aC2 x hx
 have hr : aBP x = if bitE x = 2047 then (aAY, 5) else (aBl x, 0) := rfl
 rw [if_neg he] at hr
 rw [hr] at h0
 have hz := aCE x
 generalize aBl x = t at *
 have hw : AC Tryz.prog TabW 45 [aAj 2 16000, dyV t] (.tup [.lit (.bool (inB 2 t)), .lit (.bool (aAR 2 t))]) := aDI 2 16000 t (by omega) (by omega)
 have i0 := aBX 1 (by omega)
 have i1 := i0.1
 have i2 := (aBS (intD 1) (by have := i0.2; omega)).1
 have q0 := aCB t
 have s1 := aGG t (p + 64) (by omega) (by omega)
 have e1 := aFf (aAt 2 t (p + 64)) (p + 24) (by omega)
 have kp64 : ((p : Nat) : Int) + 64 = ((p + 64 : Nat) : Int) := rfl
 have kp24 : ((p : Nat) : Int) + 24 = ((p + 24 : Nat) : Int) := rfl
 have hr : aA1 2 true t p = if aAR 2 t && true then (⟨intD (-1), addD (intD (-1)) ⟨false, 1, -(p : Int) - 4⟩⟩, 0) else if !inB 2 t then (aAp, 3) else if t.m == 0 && true then (aAp, 0) else if t.m == 0 then (aAn (intD 1), 0) else aDf true (aAt 2 t (p + 64)) (p + 24) := rfl
 have m1 := (aBX (-1) (by omega)).1
 have m2 := aES (-(p : Int) - 4)
 have m3 := (aHp (intD (-1)) ⟨false, 1, -(p : Int) - 4⟩ (by
   have a1 := aAW (-1)
   have a2 : bl (-1 : Int).natAbs = 1 := by decide
   have a3 : bl 1 = 1 := by decide
   have a4 : ae ⟨false, 1, -(p : Int) - 4⟩ <= 3000 := by unfold ae; show (-(p : Int) - 4).natAbs <= _; omega
   show 2 * bl (intD (-1)).m + 2 * bl 1 + ae (intD (-1)) + ae ⟨false, 1, -(p : Int) - 4⟩ <= _
   omega)).1
 rw [hr]
 clear hr
 generalize (t.m == 0) = zb at *
 generalize inB 2 t = ok at *
 generalize aAR 2 t = below at *
 generalize aDf true (aAt 2 t (p + 64)) (p + 24) = E at *
 refine aAd Tryz.func10 rfl (by kernel_rfl) aCo Tryz.mixed rfl rfl (by kernel_rfl) ?_
 simp only [aAl, Tryz.ntmps10, dyV, ivV, fxV, aAj]
 repeat' first
  | refine aAa fun K g => ?_
  | refine goK (by assumption) ?_
  | refine aAv ?_
  | ((first | refine aAk ?_ | refine aAe ?_) <;> try simp only [aAm, aAg, reduceIte, Nat.reduceEqDiff])
  | ((first
  | refine aAU rfl fun os => ?_
  | refine aB7 ?_
  | refine aCR rfl (by kernel_rfl) fun os => ?_
  | refine cxo (AC.weak (aDZ _) fun _ q => q.1) ?_
  | refine cxo (AC.weak (h0) fun _ q => q.1) ?_
  | refine ⟨_, aHB (j := 10) (n := 2) (l := true) rfl rfl, ?_⟩
  | refine cxo (AC.weak (aJc) fun _ q => q.1) ?_
  | refine cxo (AC.weak (hw) fun _ q => q.1) ?_
  | refine cxo (AC.weak (m1) fun _ q => q.1) ?_
  | refine cxo (AC.weak (m2) fun _ q => q.1) ?_
  | refine cxo (AC.weak (m3) fun _ q => q.1) ?_
  | refine cxd (AC.weak (m1) fun _ q => q.1) ?_
  | refine cxo (AC.weak (q0) fun _ q => q.1) ?_
  | refine cxo (AC.weak (i1) fun _ q => q.1) ?_
  | refine cxo (AC.weak (i2) fun _ q => q.1) ?_
  | refine cxo (AC.weak (s1.1) fun _ q => q.1) ?_
  | refine cxo (AC.weak (e1) fun _ q => q.1) ?_
  | simp only [endX, resX, resV, Tryz.results10]) <;> try (simp (disch := omega) only [xq, simprocAttr, dyV, ivV, fxV, aAj, k1, k2, kp64, kp24, Bool.and_self, Int.zero_sub]))
  | (refine gx (fun c => ?_) (fun c => ?_) <;> first | exact absurd c (by decide) | ((try rw [c]); (try simp only [xn] at c); try (simp (disch := omega) only [xq, simprocAttr, dyV, ivV, fxV, aAj, k1, k2, kp64, kp24, Bool.and_self, Int.zero_sub])))
  | (refine aAf (by first | rfl | assumption) (fun c => ?_) (fun c => ?_) <;> first | exact absurd c (by decide) | ((try rw [c]); try simp only [xn] at c))
  | (first | (simp only [*, Bool.not_true, Bool.not_false, Bool.false_eq_true, Bool.and_true, Bool.and_false, Bool.true_and, Bool.false_and, if_true, if_false, reduceIte, ivV, aAp, aAY] <;> rfl) | (exfalso; clear kp64 kp24; simp_all)
     done)
theorem aNA (x : Nat) (hx : x < 18446744073709551616) (he : bitE x = 2047) (p : Nat) (hp : 8 <= p /\ p <= 2048) : AC Tryz.prog TabF 10 [.lit (.int .u8 6), .lit (.int .u64 ((x : Nat) : Int)), .lit (.int .i64 ((p : Nat) : Int))] (.tup [ivV aAp, .lit (.int .i64 5)]) := by
 have k1 : decide (((p : Nat) : Int) < 8) = false := decide_eq_false (by omega)
 have k2 : decide ((2048 : Int) < ((p : Nat) : Int)) = false := decide_eq_false (by omega)
 have h0 := aC2 x hx
 have hr : aBP x = if bitE x = 2047 then (aAY, 5) else (aBl x, 0) := rfl
 rw [if_pos he] at hr
 rw [hr] at h0
 refine aAd Tryz.func10 rfl (by kernel_rfl) aCo Tryz.mixed rfl rfl (by kernel_rfl) ?_
 simp only [aAl, Tryz.ntmps10, dyV, ivV, fxV, aAj]
 refine aAa fun K1 g1 => ?_
 refine aAb fun os => ?_
 try simp (disch := omega) only [xq, simprocAttr, dyV, ivV, fxV, aAj, k1, k2, Bool.and_self]
 refine g1 _ ?_
 refine aAa fun K2 g2 => ?_
 refine aAa fun K3 g3 => ?_
 refine aAx ?_
 try simp (disch := omega) only [xq, simprocAttr, dyV, ivV, fxV, aAj, k1, k2, Bool.and_self]
 refine cxo (AC.weak (aDZ _) fun _ q => q.1) ?_
 try simp (disch := omega) only [xq, simprocAttr, dyV, ivV, fxV, aAj, k1, k2, Bool.and_self]
 refine g3 _ ?_
 refine aAf (by first | rfl | assumption) (fun c1 => ?_) (fun c1 => ?_)
 ·exact absurd c1 (by decide)
 ·try simp only [xn] at c1
  refine aAk ?_
  simp only [aAm, aAg, reduceIte, Nat.reduceEqDiff]
  refine g2 _ ?_
  refine aAa fun K4 g4 => ?_
  refine aAb fun os => ?_
  try simp (disch := omega) only [xq, simprocAttr, dyV, ivV, fxV, aAj, k1, k2, Bool.and_self]
  refine cxo (AC.weak (h0) fun _ q => q.1) ?_
  try simp (disch := omega) only [xq, simprocAttr, dyV, ivV, fxV, aAj, k1, k2, Bool.and_self]
  refine g4 _ ?_
  refine aAa fun K5 g5 => ?_
  refine aAa fun K6 g6 => ?_
  refine aAb fun os => ?_
  try simp (disch := omega) only [xq, simprocAttr, dyV, ivV, fxV, aAj, k1, k2, Bool.and_self]
  refine g6 _ ?_
  refine aAf (by first | rfl | assumption) (fun c2 => ?_) (fun c2 => ?_)
  ·try simp only [xn] at c2
   refine aAa fun K7 g7 => ?_
   refine aAb fun os => ?_
   try simp (disch := omega) only [xq, simprocAttr, dyV, ivV, fxV, aAj, k1, k2, Bool.and_self]
   refine g7 _ ?_
   refine aAe ?_
   simp only [aAm, aAg, reduceIte, Nat.reduceEqDiff]
   simp only [endX, resX, resV, Tryz.results10]
   try simp (disch := omega) only [xq, simprocAttr, dyV, ivV, fxV, aAj, k1, k2, Bool.and_self]
   simp only [*, Bool.not_true, Bool.not_false, Bool.false_eq_true, if_true, if_false, reduceIte, ivV, aAp, aAY] <;> rfl
  ·exact absurd c2 (by decide)
theorem aTI (x : Nat) (hx : x < 18446744073709551616) (he : bitE x ≠ 2047) (p : Nat) (hp : 8 <= p /\ p <= 2048) : AC Tryz.prog TabF 10 [.lit (.int .u8 6), .lit (.int .u64 ((x : Nat) : Int)), .lit (.int .i64 ((p : Nat) : Int))] (.tup [ivV (aA1 10 true (aBl x) p).1, .lit (.int .i64 (aA1 10 true (aBl x) p).2)]) := by
 have k1 : decide (((p : Nat) : Int) < 8) = false := decide_eq_false (by omega)
 have k2 : decide ((2048 : Int) < ((p : Nat) : Int)) = false := decide_eq_false (by omega)
 have h0 := aC2 x hx
 have hr : aBP x = if bitE x = 2047 then (aAY, 5) else (aBl x, 0) := rfl
 rw [if_neg he] at hr
 rw [hr] at h0
 have hz := aCE x
 generalize aBl x = t at *
 have hw : AC Tryz.prog TabW 45 [aAj 3 4800, dyV t] (.tup [.lit (.bool (inB 10 t)), .lit (.bool (aAR 10 t))]) := aDI 3 4800 t (by omega) (by omega)
 have i0 := aBX 1 (by omega)
 have i1 := i0.1
 have i2 := (aBS (intD 1) (by have := i0.2; omega)).1
 have q0 := aCB t
 have s1 := aEG t (p + 64) (by omega) (by omega)
 have e1 := aFf (aAt 10 t (p + 64)) (p + 24) (by omega)
 have kp64 : ((p : Nat) : Int) + 64 = ((p + 64 : Nat) : Int) := rfl
 have kp24 : ((p : Nat) : Int) + 24 = ((p + 24 : Nat) : Int) := rfl
 have hr : aA1 10 true t p = if aAR 10 t && true then (⟨intD (-1), addD (intD (-1)) ⟨false, 1, -(p : Int) - 4⟩⟩, 0) else if !inB 10 t then (aAp, 3) else if t.m == 0 && true then (aAp, 0) else if t.m == 0 then (aAn (intD 1), 0) else aDf true (aAt 10 t (p + 64)) (p + 24) := rfl
 have m1 := (aBX (-1) (by omega)).1
 have m2 := aES (-(p : Int) - 4)
 have m3 := (aHp (intD (-1)) ⟨false, 1, -(p : Int) - 4⟩ (by
   have a1 := aAW (-1)
   have a2 : bl (-1 : Int).natAbs = 1 := by decide
   have a3 : bl 1 = 1 := by decide
   have a4 : ae ⟨false, 1, -(p : Int) - 4⟩ <= 3000 := by unfold ae; show (-(p : Int) - 4).natAbs <= _; omega
   show 2 * bl (intD (-1)).m + 2 * bl 1 + ae (intD (-1)) + ae ⟨false, 1, -(p : Int) - 4⟩ <= _
   omega)).1
 rw [hr]
 clear hr
 generalize (t.m == 0) = zb at *
 generalize inB 10 t = ok at *
 generalize aAR 10 t = below at *
 generalize aDf true (aAt 10 t (p + 64)) (p + 24) = E at *
 refine aAd Tryz.func10 rfl (by kernel_rfl) aCo Tryz.mixed rfl rfl (by kernel_rfl) ?_
 simp only [aAl, Tryz.ntmps10, dyV, ivV, fxV, aAj]
 repeat' first
  | refine aAa fun K g => ?_
  | refine goK (by assumption) ?_
  | refine aAv ?_
  | ((first | refine aAk ?_ | refine aAe ?_) <;> try simp only [aAm, aAg, reduceIte, Nat.reduceEqDiff])
  | ((first
  | refine aAU rfl fun os => ?_
  | refine aB7 ?_
  | refine aCR rfl (by kernel_rfl) fun os => ?_
  | refine cxo (AC.weak (aDZ _) fun _ q => q.1) ?_
  | refine cxo (AC.weak (h0) fun _ q => q.1) ?_
  | refine ⟨_, aHB (j := 12) (n := 10) (l := true) rfl rfl, ?_⟩
  | refine cxo (AC.weak (aGb) fun _ q => q.1) ?_
  | refine cxo (AC.weak (hw) fun _ q => q.1) ?_
  | refine cxo (AC.weak (m1) fun _ q => q.1) ?_
  | refine cxo (AC.weak (m2) fun _ q => q.1) ?_
  | refine cxo (AC.weak (m3) fun _ q => q.1) ?_
  | refine cxd (AC.weak (m1) fun _ q => q.1) ?_
  | refine cxo (AC.weak (q0) fun _ q => q.1) ?_
  | refine cxo (AC.weak (i1) fun _ q => q.1) ?_
  | refine cxo (AC.weak (i2) fun _ q => q.1) ?_
  | refine cxo (AC.weak (s1.1) fun _ q => q.1) ?_
  | refine cxo (AC.weak (e1) fun _ q => q.1) ?_
  | simp only [endX, resX, resV, Tryz.results10]) <;> try (simp (disch := omega) only [xq, simprocAttr, dyV, ivV, fxV, aAj, k1, k2, kp64, kp24, Bool.and_self, Int.zero_sub]))
  | (refine gx (fun c => ?_) (fun c => ?_) <;> first | exact absurd c (by decide) | ((try rw [c]); (try simp only [xn] at c); try (simp (disch := omega) only [xq, simprocAttr, dyV, ivV, fxV, aAj, k1, k2, kp64, kp24, Bool.and_self, Int.zero_sub])))
  | (refine aAf (by first | rfl | assumption) (fun c => ?_) (fun c => ?_) <;> first | exact absurd c (by decide) | ((try rw [c]); try simp only [xn] at c))
  | (first | (simp only [*, Bool.not_true, Bool.not_false, Bool.false_eq_true, Bool.and_true, Bool.and_false, Bool.true_and, Bool.false_and, if_true, if_false, reduceIte, ivV, aAp, aAY] <;> rfl) | (exfalso; clear kp64 kp24; simp_all)
     done)
end
section
set_option maxHeartbeats 1000000
open Go.RowKit
theorem aOs {lo : Nat} {w : World} {x : Option Addr} {cap k : Nat} {l : List Nat} (hk : k <= l.length) (hz : ∀ j, k <= j -> gw l j = 0) (hl : k = 0 \/ gw l (k - 1) ≠ 0) (h : aAE lo w (.slice x l.length cap) l) :
   Num lo w (.slice x k cap) (valN l) := by
 have hc : l.length <= cap := by
   obtain ⟨_, _, e, hc, _⟩ := h
   injection e with _ _ e
   subst e; exact hc
 have h1 := h.take k cap hk (Nat.le_trans hk hc) (Nat.le_refl _)
 have h2 := aJS h.ok k hk hz hl
 unfold Num
 rw [<- h2]
 exact h1
theorem aFu {w : World} {B n : Nat} {e : TypeId} {v : Value} {xs : List Value} (h : w.ownsRow B e 1 v n xs) : ∃ x c, v = .slice x n c := by
 rcases h.2 with ⟨h1, h2⟩ | ⟨g, cap, cur, a, _⟩
 · exact ⟨none, 0, by rw [h1, h2]⟩
 · exact ⟨_, cap, a⟩
theorem aFj (lo : Nat) (a : Value) (l : List Nat) (w : World) (ha : aAE lo w a l) (hl : (limbsOf (valN l)).length <= 17592186044416) :
   Calls Tryz.prog 34 #[a] w (aCW w w.heap.size (valN l)) := by
 have ha0 := ha
 obtain ⟨x, cap, rfl, hcap, hcm, hok, hx⟩ := ha
 have HA := Lib.hid ha0
 have HX := Lib.hid hx
 have hlen := aA4 (aBr hok.1)
 clear ha0 hx
 go_enter Tryz.func34, Tryz.ntmps34
 go_wp2_with fail
 go_loop [3] (fun i => ∃ k : Nat, k <= l.length /\ i = .int .i64 k /\ Hid (∀ j, k <= j -> gw l j = 0)) (fun i => (intOf i).toNat)
 case atStart => exact ⟨l.length, Nat.le_refl _, rfl, fun j hj => aGk hj⟩
 case round =>
   obtain ⟨k, hk, rfl, hz⟩ := hrel
   by_cases h0 : k = 0
   · subst h0
     have hN := Lib.hid (aOs (k := 0) hk hz.out (.inl rfl) HA.out)
     go_wp2_with (at_builtin; refine aE4 rfl _ _ _ _ rfl Tryz.underlying25 Tryz.underlying25 rfl lo _ hN.out.words (by omega) ?_; intro v' w' hv' hb')
     go_ret
     exact ⟨_, rfl, hv', hb'⟩
   · obtain ⟨m, rfl⟩ : ∃ m, k = m + 1 := ⟨k - 1, by omega⟩
     obtain ⟨b, off, rfl, hlo, hc⟩ := HX.out m (by omega)
     have hcast : (((m + 1 : Nat) : Int) - 1) = ((m : Nat) : Int) := by omega
     cases hv : (((gw l m : Nat) : Int) == 0)
     · have hne : m + 1 = 0 \/ gw l (m + 1 - 1) ≠ 0 := .inr (by rw [Nat.add_sub_cancel]; have := beq_eq_false_iff_ne.1 hv; omega)
       have hN := Lib.hid (aOs hk hz.out hne HA.out)
       clear hne
       go_wp2_with (at_builtin; refine aE4 rfl _ _ _ _ rfl Tryz.underlying25 Tryz.underlying25 rfl lo _ hN.out.words (by omega) ?_; intro v' w' hv' hb')
       go_ret
       exact ⟨_, rfl, hv', hb'⟩
     · have hz' : Hid (∀ j, m <= j -> gw l j = 0) := fun j hj => by
         by_cases e : m = j
         · subst e; have := beq_iff_eq.1 hv; omega
         · exact hz.out j (by omega)
       clear hz
       go_wp2
       go_round
       case rel => exact ⟨m, by omega, rfl, hz'⟩
       case measure => simp [intOf]
theorem aBN (lo : Nat) (a : Value) (l : List Nat) (w : World) (ha : aAE lo w a l) (hl : l.length <= 17592186044416) :
   Calls Tryz.prog 34 #[a] w (aCW w w.heap.size (valN l)) := aFj lo a l w ha (Nat.le_trans (aA4 (aBr ha.ok)) hl)
theorem aUl (n : Int) (w : World) (h0 : 0 <= n) (h1 : n < 18446744073709551616) :
   Calls Tryz.prog 30 #[.int .u64 n] w (aCW w w.heap.size n.toNat) := by
 have hn : ((n.toNat : Nat) : Int) = n := Int.toNat_of_nonneg h0
 have hw : wArr [n.toNat] = #[Value.int .u64 n] := by simp [wArr, hn]
 have hb : Blk (w.alloc (.cells (wArr [n.toNat]) 23)) w.heap.size (wArr [n.toNat]) 23 := Blk.new _ _ _
 have hW := aAE.ofBlk_all (lo := w.heap.size) hb (Nat.le_refl _) (aIi (by omega) aFD) (by simp)
 rw [hw] at hW
 have hbl := (Below.refl w.heap.size w).alloc (Nat.le_refl _) (.cells #[Value.int .u64 n] 23)
 have hv : valN [n.toNat] = n.toNat := by simp [valN]
 have hN := aBN w.heap.size _ _ _ hW (by simp)
 rw [hv] at hN
 have HN := Lib.hid hN
 clear hn hw hb hv hN hW
 go_enter Tryz.func30, Tryz.ntmps30
 go_wp2_with fail
 refine HN.out.mono ?_
 rintro e w1 ⟨v, rfl, hv, hb1⟩
 go_wp2
 go_ret
 exact ⟨_, rfl, hv.mono hbl.size, hbl.trans (hb1.mono hbl.size)⟩
theorem aC9 (lo : Nat) (a : Value) (l : List Nat) (i : Nat) (w : World) (ha : aAE lo w a l) :
   Calls Tryz.prog 111 #[a, .int .i64 ((i : Nat) : Int)] w fun e w' => e = .returned (.int .u64 ((gw l i : Nat) : Int)) /\ w = w' := by
 obtain ⟨x, cap, rfl, hcap, hcm, hok, hx⟩ := ha
 have HX := Lib.hid hx
 clear hx
 go_enter Tryz.func111, Tryz.ntmps111
 by_cases h : i < l.length
 · obtain ⟨b, off, rfl, hlo, hc⟩ := HX.out i h
   have hd : ((i : Nat) : Int) < ((l.length : Nat) : Int) := by omega
   go_wp2
   go_ret
   exact ⟨rfl, rfl⟩
 · have hg : gw l i = 0 := aGk (by omega)
   have hd : ¬ ((i : Nat) : Int) < ((l.length : Nat) : Int) := by omega
   rw [hg]
   go_wp2
   go_ret
   exact ⟨rfl, rfl⟩
def natV : Value -> Nat
 | .int _ n => n.toNat
 | _ => 0
theorem aWc {n : Nat} (h : n ≠ 0) : bl n = bl (n / 2) + 1 := by
 by_cases h1 : n / 2 = 0
 · have : n = 1 := by omega
   subst this
   decide
 · have h2 := aD6 h1
   have h3 := aHJ h1
   have h4 := aDO (n / 2)
   have e : bl (n / 2) = (bl (n / 2) - 1) + 1 := by omega
   refine aFQ ?_ ?_
   · rw [e, Nat.pow_succ]; omega
   · rw [Nat.pow_succ]; omega
theorem aKr (lo : Nat) (a : Value) (l : List Nat) (w : World) (ha : aAE lo w a l) (hl : (limbsOf (valN l)).length <= 17592186044416) :
   Calls Tryz.prog 66 #[a] w fun e w' => e = .returned (.int .i64 ((bl (valN l) : Nat) : Int)) /\ Below w.heap.size w w' := by
 have HL := Lib.hid hl
 have hlen := hl
 clear hl
 generalize hn : valN l = n at *
 have HN := Lib.hid hn
 clear hn
 go_enter Tryz.func66, Tryz.ntmps66
 go_wp2_with fail
 refine (aFj lo _ l _ ha (by rw [HN.out]; exact HL.out)).mono ?_
 rintro e w1 ⟨v, rfl, hv, hb1⟩
 rw [HN.out] at hv
 obtain ⟨x, cap, rfl, hcap, hcm, hok, hx⟩ := hv
 by_cases h0 : n = 0
 · subst h0
   have e0 : (limbsOf 0).length = 0 := by rw [aAZ]; rfl
   clear hx hok
   go_wp2
   go_ret
   exact ⟨rfl, hb1⟩
 · have hL : (limbsOf n).length ≠ 0 := by rw [Ne, aAG]; exact h0
   have hgw := aA3 hok.1 ((limbsOf n).length - 1)
   have hbl := aOL h0
   have hb2 := aJs (gw (limbsOf n) ((limbsOf n).length - 1))
   rw [<- hb2.resolve_right (by omega)] at hbl
   obtain ⟨m, hm⟩ : ∃ m, (limbsOf n).length = m + 1 := ⟨_, (Nat.succ_pred_eq_of_ne_zero hL).symm⟩
   obtain ⟨b, off, rfl, hlo, hc⟩ := hx m (by omega)
   rw [hm] at hlen hcap hgw hbl
   rw [Nat.add_sub_cancel] at hgw hbl
   have hbe : (((m : Nat) : Int) + 1 == 0) = false := beq_eq_false_iff_ne.2 (by omega)
   have HM := Lib.hid hm
   generalize gw (limbsOf n) m = t at *
   have h64 : bl t <= 64 := aC8 (by omega)
   have HBL := Lib.hid hbl
   clear hbl hx hok
   rw [HM.out]
   clear hm h0 hL
   have e1 : (64 : Int) * ((((m + 1 : Nat) : Int)) - 1) = ((64 * m : Nat) : Int) := by omega
   clear hb2
   go_wp2_with fail
   go_loop [3, 4] (fun u3 u4 => ∃ (k t' : Nat), u3 = .int .i64 ((k : Nat) : Int) /\ u4 = .int .u64 ((t' : Nat) : Int) /\ t' < 18446744073709551616 /\ k <= 64 * m + 64 /\ Hid (k + bl t' = bl n)) (fun _ u4 => natV u4)
   case atStart => exact ⟨64 * m, t, by go_num, rfl, hgw, by omega, by show _ = _; rw [HBL.out]⟩
   case round =>
     obtain ⟨k, t', rfl, rfl, ht', hk, HK⟩ := hrel
     by_cases h0 : t' = 0
     · subst h0
       have hz : decide ((((0 : Nat) : Nat) : Int) > 0) = false := by decide
       have hk2 := HK.out
       rw [aGM] at hk2
       clear HK
       go_wp2_with fail
       go_ret
       exact ⟨aEH (by omega), hb1⟩
     · have hz : decide ((((t' : Nat) : Nat) : Int) > 0) = true := decide_eq_true (by omega)
       have hh := aWc h0
       have HK2 := Lib.hid (show k + 1 + bl (t' / 2) = bl n by have := HK.out; omega)
       have hk3 : k + 1 <= 64 * m + 64 := by
         have h1 := HK.out
         have h2 := HBL.out
         omega
       obtain ⟨q, hq⟩ : ∃ q, t' / 2 = q := ⟨_, rfl⟩
       rw [hq] at HK2
       have hdiv : ((t' : Nat) : Int) / 2 = ((q : Nat) : Int) := by omega
       clear HK hh
       go_wp2_with fail
       refine ⟨⟨k + 1, q, by go_num, rfl, by omega, hk3, HK2.out⟩, ?_⟩
       simp only [natV]
       omega
theorem aFV (lo : Nat) (a : Value) (l : List Nat) (w : World) (ha : aAE lo w a l) (hl : l.length <= 17592186044416) :
   Calls Tryz.prog 66 #[a] w fun e w' => e = .returned (.int .i64 ((bl (valN l) : Nat) : Int)) /\ Below w.heap.size w w' := aKr lo a l w ha (Nat.le_trans (aA4 (aBr ha.ok)) hl)
end
end Go.Proofs.YtgdkokgeldnliaaGreatDoor
