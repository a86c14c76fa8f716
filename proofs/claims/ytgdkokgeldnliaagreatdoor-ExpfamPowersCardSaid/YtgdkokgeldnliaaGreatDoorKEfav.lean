/- Contracts of functions and plain lemmas that the laws of this seat lean on. -/
import Derived.Test.YtgdkokgeldnliaaGreatDoorKEfar
import Derived.ChangeSlices
import Derived.Deep.Strs
namespace Go.Proofs.YtgdkokgeldnliaaGreatDoor
set_option linter.unusedSimpArgs false
set_option linter.unusedVariables false
set_option linter.unusedSectionVars false
set_option linter.constructorNameAsVariable false
set_option linter.unnecessarySimpa false
section
set_option maxHeartbeats 1000000
open Go.RowKit
theorem aUi (lo : Nat) (v : Value) (neg : Bool) (l : List Nat) (x : Int) (w : World) (hd : DyW lo w v neg l x) (hl : (limbsOf (valN l)).length <= 17592186044416) (he : -4611686018427387904 <= x) (he2 : x <= 4611686018427387904) :
   Calls Tryz.prog 117 #[v] w fun e w' => e = .returned (.int .i64 (x + ((bl (valN l) : Nat) : Int) - 1)) /\ Below w.heap.size w w' := by
 obtain ⟨a, rfl, ha⟩ := hd
 have hbl := aIq (aBg (valN l))
 rw [aAi] at hbl
 obtain ⟨x1, n1, c1, rfl⟩ := ha.slice
 have hba := (Below.refl w.heap.size w).alloc (Nat.le_refl _) (.cells #[.bool neg, .slice x1 n1 c1, .int .i64 x] 27)
 go_enter Tryz.func117, Tryz.ntmps117
 go_wp2_with fail
 go_quiet ((go_at_call 149; exact Calls.quiet_of_same ((aOV lo _ l _ ((ha.call hba).drew _) (by omega)).mono fun _ _ h => ⟨h.1, h.2.symm⟩)))
 go_wp2
 go_ret
 exact ⟨rfl, hba.trans (aBQ _ _ _)⟩
theorem aUn (lo : Nat) (v : Value) (neg : Bool) (l : List Nat) (x : Int) (w : World) (hd : DyW lo w v neg l x) :
   Calls Tryz.prog 121 #[v] w fun e w' => e = .returned (.bool (decide ((limbsOf (valN l)).length <= 1024 /\ -32768 <= x /\ x <= 32768))) /\ Below w.heap.size w w' := by
 obtain ⟨a, rfl, ha⟩ := hd
 obtain ⟨x1, n1, c1, rfl⟩ := ha.slice
 generalize hn : (limbsOf (valN l)).length = n
 have HN := Lib.hid hn
 clear hn
 go_enter Tryz.func121, Tryz.ntmps121
 have hba := (Below.refl w.heap.size w).alloc (Nat.le_refl _) (.cells #[.bool neg, .slice x1 n1 c1, .int .i64 x] 27)
 go_wp2_with fail
 refine (aBM lo _ l _ (ha.call hba)).mono ?_
 rintro e w1 ⟨v1, rfl, hv1, hw⟩
 subst hw
 obtain ⟨px, cx, rfl, hcx, hcx2, _, _⟩ := hv1.words
 rw [HN.out] at hcx ⊢
 by_cases h1 : n <= 1024
 · by_cases h2 : -32768 <= x
   · by_cases h3 : x <= 32768
     · go_wp2
       go_ret
       exact ⟨aGW (by first | (simp [*]; done) | (simp [*]; omega)), hba⟩
     · go_wp2
       go_ret
       exact ⟨aGW (by first | (simp [*]; done) | (simp [*]; omega)), hba⟩
   · go_wp2
     go_ret
     exact ⟨aGW (by first | (simp [*]; done) | (simp [*]; omega)), hba⟩
 · go_wp2
   go_ret
   exact ⟨aGW (by first | (simp [*]; done) | (simp [*]; omega)), hba⟩
end
section
def powQ (n : Nat) (t : D) (p : Nat) : Iv × Int :=
 if decide (0 < cmpD t (intD (aAo n : Int))) || aAR n t then (aAp, 3) else (rawQ n t p, 0)
theorem aM4 (n : Nat) (t : D) (q : Nat) : aAw n (oneD t) q = aAw n t q := by
 have : aAn (oneD t) = aAn t := by unfold aAn; rw [aCL (aB2 t)]
 unfold aAw; rw [this]
theorem aVY {less : Bool} {u : Iv} {p : Nat} (h : aAT u.lo = false \/ aAT u.hi = false) : aDf less u p = (aAp, 3) := by
 have hk : ∀ t : D, aAT t = false -> (aBy less t p).2 = 2 := fun t ht => by unfold aBy; rw [ht]; rfl
 unfold aDf
 rw [if_pos]
 rcases h with h | h
 · rw [hk _ h]; rfl
 · rw [hk _ h]; simp
theorem aWG {n p : Nat} {t : D} (hn : n = 0 \/ n = 2 \/ n = 10) (hp8 : 8 <= p) (hp : p <= 4096) :
   aKs (powV n t p) (powQ n t p) p \/ (t.m ≠ 0 /\ topD t < -16384 /\ powV n t p = (aAp, 3) /\ (powQ n t p).2 = 0) := by
 have hbe := aGN n t
 have hre := aFw n t
 have hcg := aHH t (intD (aAo n : Int))
 rw [aEw] at hcg
 have hcast : ((aAo n : Int) : Rat) = (aAo n : Rat) := rfl
 rw [hcast] at hcg
 have hr0 : (0 : Rat) <= (aAo n : Rat) := Rat.natCast_nonneg
 unfold powV powQ inB
 by_cases hb : t.v < -(aAo n : Rat)
 · have h1 : aAR n t = true := by rw [hbe]; exact decide_eq_true hb
   rw [h1]
   simp only [Bool.not_true, Bool.false_and, Bool.not_false, if_true, Bool.or_true]
   exact .inl (aHg p)
 have h1 : aAR n t = false := by rw [hbe]; exact decide_eq_false hb
 rw [h1]
 simp only [Bool.not_false, Bool.true_and, Bool.or_false]
 by_cases ha : (aAo n : Rat) < t.v
 · have h2 : decide (cmpD t (intD (aAo n : Int)) <= 0) = false := decide_eq_false (by rw [hre]; grind)
   have h3 : decide (0 < cmpD t (intD (aAo n : Int))) = true := decide_eq_true (by rw [hcg]; exact ha)
   rw [h2, h3]
   simp only [Bool.not_false, if_true]
   exact .inl (aHg p)
 have h2 : decide (cmpD t (intD (aAo n : Int)) <= 0) = true := decide_eq_true (by rw [hre]; grind)
 have h3 : decide (0 < cmpD t (intD (aAo n : Int))) = false := decide_eq_false (by rw [hcg]; exact ha)
 rw [h2, h3]
 simp only [Bool.not_true, Bool.false_eq_true, if_false]
 obtain ⟨y, y1, y2⟩ := aGu (t := oneD t) hn (w := p + 64) (q := p + 64) (by omega) (by omega) (by omega) (by omega)
 rw [aM4] at y2
 have qL := aE1 (aAw n t (p + 64)).lo (p + 8)
 have qH := aE1 (aAw n t (p + 64)).hi (p + 8)
 by_cases hm : t.m = 0
 · have hv : t.v = 0 := aBL.2 hm
   have hq0 : (aAw n t (p + 64)).has 0 := by
     unfold aAw
     by_cases h : n = 0
     · rw [if_pos h]; have := aCx t; rwa [hv] at this
     · rw [if_neg h]
       have hn2 : n = 2 \/ n = 10 := by omega
       have l2 := aK5 (w := p + 64) hn2 (by omega)
       have hr : (0 : Rat) < (n : Rat) := by rcases hn2 with rfl | rfl <;> decide +kernel
       have := aFr (p := ((p + 64 : Nat) : Int)) (by omega) (aCx t) (b := lnVQ n (p + 64)) (y := (lnVQ n (p + 64)).lo.v) ⟨Rat.le_refl, aFF hr l2.1 l2.2⟩
       rw [hv, Rat.zero_mul] at this
       exact this
   have hm0 : (t.m == 0) = true := by rw [hm]; rfl
   rw [hm0]
   simp only [if_true]
   refine .inl ⟨rfl, fun h => absurd rfl h, fun _ => ?_⟩
   obtain ⟨o1, o2⟩ := aCZ
   refine ⟨aB2 _, aB2 _, aGZ, aET aGZ (by omega) ⟨by rw [o1]; decide, ?_⟩ (by rw [o1, o2]; exact Rat.le_refl), ?_, ?_⟩
   · rw [o1, o2]; have := aAz (-(p : Int)); grind
   · rw [o1]; exact aAM aDu qH.2.2 hq0.2
   · rw [o2]; exact aAM qL.2.1 aC0 hq0.1
 · have hm0 : (t.m == 0) = false := beq_eq_false_iff_ne.2 hm
   rw [hm0]
   simp only [Bool.false_eq_true, if_false]
   have hin : (oneD t).av <= (aAo n : Rat) := by rw [aQW, aBh]; split <;> grind
   have hm1 : (oneD t).m ≠ 0 := fun h => hm (aVu.1 h)
   obtain ⟨s1, s2, s3, s4, hle, s5, ⟨m1, m2⟩, ⟨m3, m4⟩, m5⟩ := aJW (t := oneD t) hn hp8 hp hm1 hin
   by_cases hf : aAT (aAt n (oneD t) (p + 64)).lo = true /\ aAT (aAt n (oneD t) (p + 64)).hi = true
   · obtain ⟨out, o1, o2, o3, o4, o5, o6, o7, o8⟩ := aLl (p := p + 24) ⟨s1, s2, hf.1, hf.2, m2, m4⟩ (by omega) (by omega) hle m5
     rw [o1]
     refine .inl ⟨rfl, fun h => absurd rfl h, fun _ => ?_⟩
     have hle : out.lo.v <= out.hi.v := aAM o6 o7 hle
     have hp2 := aA7 (show 5 - ((p + 24 : Nat) : Int) <= -(p : Int) by omega)
     refine ⟨o3, o4, o2, aET o2 (by omega) ⟨o5, ?_⟩ hle, ?_, ?_⟩
     · have := Rat.mul_le_mul_of_nonneg_left hp2 (Rat.le_of_lt o5); grind
     · exact aAM o6 qH.2.2 (Rat.le_trans y1.1 y2.2)
     · exact aAM qL.2.1 o7 (Rat.le_trans y2.1 y1.2)
   · refine .inr ⟨hm, ?_, aVY ?_, trivial⟩
     · apply Int.not_le.1
       intro ht
       have h4 := aFq hm
       have h5 := aA7 ht
       have h6 := aA7 (show (-16898 : Int) <= -16384 by omega)
       have h7 := (aIJ hn hp8 hp hm1 hin (by rw [aQW]; grind)).1
       exact hf ⟨h7.2.2.1, h7.2.2.2.1⟩
     · cases h5 : aAT (aAt n (oneD t) (p + 64)).lo with
       | false => exact .inl rfl
       | true =>
         cases h6 : aAT (aAt n (oneD t) (p + 64)).hi with
         | false => exact .inr rfl
         | true => exact absurd ⟨h5, h6⟩ hf
end
section
set_option maxRecDepth 10000
set_option maxHeartbeats 1000000
open Go.RowKit
theorem aPz (n : Int) (h : n ≠ 0 /\ n ≠ 2 /\ n ≠ 10) : AC Tryz.prog TabW 44 [.lit (.int .i64 n)] (.tup [aAj 0 0, .lit (.bool false)]) := by
 obtain ⟨h1, h2, h3⟩ := h
 refine aAd Tryz.func44 rfl (by kernel_rfl) aAc Tryz.mixed rfl rfl (by kernel_rfl) ?_
 simp only [aAl, Tryz.ntmps44, dyV, ivV, fxV, aAj]
 refine aAa fun K1 g1 => ?_
 refine aAb fun os => ?_
 try simp (disch := omega) only [xq, simprocAttr, dyV, ivV, fxV, aAj]
 refine g1 _ ?_
 refine aAa fun K2 g2 => ?_
 refine aAa fun K3 g3 => ?_
 refine aAb fun os => ?_
 try simp (disch := omega) only [xq, simprocAttr, dyV, ivV, fxV, aAj]
 refine g3 _ ?_
 refine aAv ?_
 refine aAa fun K4 g4 => ?_
 refine aAb fun os => ?_
 try simp (disch := omega) only [xq, simprocAttr, dyV, ivV, fxV, aAj]
 refine g4 _ ?_
 refine aAf (by first | rfl | assumption) (fun c1 => ?_) (fun c1 => ?_)
 ·try simp only [xn] at c1
  exact absurd c1 h1
 ·try simp only [xn] at c1
  refine aAa fun K5 g5 => ?_
  refine aAb fun os => ?_
  try simp (disch := omega) only [xq, simprocAttr, dyV, ivV, fxV, aAj]
  refine g5 _ ?_
  refine aAf (by first | rfl | assumption) (fun c2 => ?_) (fun c2 => ?_)
  ·try simp only [xn] at c2
   exact absurd c2 h2
  ·try simp only [xn] at c2
   refine aAa fun K6 g6 => ?_
   refine aAb fun os => ?_
   try simp (disch := omega) only [xq, simprocAttr, dyV, ivV, fxV, aAj]
   refine g6 _ ?_
   refine aAf (by first | rfl | assumption) (fun c3 => ?_) (fun c3 => ?_)
   ·try simp only [xn] at c3
    exact absurd c3 h3
   ·try simp only [xn] at c3
    refine aAk ?_
    simp only [aAm, aAg, reduceIte, Nat.reduceEqDiff]
    refine g2 _ ?_
    refine aAa fun K7 g7 => ?_
    refine aAb fun os => ?_
    try simp (disch := omega) only [xq, simprocAttr, dyV, ivV, fxV, aAj]
    refine g7 _ ?_
    refine aAe ?_
    simp only [endX, resX, resV, Tryz.results44]
    try simp (disch := omega) only [xq, simprocAttr, dyV, ivV, fxV, aAj]
    first | done | rfl
end
section
set_option maxRecDepth 10000
set_option maxHeartbeats 4000000
open Go.RowKit
def LitW (xa : Option Addr) (na ca : Nat) (la : List Nat) (w : World) : Prop := TabF w /\ aAE 0 w (.slice xa na ca) la
theorem aAP {xa : Option Addr} {na ca : Nat} {la : List Nat} : aHK (LitW xa na ca la) := fun w w' h hb => ⟨aCo w w' h.1 hb, h.2.call hb⟩
def dyS (ng : Bool) (xa : Option Addr) (na ca : Nat) (ex : Int) : AV := .agg [.lit (.bool ng), .lit (.slice xa na ca), .lit (.int .i64 ex)]
def lD (ng : Bool) (la : List Nat) (ex : Int) : D := ⟨ng, valN la, ex⟩
theorem AC.litArg {f : FuncId} {xa : Option Addr} {na ca : Nat} {la : List Nat} {v : Value} (h : AC Tryz.prog TabW f [.wds la] (.lit v)) : AC Tryz.prog (LitW xa na ca la) f [.lit (.slice xa na ca)] (.lit v) :=
 ⟨h.1, fun S β w vs h1 h2 h3 => by
   simp only [RepL, Rep] at h3
   obtain ⟨_, _, rfl, rfl, rfl⟩ := h3
   refine (h.2 (fun _ => False) [] w _ h1.1.1 (fun b h => h.elim) (by simp only [RepL, Rep]; exact ⟨_, _, rfl, ⟨h1.2, fun _ _ _ _ _ _ _ h => h.elim⟩, rfl⟩)).mono fun e w' ⟨u, g1, g2, g3⟩ => ⟨u, g1, ?_, g3⟩
   simp only [Rep] at g2 ⊢
   exact g2⟩
theorem aRj {xa : Option Addr} {na ca : Nat} {la : List Nat} {w : World} (h : LitW xa na ca la w) : la.length <= 9223372036854775807 /\ okW la := by
 obtain ⟨_, x, cap, _, h1, h2, h3, _⟩ := h
 exact ⟨Nat.le_trans h1 h2, h3.1⟩
theorem AC.lit {f : FuncId} {xa : Option Addr} {na ca : Nat} {la : List Nat} {args : List AV} {r : AV} (hok : aHW Tryz.prog f = true) (h : la.length <= 9223372036854775807 -> okW la -> AC Tryz.prog (LitW xa na ca la) f args r) : AC Tryz.prog (LitW xa na ca la) f args r :=
 ⟨hok, fun S β w vs h1 h2 h3 => (h (aRj h1).1 (aRj h1).2).2 S β w vs h1 h2 h3⟩
variable {xa : Option Addr} {na ca : Nat} {la : List Nat} (ng : Bool) (ex : Int)
theorem aUz : AC Tryz.prog (LitW xa na ca la) 49 [dyS ng xa na ca ex] (.lit (.bool ((lD ng la ex).m == 0))) := by
 refine ⟨by kernel_rfl, fun S β w vs hI hS h => ?_⟩
 simp only [RepL, Rep, dyS] at h
 obtain ⟨_, _, rfl, ⟨_, rfl, _, _, rfl, rfl, _, _, rfl, rfl, _, _, rfl, rfl, rfl⟩, rfl⟩ := h
 have := aOT 0 _ ng la ex w ⟨_, rfl, hI.2⟩
 exact this.mono fun e w' ⟨h1, h2⟩ => ⟨_, h1, (by simp only [Rep] <;> rfl), h2⟩
theorem aWD : AC Tryz.prog (LitW xa na ca la) 121 [dyS ng xa na ca ex] (.lit (.bool (aAT (lD ng la ex)))) := by
 refine ⟨by kernel_rfl, fun S β w vs hI hS h => ?_⟩
 simp only [RepL, Rep, dyS] at h
 obtain ⟨_, _, rfl, ⟨_, rfl, _, _, rfl, rfl, _, _, rfl, rfl, _, _, rfl, rfl, rfl⟩, rfl⟩ := h
 have := aUn 0 _ ng la ex w ⟨_, rfl, hI.2⟩
 exact this.mono fun e w' ⟨h1, h2⟩ => ⟨_, h1, (by simp only [Rep] <;> rfl), h2⟩
theorem aXv (h : bl (lD ng la ex).m <= 1000000 /\ ae (lD ng la ex) <= 1000000) : AC Tryz.prog (LitW xa na ca la) 117 [dyS ng xa na ca ex] (.lit (.int .i64 (topD (lD ng la ex)))) := by
 refine ⟨by kernel_rfl, fun S β w vs hI hS h => ?_⟩
 simp only [RepL, Rep, dyS] at h
 obtain ⟨_, _, rfl, ⟨_, rfl, _, _, rfl, rfl, _, _, rfl, rfl, _, _, rfl, rfl, rfl⟩, rfl⟩ := h
 have := aUi 0 _ ng la ex w ⟨_, rfl, hI.2⟩ (Nat.le_trans (aDt (n := valN la) (k := 15625) (by have := h.1; unfold lD at this; omega)) (by decide)) (by have := h.2; unfold ae lD at this; simp only at this; omega) (by have := h.2; unfold ae lD at this; simp only at this; omega)
 exact this.mono fun e w' ⟨h1, h2⟩ => ⟨_, h1, (by simp only [Rep] <;> rfl), h2⟩
theorem aWC (h : bl (lD ng la ex).m <= 1000000 /\ ae (lD ng la ex) <= 1000000) : AC Tryz.prog (LitW xa na ca la) 86 [.lit (.bool ng), .lit (.slice xa na ca), .lit (.int .i64 ex)] (dyV (oneD (lD ng la ex))) := by
 refine ⟨by kernel_rfl, fun S β w vs hI hS h => ?_⟩
 simp only [RepL, Rep, dyS] at h
 obtain ⟨_, _, rfl, rfl, _, _, rfl, rfl, _, _, rfl, rfl, rfl⟩ := h
 have := aMO 0 ng _ la ex w hI.2 (Nat.le_trans (aDt (n := valN la) (k := 15625) (by have := h.1; unfold lD at this; omega)) (by decide)) (by have := h.2; unfold ae lD at this; simp only at this; omega) (by have := h.2; unfold ae lD at this; simp only at this; omega) hI.1.1
 exact this.mono fun e w' h => aJm (d := aAL ng (valN la) ex) hS h
theorem aVA (h : bl (lD ng la ex).m <= 1000000 /\ ae (lD ng la ex) <= 1000000) : AC Tryz.prog (LitW xa na ca la) 34 [.lit (.slice xa na ca)] (.num (valN la)) := by
 refine ⟨by kernel_rfl, fun S β w vs hI hS h => ?_⟩
 simp only [RepL, Rep, dyS] at h
 obtain ⟨_, _, rfl, rfl, rfl⟩ := h
 have := aFj 0 _ la w hI.2 (Nat.le_trans (aDt (n := valN la) (k := 15625) (by have := h.1; unfold lD at this; omega)) (by decide))
 exact this.mono fun e w' h => aCC hS h
theorem aWP (h : bl (lD ng la ex).m <= 1000000 /\ ae (lD ng la ex) <= 1000000) : AC Tryz.prog (LitW xa na ca la) 66 [.lit (.slice xa na ca)] (.lit (.int .i64 ((bl (valN la) : Nat) : Int))) := by
 refine ⟨by kernel_rfl, fun S β w vs hI hS h => ?_⟩
 simp only [RepL, Rep, dyS] at h
 obtain ⟨_, _, rfl, rfl, rfl⟩ := h
 have := aKr 0 _ la w hI.2 (Nat.le_trans (aDt (n := valN la) (k := 15625) (by have := h.1; unfold lD at this; omega)) (by decide))
 exact this.mono fun e w' ⟨h1, h2⟩ => ⟨_, h1, (by simp only [Rep] <;> rfl), h2⟩
theorem aV6 (h : bl (lD ng la ex).m <= 1000000 /\ ae (lD ng la ex) <= 1000000) : AC Tryz.prog (LitW xa na ca la) 69 [.lit (.bool ng), .lit (.slice xa na ca), .lit (.int .i64 ex)] (dyV (oneD (lD ng la ex))) := by
 refine ⟨by kernel_rfl, fun S β w vs hI hS h => ?_⟩
 simp only [RepL, Rep, dyS] at h
 obtain ⟨_, _, rfl, rfl, _, _, rfl, rfl, _, _, rfl, rfl, rfl⟩ := h
 have := aJB 0 ng _ la ex w hI.2 (Nat.le_trans (aDt (n := valN la) (k := 15625) (by have := h.1; unfold lD at this; omega)) (by decide)) (by have := h.2; unfold ae lD at this; simp only at this; omega) (by have := h.2; unfold ae lD at this; simp only at this; omega)
 exact this.mono fun e w' h => aJm (d := aAL ng (valN la) ex) hS h
theorem aTm {xa : Option Addr} {na ca : Nat} {la : List Nat} (ng : Bool) (ex : Int) : AC Tryz.prog (LitW xa na ca la) 107 [.lit (.slice xa na ca)] (.lit (.bool (decide (1024 < (limbsOf (valN la)).length)))) := by
 exact AC.lit (by kernel_rfl) fun h1 h2 => (aOo la h1 h2).litArg
theorem aWB (h : bl (lD ng la ex).m <= 1000000 /\ ae (lD ng la ex) <= 1000000) : AC Tryz.prog (LitW xa na ca la) 64 [dyS ng xa na ca ex] (dyV (oneD (lD ng la ex))) := by
 have h1 := aWC (la := la) (xa := xa) (na := na) (ca := ca) ng ex h
 generalize oneD (lD ng la ex) = x at *
 refine aAd Tryz.func64 rfl (by kernel_rfl) aAP Tryz.mixed rfl rfl (by kernel_rfl) ?_
 simp only [aAl, Tryz.ntmps64, dyV, ivV, fxV, fxV, dyS, lD]
 refine aAa fun K1 g1 => ?_
 refine aAb fun os => ?_
 try simp (disch := omega) only [xq, simprocAttr, dyV, ivV, fxV, fxV, dyS, lD]
 refine g1 _ ?_
 refine aAa fun K2 g2 => ?_
 refine aAb fun os => ?_
 try simp (disch := omega) only [xq, simprocAttr, dyV, ivV, fxV, fxV, dyS, lD]
 refine cxo (h1) ?_
 try simp (disch := omega) only [xq, simprocAttr, dyV, ivV, fxV, fxV, dyS, lD]
 refine g2 _ ?_
 refine aAe ?_
 simp only [endX, resX, resV, Tryz.results64]
 try simp (disch := omega) only [xq, simprocAttr, dyV, ivV, fxV, fxV, dyS, lD]
 first | done | rfl
theorem aWA : AC Tryz.prog (LitW xa na ca la) 116 [dyS ng xa na ca ex] (.lit (.int .i64 (aAK (lD ng la ex)))) := by
 have h1 := aUz (la := la) (xa := xa) (na := na) (ca := ca) ng ex
 have hr : aAK (lD ng la ex) = if (lD ng la ex).m = 0 then 0 else if ng then -1 else 1 := rfl
 rw [hr]
 clear hr
 generalize (lD ng la ex).m = m at *
 refine aAd Tryz.func116 rfl (by kernel_rfl) aAP Tryz.mixed rfl rfl (by kernel_rfl) ?_
 simp only [aAl, Tryz.ntmps116, dyV, ivV, fxV, fxV, dyS, lD]
 repeat' first
  | refine aAa fun K g => ?_
  | refine goK (by assumption) ?_
  | refine aAv ?_
  | ((first | refine aAk ?_ | refine aAe ?_) <;> try simp only [aAm, aAg, reduceIte, Nat.reduceEqDiff])
  | ((first
  | refine aAU rfl fun os => ?_
  | refine cxo (h1) ?_
  | simp only [endX, resX, resV, Tryz.results116]) <;> try (simp (disch := omega) only [xq, simprocAttr, dyV, ivV, fxV, fxV, dyS, lD]))
  | (refine aAf (by first | rfl | assumption) (fun c => ?_) (fun c => ?_) <;> first | exact absurd c (by decide) | ((try rw [c]); try simp only [xn] at c))
  | (simp [*]
     done)
theorem aV1 : AC Tryz.prog (LitW xa na ca la) 106 [dyS ng xa na ca ex] (.lit (.bool (aAT (lD ng la ex)))) := by
 have h1 := aWD (la := la) (xa := xa) (na := na) (ca := ca) ng ex
 generalize aAT (lD ng la ex) = q at *
 refine aAd Tryz.func106 rfl (by kernel_rfl) aAP Tryz.mixed rfl rfl (by kernel_rfl) ?_
 simp only [aAl, Tryz.ntmps106, dyV, ivV, fxV, fxV, dyS, lD]
 refine aAa fun K1 g1 => ?_
 refine aAb fun os => ?_
 try simp (disch := omega) only [xq, simprocAttr, dyV, ivV, fxV, fxV, dyS, lD]
 refine g1 _ ?_
 refine aAa fun K2 g2 => ?_
 refine aAb fun os => ?_
 try simp (disch := omega) only [xq, simprocAttr, dyV, ivV, fxV, fxV, dyS, lD]
 refine cxo (h1) ?_
 try simp (disch := omega) only [xq, simprocAttr, dyV, ivV, fxV, fxV, dyS, lD]
 refine g2 _ ?_
 refine aAe ?_
 simp only [endX, resX, resV, Tryz.results106]
 try simp (disch := omega) only [xq, simprocAttr, dyV, ivV, fxV, fxV, dyS, lD]
 first | done | rfl
theorem aLo : AC Tryz.prog (LitW xa na ca la) 63 [dyS ng xa na ca ex] (.lit (.int .i64 (if aAT (lD ng la ex) then 0 else 2))) := by
 have h1 := aV1 (la := la) (xa := xa) (na := na) (ca := ca) ng ex
 generalize aAT (lD ng la ex) = q at *
 refine aAd Tryz.func63 rfl (by kernel_rfl) aAP Tryz.mixed rfl rfl (by kernel_rfl) ?_
 simp only [aAl, Tryz.ntmps63, dyV, ivV, fxV, fxV, dyS, lD]
 repeat' first
  | refine aAa fun K g => ?_
  | refine goK (by assumption) ?_
  | ((first | refine aAk ?_ | refine aAe ?_) <;> try simp only [aAm, aAg, reduceIte, Nat.reduceEqDiff])
  | ((first
  | refine aAU rfl fun os => ?_
  | refine cxo (h1) ?_
  | simp only [endX, resX, resV, Tryz.results63]) <;> try (simp (disch := omega) only [xq, simprocAttr, dyV, ivV, fxV, fxV, dyS, lD]))
  | (refine aAf (by first | rfl | assumption) (fun c => ?_) (fun c => ?_) <;> first | exact absurd c (by decide) | ((try rw [c]); try simp only [xn] at c))
  | (simp [*]
     done)
theorem aWE (b : D) (h : bl (lD ng la ex).m <= 1000000 /\ ae (lD ng la ex) <= 1000000) (h2 : bl b.m <= 1000000 /\ ae b <= 1000000) : AC Tryz.prog (LitW xa na ca la) 87 [dyS ng xa na ca ex, dyV b] (.lit (.int .i64 (cmpD (lD ng la ex) b))) := by
 generalize hd : lD ng la ex = a at *
 have hr : cmpP a b = if aAK a < aAK b then -1 else if aAK b < aAK a then 1 else if aAK a = 0 then 0 else
   if topD a ≠ topD b then (if topD a < topD b then -aAK a else aAK a) else aAK a * cmpN (alA (oneD a) (oneD b)) (alB (oneD a) (oneD b)) := rfl
 rw [<- aNL]
 have ta := aXv (xa := xa) (na := na) (ca := ca) (la := la) ng ex (by rw [hd]; exact h)
 have tb := aHn b (by omega)
 have sa := aWA (xa := xa) (na := na) (ca := ca) (la := la) ng ex
 have sb := aKJ b
 have ha := aWB (xa := xa) (na := na) (ca := ca) (la := la) ng ex (by rw [hd]; exact h)
 rw [hd] at ta sa ha
 have ua := aIe a
 have o1 := aFl (d := a) (by omega) (by omega)
 have o2 := aFl (d := b) (by omega) (by omega)
 have hb := aE8 b (by omega)
 have hm : topD a = topD b -> aAK a ≠ 0 -> aAK b ≠ 0 -> AC Tryz.prog TabW 88 [dyV (oneD a), dyV (oneD b)] (.tup [.num (alA (oneD a) (oneD b)), .num (alB (oneD a) (oneD b)), .lit (.int .i64 (min (oneD a).e (oneD b).e))]) := fun ht h1 h2 => by
   have n1 : a.m ≠ 0 := fun e => h1 (by unfold aAK; rw [if_pos e])
   have n2 : b.m ≠ 0 := fun e => h2 (by unfold aAK; rw [if_pos e])
   have h3 := aIc ht n1 n2
   exact aGv (oneD a) (oneD b) o1.2.1 o2.2.1 (by omega) (by omega)
 rw [hr]
 clear hd
 generalize alA (oneD a) (oneD b) = X at *
 generalize alB (oneD a) (oneD b) = Y at *
 generalize min (oneD a).e (oneD b).e = M at *
 generalize oneD a = x at *
 generalize oneD b = y at *
 generalize aAK a = s at *
 generalize aAK b = t at *
 have tj := tb.2
 generalize topD a = i at *
 generalize topD b = j at *
 have ub := aOH X Y
 have us : -1 <= s * cmpN X Y /\ s * cmpN X Y <= 1 := by rcases ua with h | h | h <;> rcases ub with g | g | g <;> rw [h, g] <;> decide
 refine aAd Tryz.func87 rfl (by kernel_rfl) aAP Tryz.mixed rfl rfl (by kernel_rfl) ?_
 simp only [aAl, Tryz.ntmps87, dyV, ivV, fxV, fxV, dyS, lD]
 repeat' first
  | refine aAa fun K g => ?_
  | refine goK (by assumption) ?_
  | refine aAv ?_
  | ((first | refine aAk ?_ | refine aAe ?_) <;> try simp only [aAm, aAg, reduceIte, Nat.reduceEqDiff])
  | ((first
  | refine aAU rfl fun os => ?_
  | refine aCR rfl (by kernel_rfl) fun os => ?_
  | refine cxd (sa) ?_
  | refine cxd (AC.weak (sb) fun _ q => q.1.1) ?_
  | refine cxd (ta) ?_
  | refine cxd (AC.weak (tb.1) fun _ q => q.1.1) ?_
  | refine cxd (ha) ?_
  | refine cxd (AC.weak (hb.1) fun _ q => q.1.1) ?_
  | refine cxd (AC.weak (hm (by omega) (by omega) (by omega)) fun _ q => q.1.1) ?_
  | refine cxo (AC.weak (aNr _ _) fun _ q => q.1.1) ?_
  | simp only [endX, resX, resV, Tryz.results87]) <;> try (simp (disch := omega) only [xq, simprocAttr, dyV, ivV, fxV, fxV, dyS, lD, Int.zero_sub]))
  | (refine aAf (by first | rfl | assumption) (fun c => ?_) (fun c => ?_) <;> first | exact absurd c (by decide) | ((try rw [c]); try simp only [xn] at c))
  | (repeat (first | rw [if_pos (by first | assumption | omega)] | rw [if_neg (by first | assumption | omega)])
     first | done | rfl
     done)
theorem aRX (h : bl (lD ng la ex).m <= 1000000 /\ ae (lD ng la ex) <= 1000000) : AC Tryz.prog (LitW xa na ca la) 18 [dyS ng xa na ca ex] (.lit (.bool ((lD ng la ex).m == 0))) := by
 have h1 := aVA (la := la) (xa := xa) (na := na) (ca := ca) ng ex h
 have hv : (lD ng la ex).m = valN la := rfl
 rw [hv]
 clear hv h
 generalize valN la = m at *
 refine aAd Tryz.func18 rfl (by kernel_rfl) aAP Tryz.mixed rfl rfl (by kernel_rfl) ?_
 simp only [aAl, Tryz.ntmps18, dyV, ivV, fxV, fxV, dyS, lD]
 refine aAa fun K1 g1 => ?_
 refine aAb fun os => ?_
 try simp (disch := omega) only [xq, simprocAttr, dyV, ivV, fxV, fxV, dyS, lD, aA2]
 refine g1 _ ?_
 refine aAa fun K2 g2 => ?_
 refine aAb fun os => ?_
 try simp (disch := omega) only [xq, simprocAttr, dyV, ivV, fxV, fxV, dyS, lD, aA2]
 refine cxo (h1) ?_
 try simp (disch := omega) only [xq, simprocAttr, dyV, ivV, fxV, fxV, dyS, lD, aA2]
 refine g2 _ ?_
 refine aAe ?_
 simp only [endX, resX, resV, Tryz.results18]
 try simp (disch := omega) only [xq, simprocAttr, dyV, ivV, fxV, fxV, dyS, lD, aA2]
 first | done | rfl
theorem aUM (h : bl (lD ng la ex).m <= 1000000 /\ ae (lD ng la ex) <= 1000000) : AC Tryz.prog (LitW xa na ca la) 71 [dyS ng xa na ca ex] (dyV (oneD (lD ng la ex))) := by
 have h1 := aV6 (la := la) (xa := xa) (na := na) (ca := ca) ng ex h
 generalize oneD (lD ng la ex) = x at *
 refine aAd Tryz.func71 rfl (by kernel_rfl) aAP Tryz.mixed rfl rfl (by kernel_rfl) ?_
 simp only [aAl, Tryz.ntmps71, dyV, ivV, fxV, fxV, dyS, lD]
 refine aAa fun K1 g1 => ?_
 refine aAb fun os => ?_
 try simp (disch := omega) only [xq, simprocAttr, dyV, ivV, fxV, fxV, dyS, lD]
 refine g1 _ ?_
 refine aAa fun K2 g2 => ?_
 refine aAb fun os => ?_
 try simp (disch := omega) only [xq, simprocAttr, dyV, ivV, fxV, fxV, dyS, lD]
 refine cxo (h1) ?_
 try simp (disch := omega) only [xq, simprocAttr, dyV, ivV, fxV, fxV, dyS, lD]
 refine g2 _ ?_
 refine aAe ?_
 simp only [endX, resX, resV, Tryz.results71]
 try simp (disch := omega) only [xq, simprocAttr, dyV, ivV, fxV, fxV, dyS, lD]
 first | done | rfl
theorem aV2 (h : bl (lD ng la ex).m <= 1000000 /\ ae (lD ng la ex) <= 1000000) : AC Tryz.prog (LitW xa na ca la) 70 [dyS ng xa na ca ex] (.lit (.int .i64 (aAK (lD ng la ex)))) := by
 have h1 := aRX (la := la) (xa := xa) (na := na) (ca := ca) ng ex h
 have hr : aAK (lD ng la ex) = if (lD ng la ex).m = 0 then 0 else if ng then -1 else 1 := rfl
 rw [hr]
 clear hr h
 generalize (lD ng la ex).m = m at *
 refine aAd Tryz.func70 rfl (by kernel_rfl) aAP Tryz.mixed rfl rfl (by kernel_rfl) ?_
 simp only [aAl, Tryz.ntmps70, dyV, ivV, fxV, fxV, dyS, lD]
 repeat' first
  | refine aAa fun K g => ?_
  | refine goK (by assumption) ?_
  | refine aAv ?_
  | ((first | refine aAk ?_ | refine aAe ?_) <;> try simp only [aAm, aAg, reduceIte, Nat.reduceEqDiff])
  | ((first
  | refine aAU rfl fun os => ?_
  | refine cxo (h1) ?_
  | simp only [endX, resX, resV, Tryz.results70]) <;> try (simp (disch := omega) only [xq, simprocAttr, dyV, ivV, fxV, fxV, dyS, lD]))
  | (refine aAf (by first | rfl | assumption) (fun c => ?_) (fun c => ?_) <;> first | exact absurd c (by decide) | ((try rw [c]); try simp only [xn] at c))
  | (simp [*]
     done)
theorem aUL (h : bl (lD ng la ex).m <= 1000000 /\ ae (lD ng la ex) <= 1000000) : AC Tryz.prog (LitW xa na ca la) 19 [dyS ng xa na ca ex] (.lit (.int .i64 (topD (lD ng la ex)))) := by
 have h1 := aWP (la := la) (xa := xa) (na := na) (ca := ca) ng ex h
 have hr : topD (lD ng la ex) = ex + ((bl (valN la) : Nat) : Int) - 1 := rfl
 rw [hr]
 have g1 : bl (valN la) <= 1000000 := h.1
 have g2 : ex.natAbs <= 1000000 := h.2
 clear hr h
 generalize bl (valN la) = k at *
 refine aAd Tryz.func19 rfl (by kernel_rfl) aAP Tryz.mixed rfl rfl (by kernel_rfl) ?_
 simp only [aAl, Tryz.ntmps19, dyV, ivV, fxV, fxV, dyS, lD]
 refine aAa fun K1 g1 => ?_
 refine aAb fun os => ?_
 try simp (disch := omega) only [xq, simprocAttr, dyV, ivV, fxV, fxV, dyS, lD]
 refine g1 _ ?_
 refine aAa fun K2 g2 => ?_
 refine aAB (by kernel_rfl) fun os => ?_
 try simp (disch := omega) only [xq, simprocAttr, dyV, ivV, fxV, fxV, dyS, lD]
 refine cxd (h1) ?_
 try simp (disch := omega) only [xq, simprocAttr, dyV, ivV, fxV, fxV, dyS, lD]
 refine g2 _ ?_
 refine aAe ?_
 simp only [endX, resX, resV, Tryz.results19]
 try simp (disch := omega) only [xq, simprocAttr, dyV, ivV, fxV, fxV, dyS, lD]
 first | done | rfl
theorem aC3 : AC Tryz.prog (LitW xa na ca la) 65 [dyS ng xa na ca ex] (.lit (.bool (aAT (lD ng la ex)))) := by
 have e1 : ∀ P Q R : Prop, [Decidable P] -> [Decidable Q] -> [Decidable R] -> decide (P /\ Q /\ R) = (decide P && (decide Q && decide R)) := fun P Q R _ _ _ => by simp
 have hr : aAT (lD ng la ex) = (decide ((limbsOf (valN la)).length <= 1024) && (decide (-32768 <= ex) && decide (ex <= 32768))) := e1 _ _ _
 rw [hr]
 clear hr
 have e2 : decide ((limbsOf (valN la)).length <= 1024) = !decide (1024 < (limbsOf (valN la)).length) := by rw [<- decide_not]; exact decide_eq_decide.2 (by omega)
 rw [e2]
 have h1 := aTm (la := la) (xa := xa) (na := na) (ca := ca) ng ex
 generalize decide (1024 < (limbsOf (valN la)).length) = g at *
 refine aAd Tryz.func65 rfl (by kernel_rfl) aAP Tryz.mixed rfl rfl (by kernel_rfl) ?_
 simp only [aAl, Tryz.ntmps65, dyV, ivV, fxV, fxV, dyS, lD]
 repeat' first
  | refine aAa fun K g => ?_
  | refine goK (by assumption) ?_
  | (refine aAe ?_; try simp only [aAm, aAg, reduceIte, Nat.reduceEqDiff])
  | ((first
  | refine aAU rfl fun os => ?_
  | refine aB7 ?_
  | refine cxo (h1) ?_
  | simp only [endX, resX, resV, Tryz.results65]) <;> try (simp (disch := omega) only [xq, simprocAttr, dyV, ivV, fxV, fxV, dyS, lD]))
  | (refine gx (fun c => ?_) (fun c => ?_) <;> first | exact absurd c (by decide) | ((try rw [c]); (try simp only [xn] at c); try (simp (disch := omega) only [xq, simprocAttr, dyV, ivV, fxV, fxV, dyS, lD])))
  | (first | (simp_all; done) | simp [*]
     done)
theorem aV3 (b : D) (h : bl (lD ng la ex).m <= 1000000 /\ ae (lD ng la ex) <= 1000000) (h2 : bl b.m <= 1000000 /\ ae b <= 1000000) : AC Tryz.prog (LitW xa na ca la) 36 [dyS ng xa na ca ex, dyV b] (dyV (addD (lD ng la ex) b)) := by
 have h1 := aUM (xa := xa) (na := na) (ca := ca) (la := la) ng ex h
 generalize hd : lD ng la ex = a at *
 have s1 := aBO a
 have o2 := aCw b (by omega)
 have hk := aKX (a := a) (b := b)
 rw [aNR]
 clear hd
 generalize oneD a = x at *
 generalize oneD b = y at *
 have fx : ae x = x.e.natAbs := rfl
 have fy : ae y = y.e.natAbs := rfl
 have b1 := aD2 x.m (x.e - min x.e y.e).toNat
 have b2 := aD2 y.m (y.e - min x.e y.e).toNat
 have b3 := aCr (x.m * 2 ^ (x.e - min x.e y.e).toNat) (y.m * 2 ^ (y.e - min x.e y.e).toNat)
 have b4 := aFP (x.m * 2 ^ (x.e - min x.e y.e).toNat) (y.m * 2 ^ (y.e - min x.e y.e).toNat)
 have b5 := aFP (y.m * 2 ^ (y.e - min x.e y.e).toNat) (x.m * 2 ^ (x.e - min x.e y.e).toNat)
 have hX := aED x.m (x.e - min x.e y.e) (aBf (by omega)) (by omega) (by omega)
 have hY := aED y.m (y.e - min x.e y.e) (aBf (by omega)) (by omega) (by omega)
 have zx := aAG (n := x.m)
 have zy := aAG (n := y.m)
 generalize x.m * 2 ^ (x.e - min x.e y.e).toNat = X at *
 generalize y.m * 2 ^ (y.e - min x.e y.e).toNat = Y at *
 have hc := @aLr X Y
 refine aAd Tryz.func36 rfl (by kernel_rfl) aAP Tryz.mixed rfl rfl (by kernel_rfl) ?_
 simp only [aAl, Tryz.ntmps36, dyV, ivV, fxV, fxV, dyS, lD]
 repeat' first
  | refine aAa fun K g => ?_
  | refine goK (by assumption) ?_
  | refine aAv ?_
  | ((first | refine aAk ?_ | refine aAe ?_) <;> try simp only [aAm, aAg, reduceIte, Nat.reduceEqDiff])
  | ((first
  | refine aAU rfl fun os => ?_
  | refine aCR rfl (by kernel_rfl) fun os => ?_
  | refine cxd (h1) ?_
  | refine cxd (AC.weak (o2.1) fun _ q => q.1.1) ?_
  | refine cxo (AC.weak (hX) fun _ q => q.1.1) ?_
  | refine cxo (AC.weak (hY) fun _ q => q.1.1) ?_
  | refine cxd (AC.weak (aD9 _ _ (aBf (by omega)) (aBf (by omega))) fun _ q => q.1.1) ?_
  | refine cxd (AC.weak (aBZ _ _ _ (aBf (by omega)) (aD4 (by omega))) fun _ q => q.1.1) ?_
  | refine cxo (AC.weak (aOp _ _) fun _ q => q.1.1) ?_
  | refine cxd (AC.weak (aKY _ _ (aBf (by omega)) (aBf (by omega)) (by omega)) fun _ q => q.1.1) ?_
  | simp only [endX, resX, resV, Tryz.results36]) <;> try (simp (disch := omega) only [xq, simprocAttr, dyV, ivV, fxV, fxV, dyS, lD, minR, aA2]))
  | (refine aAf (by first | rfl | assumption) (fun c => ?_) (fun c => ?_) <;> first | exact absurd c (by decide) | ((try rw [c]); try simp only [xn] at c))
  | (repeat (first | rw [if_pos (by first | assumption | omega)] | rw [if_neg (by first | assumption | omega)])
     first | done | rfl
     done)
theorem aV4 (b : D) (h : bl (lD ng la ex).m <= 400000 /\ ae (lD ng la ex) <= 400000) (h2 : bl b.m <= 400000 /\ ae b <= 400000) : AC Tryz.prog (LitW xa na ca la) 24 [dyS ng xa na ca ex, dyV b] (dyV (addD (lD ng la ex) (negD b))) := by
 have hn := aCF b (by omega)
 have hp := aV3 (xa := xa) (na := na) (ca := ca) (la := la) ng ex (negD b) (by omega) (by omega)
 generalize negD b = nb at *
 generalize addD (lD ng la ex) nb = R at *
 refine aAd Tryz.func24 rfl (by kernel_rfl) aAP Tryz.mixed rfl rfl (by kernel_rfl) ?_
 simp only [aAl, Tryz.ntmps24, dyV, ivV, fxV, fxV, dyS, lD]
 refine aAa fun K1 g1 => ?_
 refine aAb fun os => ?_
 try simp (disch := omega) only [xq, simprocAttr, dyV, ivV, fxV, fxV, dyS, lD]
 refine g1 _ ?_
 refine aAa fun K2 g2 => ?_
 refine aAB (by kernel_rfl) fun os => ?_
 try simp (disch := omega) only [xq, simprocAttr, dyV, ivV, fxV, fxV, dyS, lD]
 refine cxd (AC.weak (hn.1) fun _ q => q.1.1) ?_
 try simp (disch := omega) only [xq, simprocAttr, dyV, ivV, fxV, fxV, dyS, lD]
 refine cxd (hp) ?_
 try simp (disch := omega) only [xq, simprocAttr, dyV, ivV, fxV, fxV, dyS, lD]
 refine g2 _ ?_
 refine aAe ?_
 simp only [endX, resX, resV, Tryz.results24]
 try simp (disch := omega) only [xq, simprocAttr, dyV, ivV, fxV, fxV, dyS, lD]
 first | done | rfl
theorem aGi (b : D) (h : bl (lD ng la ex).m <= 400000 /\ ae (lD ng la ex) <= 400000) (h2 : bl b.m <= 400000 /\ ae b <= 400000) : AC Tryz.prog (LitW xa na ca la) 26 [dyS ng xa na ca ex, dyV b] (.lit (.int .i64 (cmpD (lD ng la ex) b))) := by
 have hl := aV4 (xa := xa) (na := na) (ca := ca) (la := la) ng ex b h h2
 have ta := aUL (xa := xa) (na := na) (ca := ca) (la := la) ng ex (by omega)
 have sa := aV2 (xa := xa) (na := na) (ca := ca) (la := la) ng ex (by omega)
 generalize hd : lD ng la ex = a at *
 have tb := aGf b (by omega)
 have sb := aEs b (by omega)
 have ua := aIe a
 have uc := aKk a b
 have nz := aEl b
 have z1 := aEM a (negD b)
 rw [<- aUC]
 clear hd
 generalize addD a (negD b) = df at *
 have sd := aEs df (by omega)
 generalize aAK a = s at *
 generalize aAK b = t at *
 have tj := tb.2
 generalize topD a = i at *
 generalize topD b = j at *
 refine aAd Tryz.func26 rfl (by kernel_rfl) aAP Tryz.mixed rfl rfl (by kernel_rfl) ?_
 simp only [aAl, Tryz.ntmps26, dyV, ivV, fxV, fxV, dyS, lD]
 repeat' first
  | refine aAa fun K g => ?_
  | refine goK (by assumption) ?_
  | refine aAv ?_
  | ((first | refine aAk ?_ | refine aAe ?_) <;> try simp only [aAm, aAg, reduceIte, Nat.reduceEqDiff])
  | ((first
  | refine aAU rfl fun os => ?_
  | refine aCR rfl (by kernel_rfl) fun os => ?_
  | refine cxd (sa) ?_
  | refine cxd (AC.weak (sb) fun _ q => q.1.1) ?_
  | refine cxd (ta) ?_
  | refine cxd (AC.weak (tb.1) fun _ q => q.1.1) ?_
  | refine cxo (hl) ?_
  | refine cxo (AC.weak (sd) fun _ q => q.1.1) ?_
  | simp only [endX, resX, resV, Tryz.results26]) <;> try (simp (disch := omega) only [xq, simprocAttr, dyV, ivV, fxV, fxV, dyS, lD, Int.zero_sub]))
  | (refine aAf (by first | rfl | assumption) (fun c => ?_) (fun c => ?_) <;> first | exact absurd c (by decide) | ((try rw [c]); try simp only [xn] at c))
  | (repeat (first | rw [if_pos (by first | assumption | omega)] | rw [if_neg (by first | assumption | omega)])
     first | done | rfl
     done)
theorem aLp (h : bl (lD ng la ex).m <= 1000000 /\ ae (lD ng la ex) <= 1000000) : AC Tryz.prog (LitW xa na ca la) 135 [dyS ng xa na ca ex] (ivV (aAn (lD ng la ex))) := by
 have h1 := aUM (la := la) (xa := xa) (na := na) (ca := ca) ng ex h
 have hr : aAn (lD ng la ex) = ⟨oneD (lD ng la ex), oneD (lD ng la ex)⟩ := rfl
 rw [hr]
 clear hr
 generalize oneD (lD ng la ex) = x at *
 refine aAd Tryz.func135 rfl (by kernel_rfl) aAP Tryz.mixed rfl rfl (by kernel_rfl) ?_
 simp only [aAl, Tryz.ntmps135, dyV, ivV, fxV, fxV, dyS, lD]
 refine aAa fun K1 g1 => ?_
 refine aAb fun os => ?_
 try simp (disch := omega) only [xq, simprocAttr, dyV, ivV, fxV, fxV, dyS, lD]
 refine g1 _ ?_
 refine aAa fun K2 g2 => ?_
 refine aAb fun os => ?_
 try simp (disch := omega) only [xq, simprocAttr, dyV, ivV, fxV, fxV, dyS, lD]
 refine cxo (h1) ?_
 try simp (disch := omega) only [xq, simprocAttr, dyV, ivV, fxV, fxV, dyS, lD]
 refine g2 _ ?_
 refine aAa fun K3 g3 => ?_
 refine aAb fun os => ?_
 try simp (disch := omega) only [xq, simprocAttr, dyV, ivV, fxV, fxV, dyS, lD]
 refine g3 _ ?_
 refine aAe ?_
 simp only [endX, resX, resV, Tryz.results135]
 try simp (disch := omega) only [xq, simprocAttr, dyV, ivV, fxV, fxV, dyS, lD]
 first | done | rfl
end
section
set_option maxRecDepth 10000
set_option maxHeartbeats 4000000
open Go.RowKit
variable {xa : Option Addr} {na ca : Nat} {la : List Nat} (ng : Bool) (ex : Int)
theorem aTE (k R : Int) (hR : 0 <= R /\ R <= 100000) (h : bl (lD ng la ex).m <= 1000000 /\ ae (lD ng la ex) <= 1000000) : AC Tryz.prog (LitW xa na ca la) 45 [aAj k R, dyS ng xa na ca ex] (.tup [.lit (.bool (!decide (cmpD (lD ng la ex) (intD (-R)) < 0) && decide (cmpD (lD ng la ex) (intD R) <= 0))), .lit (.bool (decide (cmpD (lD ng la ex) (intD (-R)) < 0)))]) := by
 have i1 := aBX (-R) (by omega)
 have i2 := aBX R (by omega)
 have q1 := aWE (xa := xa) (na := na) (ca := ca) (la := la) ng ex (intD (-R)) h (by omega)
 have q2 := aWE (xa := xa) (na := na) (ca := ca) (la := la) ng ex (intD R) h (by omega)
 generalize cmpD (lD ng la ex) (intD (-R)) = y1 at *
 generalize cmpD (lD ng la ex) (intD R) = y2 at *
 refine aAd Tryz.func45 rfl (by kernel_rfl) aAP Tryz.mixed rfl rfl (by kernel_rfl) ?_
 simp only [aAl, Tryz.ntmps45, dyV, ivV, fxV, fxV, dyS, lD, aAj]
 repeat' first
  | refine aAa fun K g => ?_
  | refine goK (by assumption) ?_
  | (refine aAe ?_; try simp only [aAm, aAg, reduceIte, Nat.reduceEqDiff])
  | ((first
  | refine aAU rfl fun os => ?_
  | refine aCR rfl (by kernel_rfl) fun os => ?_
  | refine aLC (by kernel_rfl) ?_
  | refine gd1 rfl rfl ?_
  | refine gd0 rfl rfl (by exact Nat.le_of_ble_eq_true rfl) ?_
  | refine cxd (AC.weak (i1.1) fun _ q => q.1.1) ?_
  | refine cxd (q1) ?_
  | refine cxd (AC.weak (i2.1) fun _ q => q.1.1) ?_
  | refine cxd (q2) ?_
  | simp only [endX, resX, resV, Tryz.results45]) <;> try (simp (disch := omega) only [xq, simprocAttr, dyV, ivV, fxV, fxV, dyS, lD, aAj, Int.zero_sub]))
  | ((first | refine gx (fun c => ?_) (fun c => ?_) | refine gdt rfl rfl rfl (fun c => ?_) (fun c => ?_)) <;> first | exact absurd c (by decide) | ((try rw [c]); (try simp only [xn] at c); try (simp (disch := omega) only [xq, simprocAttr, dyV, ivV, fxV, fxV, dyS, lD, aAj, Int.zero_sub])))
  | (simp [*]
     done)
theorem aXz (n : Nat) (k R : Int) (hb : AC Tryz.prog TabW 44 [.lit (.int .i64 ((n : Nat) : Int))] (.tup [aAj k R, .lit (.bool true)])) (hR : R = (aAo n : Int)) (hR2 : 0 <= R /\ R <= 100000) (hsc : ∀ (t : D) (w : Nat), 16 <= w /\ w <= 4100 -> bl t.m <= 1000000 /\ ae t <= 1000000 -> AC Tryz.prog TabW 54 [aAj k R, dyV t, .lit (.int .i64 ((w : Nat) : Int))] (ivV (aAt n t w))) (hf : aAT (lD ng la ex) = true) (p : Nat) (hp : 8 <= p /\ p <= 3968) : AC Tryz.prog (LitW xa na ca la) 16 [.lit (.int .i64 ((n : Nat) : Int)), dyS ng xa na ca ex, .lit (.int .i64 ((p : Nat) : Int))] (.tup [ivV (powV n (lD ng la ex) p).1, .lit (.int .i64 (powV n (lD ng la ex) p).2)]) := by
 have h0 := aLo (xa := xa) (na := na) (ca := ca) (la := la) ng ex
 rw [hf, if_pos rfl] at h0
 have hz := aCJ hf
 have hw : AC Tryz.prog (LitW xa na ca la) 45 [aAj k R, dyS ng xa na ca ex] (.tup [.lit (.bool (inB n (lD ng la ex))), .lit (.bool (aAR n (lD ng la ex)))]) := by
   have := aTE (xa := xa) (na := na) (ca := ca) (la := la) ng ex k R (by omega) (by omega)
   rw [hR] at this ⊢
   exact this
 have k1 : decide (((p : Nat) : Int) < 8) = false := decide_eq_false (by omega)
 have k2 : decide ((3968 : Int) < ((p : Nat) : Int)) = false := decide_eq_false (by omega)
 have i0 := aBX 1 (by omega)
 have i1 := i0.1
 have i2 := (aBS (intD 1) (by have := i0.2; omega)).1
 have q0 := aUz (xa := xa) (na := na) (ca := ca) (la := la) ng ex
 have o1 := aWB (xa := xa) (na := na) (ca := ca) (la := la) ng ex (by omega)
 generalize lD ng la ex = t at *
 have o2 := aBO t
 have s1 := hsc (oneD t) (p + 64) (by omega) (by omega)
 have e1 := aEo (aAt n (oneD t) (p + 64)) (p + 24) (by omega)
 have kp64 : ((p : Nat) : Int) + 64 = ((p + 64 : Nat) : Int) := rfl
 have kp24 : ((p : Nat) : Int) + 24 = ((p + 24 : Nat) : Int) := rfl
 have hr : powV n t p = if !inB n t then (aAp, 3) else if t.m == 0 then (aAn (intD 1), 0) else aDf false (aAt n (oneD t) (p + 64)) (p + 24) := rfl
 rw [hr]
 clear hr hsc
 generalize (t.m == 0) = zb at *
 generalize inB n t = ok at *
 generalize aAR n t = below at *
 generalize aDf false (aAt n (oneD t) (p + 64)) (p + 24) = E at *
 refine aAd Tryz.func16 rfl (by kernel_rfl) aAP Tryz.mixed rfl rfl (by kernel_rfl) ?_
 simp only [aAl, Tryz.ntmps16, dyV, ivV, fxV, fxV, dyS, lD, aAj]
 repeat' first
  | refine aAa fun K g => ?_
  | refine goK (by assumption) ?_
  | ((first | refine aAk ?_ | refine aAe ?_) <;> try simp only [aAm, aAg, reduceIte, Nat.reduceEqDiff])
  | ((first
  | refine aAU rfl fun os => ?_
  | refine aB7 ?_
  | refine aCR rfl (by kernel_rfl) fun os => ?_
  | refine cxo (AC.weak (hb) fun _ q => q.1.1) ?_
  | refine cxo (h0) ?_
  | refine cxo (hw) ?_
  | refine cxo (q0) ?_
  | refine cxo (AC.weak (i1) fun _ q => q.1.1) ?_
  | refine cxo (AC.weak (i2) fun _ q => q.1.1) ?_
  | refine cxd (o1) ?_
  | refine cxd (AC.weak (s1) fun _ q => q.1.1) ?_
  | refine cxd (AC.weak (e1) fun _ q => q.1.1) ?_
  | simp only [endX, resX, resV, Tryz.results16]) <;> try (simp (disch := omega) only [xq, simprocAttr, dyV, ivV, fxV, fxV, dyS, lD, aAj, k1, k2, kp64, kp24]))
  | (refine gx (fun c => ?_) (fun c => ?_) <;> first | exact absurd c (by decide) | ((try rw [c]); (try simp only [xn] at c); try (simp (disch := omega) only [xq, simprocAttr, dyV, ivV, fxV, fxV, dyS, lD, aAj, k1, k2, kp64, kp24])))
  | (refine aAf (by first | rfl | assumption) (fun c => ?_) (fun c => ?_) <;> first | exact absurd c (by decide) | ((try rw [c]); try simp only [xn] at c))
  | (simp only [*, Bool.not_true, Bool.not_false, Bool.false_eq_true, if_true, if_false, reduceIte, ivV, aAp, aAY] <;> rfl
     done)
theorem aVS (n : Nat) (k R : Int) (hb : AC Tryz.prog TabW 44 [.lit (.int .i64 ((n : Nat) : Int))] (.tup [aAj k R, .lit (.bool true)])) (p : Int) (hf : aAT (lD ng la ex) = false) : AC Tryz.prog (LitW xa na ca la) 16 [.lit (.int .i64 ((n : Nat) : Int)), dyS ng xa na ca ex, .lit (.int .i64 p)] (.tup [ivV aAp, .lit (.int .i64 2)]) := by
 have h0 := aLo (xa := xa) (na := na) (ca := ca) (la := la) ng ex
 rw [hf] at h0
 rw [if_neg (by decide)] at h0
 refine aAd Tryz.func16 rfl (by kernel_rfl) aAP Tryz.mixed rfl rfl (by kernel_rfl) ?_
 simp only [aAl, Tryz.ntmps16, dyV, ivV, fxV, fxV, dyS, lD, aAj]
 refine aAa fun K1 g1 => ?_
 refine aAb fun os => ?_
 try simp (disch := omega) only [xq, simprocAttr, dyV, ivV, fxV, fxV, dyS, lD, aAj]
 refine g1 _ ?_
 refine aAa fun K2 g2 => ?_
 refine aAb fun os => ?_
 try simp (disch := omega) only [xq, simprocAttr, dyV, ivV, fxV, fxV, dyS, lD, aAj]
 refine cxo (AC.weak (hb) fun _ q => q.1.1) ?_
 try simp (disch := omega) only [xq, simprocAttr, dyV, ivV, fxV, fxV, dyS, lD, aAj]
 refine g2 _ ?_
 refine aAa fun K3 g3 => ?_
 refine aAa fun K4 g4 => ?_
 refine aAx ?_
 try simp (disch := omega) only [xq, simprocAttr, dyV, ivV, fxV, fxV, dyS, lD, aAj]
 refine cxo (h0) ?_
 try simp (disch := omega) only [xq, simprocAttr, dyV, ivV, fxV, fxV, dyS, lD, aAj]
 refine g4 _ ?_
 refine aAf (by first | rfl | assumption) (fun c1 => ?_) (fun c1 => ?_)
 ·try simp only [xn] at c1
  refine aAa fun K5 g5 => ?_
  refine aAb fun os => ?_
  try simp (disch := omega) only [xq, simprocAttr, dyV, ivV, fxV, fxV, dyS, lD, aAj]
  refine g5 _ ?_
  refine aAe ?_
  simp only [aAm, aAg, reduceIte, Nat.reduceEqDiff]
  simp only [endX, resX, resV, Tryz.results16]
  try simp (disch := omega) only [xq, simprocAttr, dyV, ivV, fxV, fxV, dyS, lD, aAj]
  simp only [aAp, aAY, ivV] <;> rfl
 ·exact absurd c1 (by decide)
theorem aVR (n : Nat) (k R : Int) (hb : AC Tryz.prog TabW 44 [.lit (.int .i64 ((n : Nat) : Int))] (.tup [aAj k R, .lit (.bool true)])) (p : Int) (hf : aAT (lD ng la ex) = true) (hp : p < 8) : AC Tryz.prog (LitW xa na ca la) 16 [.lit (.int .i64 ((n : Nat) : Int)), dyS ng xa na ca ex, .lit (.int .i64 p)] (.tup [ivV aAp, .lit (.int .i64 2)]) := by
 have h0 := aLo (xa := xa) (na := na) (ca := ca) (la := la) ng ex
 rw [hf] at h0
 rw [if_pos rfl] at h0
 have k1 : decide (p < 8) = true := decide_eq_true hp
 refine aAd Tryz.func16 rfl (by kernel_rfl) aAP Tryz.mixed rfl rfl (by kernel_rfl) ?_
 simp only [aAl, Tryz.ntmps16, dyV, ivV, fxV, fxV, dyS, lD, aAj]
 refine aAa fun K1 g1 => ?_
 refine aAb fun os => ?_
 try simp (disch := omega) only [xq, simprocAttr, dyV, ivV, fxV, fxV, dyS, lD, aAj, k1]
 refine g1 _ ?_
 refine aAa fun K2 g2 => ?_
 refine aAb fun os => ?_
 try simp (disch := omega) only [xq, simprocAttr, dyV, ivV, fxV, fxV, dyS, lD, aAj, k1]
 refine cxo (AC.weak (hb) fun _ q => q.1.1) ?_
 try simp (disch := omega) only [xq, simprocAttr, dyV, ivV, fxV, fxV, dyS, lD, aAj, k1]
 refine g2 _ ?_
 refine aAa fun K3 g3 => ?_
 refine aAa fun K4 g4 => ?_
 refine aAx ?_
 try simp (disch := omega) only [xq, simprocAttr, dyV, ivV, fxV, fxV, dyS, lD, aAj, k1]
 refine cxo (h0) ?_
 try simp (disch := omega) only [xq, simprocAttr, dyV, ivV, fxV, fxV, dyS, lD, aAj, k1]
 refine g4 _ ?_
 refine aAf (by first | rfl | assumption) (fun c1 => ?_) (fun c1 => ?_)
 ·try simp only [xn] at c1
  refine aAa fun K5 g5 => ?_
  refine aAb fun os => ?_
  try simp (disch := omega) only [xq, simprocAttr, dyV, ivV, fxV, fxV, dyS, lD, aAj, k1]
  refine g5 _ ?_
  refine aAe ?_
  simp only [aAm, aAg, reduceIte, Nat.reduceEqDiff]
  simp only [endX, resX, resV, Tryz.results16]
  try simp (disch := omega) only [xq, simprocAttr, dyV, ivV, fxV, fxV, dyS, lD, aAj, k1]
  simp only [aAp, aAY, ivV] <;> rfl
 ·exact absurd c1 (by decide)
theorem aVQ (n : Nat) (k R : Int) (hb : AC Tryz.prog TabW 44 [.lit (.int .i64 ((n : Nat) : Int))] (.tup [aAj k R, .lit (.bool true)])) (p : Int) (hf : aAT (lD ng la ex) = true) (hp : 3968 < p) : AC Tryz.prog (LitW xa na ca la) 16 [.lit (.int .i64 ((n : Nat) : Int)), dyS ng xa na ca ex, .lit (.int .i64 p)] (.tup [ivV aAp, .lit (.int .i64 2)]) := by
 have h0 := aLo (xa := xa) (na := na) (ca := ca) (la := la) ng ex
 rw [hf] at h0
 rw [if_pos rfl] at h0
 have k1 : decide (p < 8) = false := decide_eq_false (by omega)
 have k2 : decide (3968 < p) = true := decide_eq_true hp
 refine aAd Tryz.func16 rfl (by kernel_rfl) aAP Tryz.mixed rfl rfl (by kernel_rfl) ?_
 simp only [aAl, Tryz.ntmps16, dyV, ivV, fxV, fxV, dyS, lD, aAj]
 refine aAa fun K1 g1 => ?_
 refine aAb fun os => ?_
 try simp (disch := omega) only [xq, simprocAttr, dyV, ivV, fxV, fxV, dyS, lD, aAj, k1, k2]
 refine g1 _ ?_
 refine aAa fun K2 g2 => ?_
 refine aAb fun os => ?_
 try simp (disch := omega) only [xq, simprocAttr, dyV, ivV, fxV, fxV, dyS, lD, aAj, k1, k2]
 refine cxo (AC.weak (hb) fun _ q => q.1.1) ?_
 try simp (disch := omega) only [xq, simprocAttr, dyV, ivV, fxV, fxV, dyS, lD, aAj, k1, k2]
 refine g2 _ ?_
 refine aAa fun K3 g3 => ?_
 refine aAa fun K4 g4 => ?_
 refine aAx ?_
 try simp (disch := omega) only [xq, simprocAttr, dyV, ivV, fxV, fxV, dyS, lD, aAj, k1, k2]
 refine cxo (h0) ?_
 try simp (disch := omega) only [xq, simprocAttr, dyV, ivV, fxV, fxV, dyS, lD, aAj, k1, k2]
 refine g4 _ ?_
 refine aAf (by first | rfl | assumption) (fun c1 => ?_) (fun c1 => ?_)
 ·try simp only [xn] at c1
  refine aAa fun K5 g5 => ?_
  refine aAb fun os => ?_
  try simp (disch := omega) only [xq, simprocAttr, dyV, ivV, fxV, fxV, dyS, lD, aAj, k1, k2]
  refine g5 _ ?_
  refine aAe ?_
  simp only [aAm, aAg, reduceIte, Nat.reduceEqDiff]
  simp only [endX, resX, resV, Tryz.results16]
  try simp (disch := omega) only [xq, simprocAttr, dyV, ivV, fxV, fxV, dyS, lD, aAj, k1, k2]
  simp only [aAp, aAY, ivV] <;> rfl
 ·exact absurd c1 (by decide)
theorem aVP (n : Int) (h : n ≠ 0 /\ n ≠ 2 /\ n ≠ 10) (p : Int) : AC Tryz.prog (LitW xa na ca la) 16 [.lit (.int .i64 n), dyS ng xa na ca ex, .lit (.int .i64 p)] (.tup [ivV aAp, .lit (.int .i64 2)]) := by
 refine aAd Tryz.func16 rfl (by kernel_rfl) aAP Tryz.mixed rfl rfl (by kernel_rfl) ?_
 simp only [aAl, Tryz.ntmps16, dyV, ivV, fxV, fxV, dyS, lD, aAj]
 refine aAa fun K1 g1 => ?_
 refine aAb fun os => ?_
 try simp (disch := omega) only [xq, simprocAttr, dyV, ivV, fxV, fxV, dyS, lD, aAj]
 refine g1 _ ?_
 refine aAa fun K2 g2 => ?_
 refine aAb fun os => ?_
 try simp (disch := omega) only [xq, simprocAttr, dyV, ivV, fxV, fxV, dyS, lD, aAj]
 refine cxo (AC.weak (aPz n h) fun _ q => q.1.1) ?_
 try simp (disch := omega) only [xq, simprocAttr, dyV, ivV, fxV, fxV, dyS, lD, aAj]
 refine g2 _ ?_
 refine aAa fun K3 g3 => ?_
 refine aAa fun K4 g4 => ?_
 refine aAx ?_
 try simp (disch := omega) only [xq, simprocAttr, dyV, ivV, fxV, fxV, dyS, lD, aAj]
 refine g4 _ ?_
 refine aAf (by first | rfl | assumption) (fun c1 => ?_) (fun c1 => ?_)
 ·try simp only [xn] at c1
  refine aAa fun K5 g5 => ?_
  refine aAb fun os => ?_
  try simp (disch := omega) only [xq, simprocAttr, dyV, ivV, fxV, fxV, dyS, lD, aAj]
  refine g5 _ ?_
  refine aAe ?_
  simp only [aAm, aAg, reduceIte, Nat.reduceEqDiff]
  simp only [endX, resX, resV, Tryz.results16]
  try simp (disch := omega) only [xq, simprocAttr, dyV, ivV, fxV, fxV, dyS, lD, aAj]
  simp only [*, Bool.not_true, Bool.not_false, Bool.false_eq_true, if_true, if_false, reduceIte, ivV, aAp, aAY] <;> rfl
 ·exact absurd c1 (by decide)
def aEu (n : Int) (t : D) (p : Int) : Iv × Int := if noP n t p then (aAp, 2) else powV n.toNat t p.toNat
def refP (n : Int) (t : D) (p : Int) : Iv × Int := if noP n t p then (aAp, 2) else powQ n.toNat t p.toNat
theorem aNz (n : Nat) (k R : Int) (hb : AC Tryz.prog TabW 44 [.lit (.int .i64 ((n : Nat) : Int))] (.tup [aAj k R, .lit (.bool true)])) (hR : R = (aAo n : Int)) (hR2 : 0 <= R /\ R <= 100000) (hn : n = 0 \/ n = 2 \/ n = 10) (hsc : ∀ (t : D) (w : Nat), 16 <= w /\ w <= 4100 -> bl t.m <= 1000000 /\ ae t <= 1000000 -> AC Tryz.prog TabW 54 [aAj k R, dyV t, .lit (.int .i64 ((w : Nat) : Int))] (ivV (aAt n t w))) (p : Int) : AC Tryz.prog (LitW xa na ca la) 16 [.lit (.int .i64 ((n : Nat) : Int)), dyS ng xa na ca ex, .lit (.int .i64 p)] (.tup [ivV (aEu n (lD ng la ex) p).1, .lit (.int .i64 (aEu n (lD ng la ex) p).2)]) := by
 unfold aEu
 by_cases h : noP n (lD ng la ex) p
 · rw [if_pos h]
   unfold noP at h
   rcases Bool.eq_false_or_eq_true (aAT (lD ng la ex)) with hf | hf
   · rw [hf] at h
     by_cases h8 : p < 8
     · exact aVR ng ex n k R hb p hf h8
     · exact aVQ ng ex n k R hb p hf (by simp at h; omega)
   · exact aVS ng ex n k R hb p hf
 · rw [if_neg h]
   unfold noP at h
   simp only [not_or, Bool.not_eq_false] at h
   obtain ⟨q, rfl⟩ := Int.eq_ofNat_of_zero_le (show 0 <= p by omega)
   exact aXz ng ex n k R hb hR hR2 hsc h.1 q (by omega)
theorem aTF (n p : Int) : AC Tryz.prog (LitW xa na ca la) 16 [.lit (.int .i64 n), dyS ng xa na ca ex, .lit (.int .i64 p)] (.tup [ivV (aEu n (lD ng la ex) p).1, .lit (.int .i64 (aEu n (lD ng la ex) p).2)]) := by
 by_cases hn : n = 0 \/ n = 2 \/ n = 10
 · rcases hn with e | e | e <;> subst e
   · exact aNz ng ex 0 0 11000 aJd rfl (by decide) (by decide) (fun t w h1 h2 => (aGH t w h1 h2).1) p
   · exact aNz ng ex 2 2 16000 aJc rfl (by decide) (by decide) (fun t w h1 h2 => (aGG t w h1 h2).1) p
   · exact aNz ng ex 10 3 4800 aGb rfl (by decide) (by decide) (fun t w h1 h2 => (aEG t w h1 h2).1) p
 · unfold aEu
   rw [if_pos (show noP n (lD ng la ex) p from .inr (.inr (.inr (by omega))))]
   exact aVP ng ex n (by omega) p
end
section
set_option maxRecDepth 10000
set_option maxHeartbeats 4000000
open Go.RowKit
variable {xa : Option Addr} {na ca : Nat} {la : List Nat} (ng : Bool) (ex : Int)
theorem aM9 (q : Nat) (h : bl (lD ng la ex).m <= 66000 /\ ae (lD ng la ex) <= 40000 /\ 8 <= q /\ q <= 5000) : AC Tryz.prog (LitW xa na ca la) 101 [.lit (.int .i64 0), dyS ng xa na ca ex, .lit (.int .i64 ((q : Nat) : Int))] (ivV (aAw 0 (lD ng la ex) q)) := by
 have h1 := aLp (xa := xa) (na := na) (ca := ca) (la := la) ng ex (by omega)
 have hsz := aEj (lD ng la ex)
 have hr : aAw 0 (lD ng la ex) q = aAn (lD ng la ex) := rfl
 rw [hr]
 clear hr
 generalize aAn (lD ng la ex) = t at *
 refine aAd Tryz.func101 rfl (by kernel_rfl) aAP Tryz.mixed rfl rfl (by kernel_rfl) ?_
 simp only [aAl, Tryz.ntmps101, dyV, ivV, fxV, fxV, dyS, lD, aAj]
 refine aAa fun K1 g1 => ?_
 refine aAb fun os => ?_
 try simp (disch := omega) only [xq, simprocAttr, dyV, ivV, fxV, fxV, dyS, lD, aAj]
 refine g1 _ ?_
 refine aAa fun K2 g2 => ?_
 refine aAa fun K3 g3 => ?_
 refine aAb fun os => ?_
 try simp (disch := omega) only [xq, simprocAttr, dyV, ivV, fxV, fxV, dyS, lD, aAj]
 refine g3 _ ?_
 refine aAv ?_
 refine aAa fun K4 g4 => ?_
 refine aAb fun os => ?_
 try simp (disch := omega) only [xq, simprocAttr, dyV, ivV, fxV, fxV, dyS, lD, aAj]
 refine g4 _ ?_
 refine aAf (by first | rfl | assumption) (fun c1 => ?_) (fun c1 => ?_)
 ·exact absurd c1 (by decide)
 ·try simp only [xn] at c1
  refine aAa fun K5 g5 => ?_
  refine aAb fun os => ?_
  try simp (disch := omega) only [xq, simprocAttr, dyV, ivV, fxV, fxV, dyS, lD, aAj]
  refine g5 _ ?_
  refine aAf (by first | rfl | assumption) (fun c2 => ?_) (fun c2 => ?_)
  ·exact absurd c2 (by decide)
  ·try simp only [xn] at c2
   refine aAk ?_
   simp only [aAm, aAg, reduceIte, Nat.reduceEqDiff]
   refine g2 _ ?_
   refine aAa fun K6 g6 => ?_
   refine aAb fun os => ?_
   try simp (disch := omega) only [xq, simprocAttr, dyV, ivV, fxV, fxV, dyS, lD, aAj]
   refine cxo (h1) ?_
   try simp (disch := omega) only [xq, simprocAttr, dyV, ivV, fxV, fxV, dyS, lD, aAj]
   refine g6 _ ?_
   refine aAe ?_
   simp only [endX, resX, resV, Tryz.results101]
   try simp (disch := omega) only [xq, simprocAttr, dyV, ivV, fxV, fxV, dyS, lD, aAj]
   first | done | rfl
theorem aS5 (p : Nat) (hin : (lD ng la ex).av <= (aAo 0 : Rat)) (hp : 8 <= p /\ p <= 4096) (h : bl (lD ng la ex).m <= 66000 /\ ae (lD ng la ex) <= 40000) : AC Tryz.prog (LitW xa na ca la) 60 [.lit (.int .i64 0), dyS ng xa na ca ex, .lit (.int .i64 ((p : Nat) : Int))] (ivV (rawQ 0 (lD ng la ex) p)) := by
 have h1 := aM9 (xa := xa) (na := na) (ca := ca) (la := la) ng ex (p + 64) (by omega)
 have h0 := (aFd (lD ng la ex) (p + 64) (by omega)).2
 obtain ⟨t1, t2⟩ := aCs (n := 0) (q := p + 64) (t := lD ng la ex) (by decide) (by omega) (by omega) hin
 have hr : rawQ 0 (lD ng la ex) p = ⟨(anyQ (aAw 0 (lD ng la ex) (p + 64)).lo (p + 8)).lo, (anyQ (aAw 0 (lD ng la ex) (p + 64)).hi (p + 8)).hi⟩ := rfl
 rw [hr]
 clear hr hin
 generalize aAw 0 (lD ng la ex) (p + 64) = u at *
 have hu := aBe u
 have h2 := aCj u.lo (p + 8) (by omega)
 have h3 := aCj u.hi (p + 8) (by omega)
 have hp8 : ((p : Nat) : Int) + 8 = ((p + 8 : Nat) : Int) := rfl
 have hp64 : ((p : Nat) : Int) + 64 = ((p + 64 : Nat) : Int) := rfl
 generalize anyQ u.lo (p + 8) = A at *
 generalize anyQ u.hi (p + 8) = Bq at *
 refine aAd Tryz.func60 rfl (by kernel_rfl) aAP Tryz.mixed rfl rfl (by kernel_rfl) ?_
 simp only [aAl, Tryz.ntmps60, dyV, ivV, fxV, fxV, dyS, lD, aAj]
 refine aAa fun K1 g1 => ?_
 refine aAb fun os => ?_
 try simp (disch := omega) only [xq, simprocAttr, dyV, ivV, fxV, fxV, dyS, lD, aAj, hp8, hp64]
 refine g1 _ ?_
 refine aAa fun K2 g2 => ?_
 refine aAb fun os => ?_
 try simp (disch := omega) only [xq, simprocAttr, dyV, ivV, fxV, fxV, dyS, lD, aAj, hp8, hp64]
 refine cxo (h1) ?_
 try simp (disch := omega) only [xq, simprocAttr, dyV, ivV, fxV, fxV, dyS, lD, aAj, hp8, hp64]
 refine g2 _ ?_
 refine aAa fun K3 g3 => ?_
 refine aAB (by kernel_rfl) fun os => ?_
 try simp (disch := omega) only [xq, simprocAttr, dyV, ivV, fxV, fxV, dyS, lD, aAj, hp8, hp64]
 refine cxd (AC.weak (h2.1) fun _ q => q.1.1) ?_
 try simp (disch := omega) only [xq, simprocAttr, dyV, ivV, fxV, fxV, dyS, lD, aAj, hp8, hp64]
 refine cxd (AC.weak (h3.1) fun _ q => q.1.1) ?_
 try simp (disch := omega) only [xq, simprocAttr, dyV, ivV, fxV, fxV, dyS, lD, aAj, hp8, hp64]
 refine g3 _ ?_
 refine aAe ?_
 simp only [endX, resX, resV, Tryz.results60]
 try simp (disch := omega) only [xq, simprocAttr, dyV, ivV, fxV, fxV, dyS, lD, aAj, hp8, hp64]
 first | done | rfl
theorem aM8 (q : Nat) (h : bl (lD ng la ex).m <= 66000 /\ ae (lD ng la ex) <= 40000 /\ 8 <= q /\ q <= 5000) : AC Tryz.prog (LitW xa na ca la) 101 [.lit (.int .i64 2), dyS ng xa na ca ex, .lit (.int .i64 ((q : Nat) : Int))] (ivV (aAw 2 (lD ng la ex) q)) := by
 have h1 := aLp (xa := xa) (na := na) (ca := ca) (la := la) ng ex (by omega)
 have hsz := aEj (lD ng la ex)
 have h2 := aLi (q + 32) (by omega)
 have h3 := aG5 (ln2Q (q + 32)) (q + 32) (by omega)
 have hq : ((q : Nat) : Int) + 32 = ((q + 32 : Nat) : Int) := rfl
 have hr : aAw 2 (lD ng la ex) q = aAF (aAn (lD ng la ex)) (aBt (ln2Q (q + 32)) (q + 32)) q := rfl
 rw [hr]
 clear hr
 generalize ln2Q (q + 32) = L at *
 generalize aAn (lD ng la ex) = t at *
 have h4 := aCP t (aBt L (q + 32)) q (by omega)
 refine aAd Tryz.func101 rfl (by kernel_rfl) aAP Tryz.mixed rfl rfl (by kernel_rfl) ?_
 simp only [aAl, Tryz.ntmps101, dyV, ivV, fxV, fxV, dyS, lD, aAj]
 repeat' first
  | refine aAa fun K g => ?_
  | refine goK (by assumption) ?_
  | refine aAv ?_
  | ((first | refine aAk ?_ | refine aAe ?_) <;> try simp only [aAm, aAg, reduceIte, Nat.reduceEqDiff])
  | ((first
  | refine aAU rfl fun os => ?_
  | refine cxo (h1) ?_
  | refine cxo (AC.weak (h2.1) fun _ q => q.1.1) ?_
  | refine cxo (AC.weak (h3.1) fun _ q => q.1.1) ?_
  | refine cxo (AC.weak (h4.1) fun _ q => q.1.1) ?_
  | simp only [endX, resX, resV, Tryz.results101]) <;> try (simp (disch := omega) only [xq, simprocAttr, dyV, ivV, fxV, fxV, dyS, lD, aAj, hq]))
  | (refine aAf (by first | rfl | assumption) (fun c => ?_) (fun c => ?_) <;> first | exact absurd c (by decide) | ((try rw [c]); try simp only [xn] at c))
  | (first | done | rfl
     done)
theorem aS4 (p : Nat) (hin : (lD ng la ex).av <= (aAo 2 : Rat)) (hp : 8 <= p /\ p <= 4096) (h : bl (lD ng la ex).m <= 66000 /\ ae (lD ng la ex) <= 40000) : AC Tryz.prog (LitW xa na ca la) 60 [.lit (.int .i64 2), dyS ng xa na ca ex, .lit (.int .i64 ((p : Nat) : Int))] (ivV (rawQ 2 (lD ng la ex) p)) := by
 have h1 := aM8 (xa := xa) (na := na) (ca := ca) (la := la) ng ex (p + 64) (by omega)
 have h0 := (aFc (lD ng la ex) (p + 64) (by omega)).2
 obtain ⟨t1, t2⟩ := aCs (n := 2) (q := p + 64) (t := lD ng la ex) (by decide) (by omega) (by omega) hin
 have hr : rawQ 2 (lD ng la ex) p = ⟨(anyQ (aAw 2 (lD ng la ex) (p + 64)).lo (p + 8)).lo, (anyQ (aAw 2 (lD ng la ex) (p + 64)).hi (p + 8)).hi⟩ := rfl
 rw [hr]
 clear hr hin
 generalize aAw 2 (lD ng la ex) (p + 64) = u at *
 have hu := aBe u
 have h2 := aCj u.lo (p + 8) (by omega)
 have h3 := aCj u.hi (p + 8) (by omega)
 have hp8 : ((p : Nat) : Int) + 8 = ((p + 8 : Nat) : Int) := rfl
 have hp64 : ((p : Nat) : Int) + 64 = ((p + 64 : Nat) : Int) := rfl
 generalize anyQ u.lo (p + 8) = A at *
 generalize anyQ u.hi (p + 8) = Bq at *
 refine aAd Tryz.func60 rfl (by kernel_rfl) aAP Tryz.mixed rfl rfl (by kernel_rfl) ?_
 simp only [aAl, Tryz.ntmps60, dyV, ivV, fxV, fxV, dyS, lD, aAj]
 refine aAa fun K1 g1 => ?_
 refine aAb fun os => ?_
 try simp (disch := omega) only [xq, simprocAttr, dyV, ivV, fxV, fxV, dyS, lD, aAj, hp8, hp64]
 refine g1 _ ?_
 refine aAa fun K2 g2 => ?_
 refine aAb fun os => ?_
 try simp (disch := omega) only [xq, simprocAttr, dyV, ivV, fxV, fxV, dyS, lD, aAj, hp8, hp64]
 refine cxo (h1) ?_
 try simp (disch := omega) only [xq, simprocAttr, dyV, ivV, fxV, fxV, dyS, lD, aAj, hp8, hp64]
 refine g2 _ ?_
 refine aAa fun K3 g3 => ?_
 refine aAB (by kernel_rfl) fun os => ?_
 try simp (disch := omega) only [xq, simprocAttr, dyV, ivV, fxV, fxV, dyS, lD, aAj, hp8, hp64]
 refine cxd (AC.weak (h2.1) fun _ q => q.1.1) ?_
 try simp (disch := omega) only [xq, simprocAttr, dyV, ivV, fxV, fxV, dyS, lD, aAj, hp8, hp64]
 refine cxd (AC.weak (h3.1) fun _ q => q.1.1) ?_
 try simp (disch := omega) only [xq, simprocAttr, dyV, ivV, fxV, fxV, dyS, lD, aAj, hp8, hp64]
 refine g3 _ ?_
 refine aAe ?_
 simp only [endX, resX, resV, Tryz.results60]
 try simp (disch := omega) only [xq, simprocAttr, dyV, ivV, fxV, fxV, dyS, lD, aAj, hp8, hp64]
 first | done | rfl
theorem aLY (q : Nat) (h : bl (lD ng la ex).m <= 66000 /\ ae (lD ng la ex) <= 40000 /\ 8 <= q /\ q <= 5000) : AC Tryz.prog (LitW xa na ca la) 101 [.lit (.int .i64 10), dyS ng xa na ca ex, .lit (.int .i64 ((q : Nat) : Int))] (ivV (aAw 10 (lD ng la ex) q)) := by
 have h1 := aLp (xa := xa) (na := na) (ca := ca) (la := la) ng ex (by omega)
 have hsz := aEj (lD ng la ex)
 have h2 := aMo (q + 32) (by omega)
 have h3 := aG5 (aFG (q + 32)) (q + 32) (by omega)
 have hq : ((q : Nat) : Int) + 32 = ((q + 32 : Nat) : Int) := rfl
 have hr : aAw 10 (lD ng la ex) q = aAF (aAn (lD ng la ex)) (aBt (aFG (q + 32)) (q + 32)) q := rfl
 rw [hr]
 clear hr
 generalize aFG (q + 32) = L at *
 generalize aAn (lD ng la ex) = t at *
 have h4 := aCP t (aBt L (q + 32)) q (by omega)
 refine aAd Tryz.func101 rfl (by kernel_rfl) aAP Tryz.mixed rfl rfl (by kernel_rfl) ?_
 simp only [aAl, Tryz.ntmps101, dyV, ivV, fxV, fxV, dyS, lD, aAj]
 repeat' first
  | refine aAa fun K g => ?_
  | refine goK (by assumption) ?_
  | refine aAv ?_
  | ((first | refine aAk ?_ | refine aAe ?_) <;> try simp only [aAm, aAg, reduceIte, Nat.reduceEqDiff])
  | ((first
  | refine aAU rfl fun os => ?_
  | refine cxo (h1) ?_
  | refine cxo (AC.weak (h2.1) fun _ q => q.1.1) ?_
  | refine cxo (AC.weak (h3.1) fun _ q => q.1.1) ?_
  | refine cxo (AC.weak (h4.1) fun _ q => q.1.1) ?_
  | simp only [endX, resX, resV, Tryz.results101]) <;> try (simp (disch := omega) only [xq, simprocAttr, dyV, ivV, fxV, fxV, dyS, lD, aAj, hq]))
  | (refine aAf (by first | rfl | assumption) (fun c => ?_) (fun c => ?_) <;> first | exact absurd c (by decide) | ((try rw [c]); try simp only [xn] at c))
  | (first | done | rfl
     done)
theorem aQC (p : Nat) (hin : (lD ng la ex).av <= (aAo 10 : Rat)) (hp : 8 <= p /\ p <= 4096) (h : bl (lD ng la ex).m <= 66000 /\ ae (lD ng la ex) <= 40000) : AC Tryz.prog (LitW xa na ca la) 60 [.lit (.int .i64 10), dyS ng xa na ca ex, .lit (.int .i64 ((p : Nat) : Int))] (ivV (rawQ 10 (lD ng la ex) p)) := by
 have h1 := aLY (xa := xa) (na := na) (ca := ca) (la := la) ng ex (p + 64) (by omega)
 have h0 := (aEI (lD ng la ex) (p + 64) (by omega)).2
 obtain ⟨t1, t2⟩ := aCs (n := 10) (q := p + 64) (t := lD ng la ex) (by decide) (by omega) (by omega) hin
 have hr : rawQ 10 (lD ng la ex) p = ⟨(anyQ (aAw 10 (lD ng la ex) (p + 64)).lo (p + 8)).lo, (anyQ (aAw 10 (lD ng la ex) (p + 64)).hi (p + 8)).hi⟩ := rfl
 rw [hr]
 clear hr hin
 generalize aAw 10 (lD ng la ex) (p + 64) = u at *
 have hu := aBe u
 have h2 := aCj u.lo (p + 8) (by omega)
 have h3 := aCj u.hi (p + 8) (by omega)
 have hp8 : ((p : Nat) : Int) + 8 = ((p + 8 : Nat) : Int) := rfl
 have hp64 : ((p : Nat) : Int) + 64 = ((p + 64 : Nat) : Int) := rfl
 generalize anyQ u.lo (p + 8) = A at *
 generalize anyQ u.hi (p + 8) = Bq at *
 refine aAd Tryz.func60 rfl (by kernel_rfl) aAP Tryz.mixed rfl rfl (by kernel_rfl) ?_
 simp only [aAl, Tryz.ntmps60, dyV, ivV, fxV, fxV, dyS, lD, aAj]
 refine aAa fun K1 g1 => ?_
 refine aAb fun os => ?_
 try simp (disch := omega) only [xq, simprocAttr, dyV, ivV, fxV, fxV, dyS, lD, aAj, hp8, hp64]
 refine g1 _ ?_
 refine aAa fun K2 g2 => ?_
 refine aAb fun os => ?_
 try simp (disch := omega) only [xq, simprocAttr, dyV, ivV, fxV, fxV, dyS, lD, aAj, hp8, hp64]
 refine cxo (h1) ?_
 try simp (disch := omega) only [xq, simprocAttr, dyV, ivV, fxV, fxV, dyS, lD, aAj, hp8, hp64]
 refine g2 _ ?_
 refine aAa fun K3 g3 => ?_
 refine aAB (by kernel_rfl) fun os => ?_
 try simp (disch := omega) only [xq, simprocAttr, dyV, ivV, fxV, fxV, dyS, lD, aAj, hp8, hp64]
 refine cxd (AC.weak (h2.1) fun _ q => q.1.1) ?_
 try simp (disch := omega) only [xq, simprocAttr, dyV, ivV, fxV, fxV, dyS, lD, aAj, hp8, hp64]
 refine cxd (AC.weak (h3.1) fun _ q => q.1.1) ?_
 try simp (disch := omega) only [xq, simprocAttr, dyV, ivV, fxV, fxV, dyS, lD, aAj, hp8, hp64]
 refine g3 _ ?_
 refine aAe ?_
 simp only [endX, resX, resV, Tryz.results60]
 try simp (disch := omega) only [xq, simprocAttr, dyV, ivV, fxV, fxV, dyS, lD, aAj, hp8, hp64]
 first | done | rfl
theorem aTb (p : Int) (hf : aAT (lD ng la ex) = false) : AC Tryz.prog (LitW xa na ca la) 17 [.lit (.int .i64 0), dyS ng xa na ca ex, .lit (.int .i64 p)] (.tup [ivV aAp, .lit (.int .i64 2)]) := by
 have h0 := aC3 (xa := xa) (na := na) (ca := ca) (la := la) ng ex
 rw [hf] at h0
 refine aAd Tryz.func17 rfl (by kernel_rfl) aAP Tryz.mixed rfl rfl (by kernel_rfl) ?_
 simp only [aAl, Tryz.ntmps17, dyV, ivV, fxV, fxV, dyS, lD, aAj]
 refine aAa fun K1 g1 => ?_
 refine aAb fun os => ?_
 try simp (disch := omega) only [xq, simprocAttr, dyV, ivV, fxV, fxV, dyS, lD, aAj]
 refine g1 _ ?_
 refine aAa fun K2 g2 => ?_
 refine aAa fun K3 g3 => ?_
 refine aAx ?_
 try simp (disch := omega) only [xq, simprocAttr, dyV, ivV, fxV, fxV, dyS, lD, aAj]
 refine cxo (h0) ?_
 try simp (disch := omega) only [xq, simprocAttr, dyV, ivV, fxV, fxV, dyS, lD, aAj]
 refine g3 _ ?_
 refine aAf (by first | rfl | assumption) (fun c1 => ?_) (fun c1 => ?_)
 ·try simp only [xn] at c1
  refine aAa fun K4 g4 => ?_
  refine aAb fun os => ?_
  try simp (disch := omega) only [xq, simprocAttr, dyV, ivV, fxV, fxV, dyS, lD, aAj]
  refine g4 _ ?_
  refine aAe ?_
  simp only [aAm, aAg, reduceIte, Nat.reduceEqDiff]
  simp only [endX, resX, resV, Tryz.results17]
  try simp (disch := omega) only [xq, simprocAttr, dyV, ivV, fxV, fxV, dyS, lD, aAj]
  simp only [aAp, aAY, ivV] <;> rfl
 ·exact absurd c1 (by decide)
theorem aS9 (p : Int) (hf : aAT (lD ng la ex) = true) (hp : p < 8) : AC Tryz.prog (LitW xa na ca la) 17 [.lit (.int .i64 0), dyS ng xa na ca ex, .lit (.int .i64 p)] (.tup [ivV aAp, .lit (.int .i64 2)]) := by
 have h0 := aC3 (xa := xa) (na := na) (ca := ca) (la := la) ng ex
 rw [hf] at h0
 have k1 : decide (p < 8) = true := decide_eq_true hp
 refine aAd Tryz.func17 rfl (by kernel_rfl) aAP Tryz.mixed rfl rfl (by kernel_rfl) ?_
 simp only [aAl, Tryz.ntmps17, dyV, ivV, fxV, fxV, dyS, lD, aAj]
 refine aAa fun K1 g1 => ?_
 refine aAb fun os => ?_
 try simp (disch := omega) only [xq, simprocAttr, dyV, ivV, fxV, fxV, dyS, lD, aAj, k1]
 refine g1 _ ?_
 refine aAa fun K2 g2 => ?_
 refine aAa fun K3 g3 => ?_
 refine aAx ?_
 try simp (disch := omega) only [xq, simprocAttr, dyV, ivV, fxV, fxV, dyS, lD, aAj, k1]
 refine cxo (h0) ?_
 try simp (disch := omega) only [xq, simprocAttr, dyV, ivV, fxV, fxV, dyS, lD, aAj, k1]
 refine g3 _ ?_
 refine aAf (by first | rfl | assumption) (fun c1 => ?_) (fun c1 => ?_)
 ·try simp only [xn] at c1
  refine aAa fun K4 g4 => ?_
  refine aAb fun os => ?_
  try simp (disch := omega) only [xq, simprocAttr, dyV, ivV, fxV, fxV, dyS, lD, aAj, k1]
  refine g4 _ ?_
  refine aAe ?_
  simp only [aAm, aAg, reduceIte, Nat.reduceEqDiff]
  simp only [endX, resX, resV, Tryz.results17]
  try simp (disch := omega) only [xq, simprocAttr, dyV, ivV, fxV, fxV, dyS, lD, aAj, k1]
  simp only [aAp, aAY, ivV] <;> rfl
 ·exact absurd c1 (by decide)
theorem aS7 (p : Int) (hf : aAT (lD ng la ex) = true) (hp : 3968 < p) : AC Tryz.prog (LitW xa na ca la) 17 [.lit (.int .i64 0), dyS ng xa na ca ex, .lit (.int .i64 p)] (.tup [ivV aAp, .lit (.int .i64 2)]) := by
 have h0 := aC3 (xa := xa) (na := na) (ca := ca) (la := la) ng ex
 rw [hf] at h0
 have k1 : decide (p < 8) = false := decide_eq_false (by omega)
 have k2 : decide (3968 < p) = true := decide_eq_true hp
 refine aAd Tryz.func17 rfl (by kernel_rfl) aAP Tryz.mixed rfl rfl (by kernel_rfl) ?_
 simp only [aAl, Tryz.ntmps17, dyV, ivV, fxV, fxV, dyS, lD, aAj]
 refine aAa fun K1 g1 => ?_
 refine aAb fun os => ?_
 try simp (disch := omega) only [xq, simprocAttr, dyV, ivV, fxV, fxV, dyS, lD, aAj, k1, k2]
 refine g1 _ ?_
 refine aAa fun K2 g2 => ?_
 refine aAa fun K3 g3 => ?_
 refine aAx ?_
 try simp (disch := omega) only [xq, simprocAttr, dyV, ivV, fxV, fxV, dyS, lD, aAj, k1, k2]
 refine cxo (h0) ?_
 try simp (disch := omega) only [xq, simprocAttr, dyV, ivV, fxV, fxV, dyS, lD, aAj, k1, k2]
 refine g3 _ ?_
 refine aAf (by first | rfl | assumption) (fun c1 => ?_) (fun c1 => ?_)
 ·try simp only [xn] at c1
  refine aAa fun K4 g4 => ?_
  refine aAb fun os => ?_
  try simp (disch := omega) only [xq, simprocAttr, dyV, ivV, fxV, fxV, dyS, lD, aAj, k1, k2]
  refine g4 _ ?_
  refine aAe ?_
  simp only [aAm, aAg, reduceIte, Nat.reduceEqDiff]
  simp only [endX, resX, resV, Tryz.results17]
  try simp (disch := omega) only [xq, simprocAttr, dyV, ivV, fxV, fxV, dyS, lD, aAj, k1, k2]
  simp only [aAp, aAY, ivV] <;> rfl
 ·exact absurd c1 (by decide)
theorem aTd (hf : aAT (lD ng la ex) = true) (p : Nat) (hp : 8 <= p /\ p <= 3968) : AC Tryz.prog (LitW xa na ca la) 17 [.lit (.int .i64 0), dyS ng xa na ca ex, .lit (.int .i64 ((p : Nat) : Int))] (.tup [ivV (powQ 0 (lD ng la ex) p).1, .lit (.int .i64 (powQ 0 (lD ng la ex) p).2)]) := by
 have h0 := aC3 (xa := xa) (na := na) (ca := ca) (la := la) ng ex
 rw [hf] at h0
 have k1 : decide (((p : Nat) : Int) < 8) = false := decide_eq_false (by omega)
 have k2 : decide ((3968 : Int) < ((p : Nat) : Int)) = false := decide_eq_false (by omega)
 have hz := aCJ hf
 have z1 := aAW 11000
 have z2 : bl (11000 : Int).natAbs <= 16 := by decide
 have r1 := aFB
 have hrn : (aAo 0 : Int) = 11000 := rfl
 have r2 := aCF (intD (aAo 0 : Int)) (by rw [hrn]; omega)
 rw [aDq] at r2
 have z3 := aAW (-11000)
 have z4 : bl (-11000 : Int).natAbs <= 16 := by decide
 have o1 := aGi (xa := xa) (na := na) (ca := ca) (la := la) ng ex (intD (-(aAo 0 : Int))) (by omega) (by rw [hrn]; omega)
 have o2 := aGi (xa := xa) (na := na) (ca := ca) (la := la) ng ex (intD (aAo 0 : Int)) (by omega) (by rw [hrn]; omega)
 have hin := aDw (n := 0) (t := lD ng la ex)
 have hbl : aAR 0 (lD ng la ex) = decide (cmpD (lD ng la ex) (intD (-(aAo 0 : Int))) < 0) := rfl
 have raw := fun h => aS5 (xa := xa) (na := na) (ca := ca) (la := la) ng ex p h (by omega) (by omega)
 have hr : powQ 0 (lD ng la ex) p = if decide (0 < cmpD (lD ng la ex) (intD (aAo 0 : Int))) || aAR 0 (lD ng la ex) then (aAp, 3) else (rawQ 0 (lD ng la ex) p, 0) := rfl
 rw [hr]
 clear hr
 rw [hbl] at hin ⊢
 clear hbl
 generalize rawQ 0 (lD ng la ex) p = RQ at *
 generalize intD (-(aAo 0 : Int)) = D2 at *
 generalize intD (aAo 0 : Int) = D1 at *
 generalize cmpD (lD ng la ex) D1 = q1 at *
 generalize cmpD (lD ng la ex) D2 = q2 at *
 have raw2 : ¬ 0 < q1 -> ¬ q2 < 0 -> _ := fun g1 g2 => raw (hin g1 (decide_eq_false g2))
 refine aAd Tryz.func17 rfl (by kernel_rfl) aAP Tryz.mixed rfl rfl (by kernel_rfl) ?_
 simp only [aAl, Tryz.ntmps17, dyV, ivV, fxV, fxV, dyS, lD, aAj]
 repeat' first
  | refine aAa fun K g => ?_
  | refine goK (by assumption) ?_
  | ((first | refine aAk ?_ | refine aAe ?_) <;> try simp only [aAm, aAg, reduceIte, Nat.reduceEqDiff])
  | ((first
  | refine aAU rfl fun os => ?_
  | refine aB7 ?_
  | refine aLC (by kernel_rfl) ?_
  | refine gd1 rfl rfl ?_
  | refine gd0 rfl rfl (by exact Nat.le_of_ble_eq_true rfl) ?_
  | refine cxo (h0) ?_
  | refine cxd (AC.weak (r1) fun _ q => q.1.1) ?_
  | refine cxd (o2) ?_
  | refine cxd (AC.weak (r2.1) fun _ q => q.1.1) ?_
  | refine cxd (o1) ?_
  | refine cxo (raw2 (by omega) (by omega)) ?_
  | simp only [endX, resX, resV, Tryz.results17]) <;> try (simp (disch := omega) only [xq, simprocAttr, dyV, ivV, fxV, fxV, dyS, lD, aAj, k1, k2]))
  | ((first | refine gx (fun c => ?_) (fun c => ?_) | refine gdt rfl rfl rfl (fun c => ?_) (fun c => ?_)) <;> first | exact absurd c (by decide) | ((try rw [c]); (try simp only [xn] at c); try (simp (disch := omega) only [xq, simprocAttr, dyV, ivV, fxV, fxV, dyS, lD, aAj, k1, k2])))
  | (refine aAf (by first | rfl | assumption) (fun c => ?_) (fun c => ?_) <;> first | exact absurd c (by decide) | ((try rw [c]); try simp only [xn] at c))
  | (first | (simp [*, aAp, aAY, ivV]; done) | (exfalso; simp_all; done)
     done)
theorem aTa (p : Int) (hf : aAT (lD ng la ex) = false) : AC Tryz.prog (LitW xa na ca la) 17 [.lit (.int .i64 2), dyS ng xa na ca ex, .lit (.int .i64 p)] (.tup [ivV aAp, .lit (.int .i64 2)]) := by
 have h0 := aC3 (xa := xa) (na := na) (ca := ca) (la := la) ng ex
 rw [hf] at h0
 refine aAd Tryz.func17 rfl (by kernel_rfl) aAP Tryz.mixed rfl rfl (by kernel_rfl) ?_
 simp only [aAl, Tryz.ntmps17, dyV, ivV, fxV, fxV, dyS, lD, aAj]
 refine aAa fun K1 g1 => ?_
 refine aAb fun os => ?_
 try simp (disch := omega) only [xq, simprocAttr, dyV, ivV, fxV, fxV, dyS, lD, aAj]
 refine g1 _ ?_
 refine aAa fun K2 g2 => ?_
 refine aAa fun K3 g3 => ?_
 refine aAx ?_
 try simp (disch := omega) only [xq, simprocAttr, dyV, ivV, fxV, fxV, dyS, lD, aAj]
 refine cxo (h0) ?_
 try simp (disch := omega) only [xq, simprocAttr, dyV, ivV, fxV, fxV, dyS, lD, aAj]
 refine g3 _ ?_
 refine aAf (by first | rfl | assumption) (fun c1 => ?_) (fun c1 => ?_)
 ·try simp only [xn] at c1
  refine aAa fun K4 g4 => ?_
  refine aAb fun os => ?_
  try simp (disch := omega) only [xq, simprocAttr, dyV, ivV, fxV, fxV, dyS, lD, aAj]
  refine g4 _ ?_
  refine aAe ?_
  simp only [aAm, aAg, reduceIte, Nat.reduceEqDiff]
  simp only [endX, resX, resV, Tryz.results17]
  try simp (disch := omega) only [xq, simprocAttr, dyV, ivV, fxV, fxV, dyS, lD, aAj]
  simp only [aAp, aAY, ivV] <;> rfl
 ·exact absurd c1 (by decide)
theorem aS8 (p : Int) (hf : aAT (lD ng la ex) = true) (hp : p < 8) : AC Tryz.prog (LitW xa na ca la) 17 [.lit (.int .i64 2), dyS ng xa na ca ex, .lit (.int .i64 p)] (.tup [ivV aAp, .lit (.int .i64 2)]) := by
 have h0 := aC3 (xa := xa) (na := na) (ca := ca) (la := la) ng ex
 rw [hf] at h0
 have k1 : decide (p < 8) = true := decide_eq_true hp
 refine aAd Tryz.func17 rfl (by kernel_rfl) aAP Tryz.mixed rfl rfl (by kernel_rfl) ?_
 simp only [aAl, Tryz.ntmps17, dyV, ivV, fxV, fxV, dyS, lD, aAj]
 refine aAa fun K1 g1 => ?_
 refine aAb fun os => ?_
 try simp (disch := omega) only [xq, simprocAttr, dyV, ivV, fxV, fxV, dyS, lD, aAj, k1]
 refine g1 _ ?_
 refine aAa fun K2 g2 => ?_
 refine aAa fun K3 g3 => ?_
 refine aAx ?_
 try simp (disch := omega) only [xq, simprocAttr, dyV, ivV, fxV, fxV, dyS, lD, aAj, k1]
 refine cxo (h0) ?_
 try simp (disch := omega) only [xq, simprocAttr, dyV, ivV, fxV, fxV, dyS, lD, aAj, k1]
 refine g3 _ ?_
 refine aAf (by first | rfl | assumption) (fun c1 => ?_) (fun c1 => ?_)
 ·try simp only [xn] at c1
  refine aAa fun K4 g4 => ?_
  refine aAb fun os => ?_
  try simp (disch := omega) only [xq, simprocAttr, dyV, ivV, fxV, fxV, dyS, lD, aAj, k1]
  refine g4 _ ?_
  refine aAe ?_
  simp only [aAm, aAg, reduceIte, Nat.reduceEqDiff]
  simp only [endX, resX, resV, Tryz.results17]
  try simp (disch := omega) only [xq, simprocAttr, dyV, ivV, fxV, fxV, dyS, lD, aAj, k1]
  simp only [aAp, aAY, ivV] <;> rfl
 ·exact absurd c1 (by decide)
theorem aS6 (p : Int) (hf : aAT (lD ng la ex) = true) (hp : 3968 < p) : AC Tryz.prog (LitW xa na ca la) 17 [.lit (.int .i64 2), dyS ng xa na ca ex, .lit (.int .i64 p)] (.tup [ivV aAp, .lit (.int .i64 2)]) := by
 have h0 := aC3 (xa := xa) (na := na) (ca := ca) (la := la) ng ex
 rw [hf] at h0
 have k1 : decide (p < 8) = false := decide_eq_false (by omega)
 have k2 : decide (3968 < p) = true := decide_eq_true hp
 refine aAd Tryz.func17 rfl (by kernel_rfl) aAP Tryz.mixed rfl rfl (by kernel_rfl) ?_
 simp only [aAl, Tryz.ntmps17, dyV, ivV, fxV, fxV, dyS, lD, aAj]
 refine aAa fun K1 g1 => ?_
 refine aAb fun os => ?_
 try simp (disch := omega) only [xq, simprocAttr, dyV, ivV, fxV, fxV, dyS, lD, aAj, k1, k2]
 refine g1 _ ?_
 refine aAa fun K2 g2 => ?_
 refine aAa fun K3 g3 => ?_
 refine aAx ?_
 try simp (disch := omega) only [xq, simprocAttr, dyV, ivV, fxV, fxV, dyS, lD, aAj, k1, k2]
 refine cxo (h0) ?_
 try simp (disch := omega) only [xq, simprocAttr, dyV, ivV, fxV, fxV, dyS, lD, aAj, k1, k2]
 refine g3 _ ?_
 refine aAf (by first | rfl | assumption) (fun c1 => ?_) (fun c1 => ?_)
 ·try simp only [xn] at c1
  refine aAa fun K4 g4 => ?_
  refine aAb fun os => ?_
  try simp (disch := omega) only [xq, simprocAttr, dyV, ivV, fxV, fxV, dyS, lD, aAj, k1, k2]
  refine g4 _ ?_
  refine aAe ?_
  simp only [aAm, aAg, reduceIte, Nat.reduceEqDiff]
  simp only [endX, resX, resV, Tryz.results17]
  try simp (disch := omega) only [xq, simprocAttr, dyV, ivV, fxV, fxV, dyS, lD, aAj, k1, k2]
  simp only [aAp, aAY, ivV] <;> rfl
 ·exact absurd c1 (by decide)
theorem aTc (hf : aAT (lD ng la ex) = true) (p : Nat) (hp : 8 <= p /\ p <= 3968) : AC Tryz.prog (LitW xa na ca la) 17 [.lit (.int .i64 2), dyS ng xa na ca ex, .lit (.int .i64 ((p : Nat) : Int))] (.tup [ivV (powQ 2 (lD ng la ex) p).1, .lit (.int .i64 (powQ 2 (lD ng la ex) p).2)]) := by
 have h0 := aC3 (xa := xa) (na := na) (ca := ca) (la := la) ng ex
 rw [hf] at h0
 have k1 : decide (((p : Nat) : Int) < 8) = false := decide_eq_false (by omega)
 have k2 : decide ((3968 : Int) < ((p : Nat) : Int)) = false := decide_eq_false (by omega)
 have hz := aCJ hf
 have z1 := aAW 16000
 have z2 : bl (16000 : Int).natAbs <= 16 := by decide
 have r1 := aFA
 have hrn : (aAo 2 : Int) = 16000 := rfl
 have r2 := aCF (intD (aAo 2 : Int)) (by rw [hrn]; omega)
 rw [aDq] at r2
 have z3 := aAW (-16000)
 have z4 : bl (-16000 : Int).natAbs <= 16 := by decide
 have o1 := aGi (xa := xa) (na := na) (ca := ca) (la := la) ng ex (intD (-(aAo 2 : Int))) (by omega) (by rw [hrn]; omega)
 have o2 := aGi (xa := xa) (na := na) (ca := ca) (la := la) ng ex (intD (aAo 2 : Int)) (by omega) (by rw [hrn]; omega)
 have hin := aDw (n := 2) (t := lD ng la ex)
 have hbl : aAR 2 (lD ng la ex) = decide (cmpD (lD ng la ex) (intD (-(aAo 2 : Int))) < 0) := rfl
 have raw := fun h => aS4 (xa := xa) (na := na) (ca := ca) (la := la) ng ex p h (by omega) (by omega)
 have hr : powQ 2 (lD ng la ex) p = if decide (0 < cmpD (lD ng la ex) (intD (aAo 2 : Int))) || aAR 2 (lD ng la ex) then (aAp, 3) else (rawQ 2 (lD ng la ex) p, 0) := rfl
 rw [hr]
 clear hr
 rw [hbl] at hin ⊢
 clear hbl
 generalize rawQ 2 (lD ng la ex) p = RQ at *
 generalize intD (-(aAo 2 : Int)) = D2 at *
 generalize intD (aAo 2 : Int) = D1 at *
 generalize cmpD (lD ng la ex) D1 = q1 at *
 generalize cmpD (lD ng la ex) D2 = q2 at *
 have raw2 : ¬ 0 < q1 -> ¬ q2 < 0 -> _ := fun g1 g2 => raw (hin g1 (decide_eq_false g2))
 refine aAd Tryz.func17 rfl (by kernel_rfl) aAP Tryz.mixed rfl rfl (by kernel_rfl) ?_
 simp only [aAl, Tryz.ntmps17, dyV, ivV, fxV, fxV, dyS, lD, aAj]
 repeat' first
  | refine aAa fun K g => ?_
  | refine goK (by assumption) ?_
  | ((first | refine aAk ?_ | refine aAe ?_) <;> try simp only [aAm, aAg, reduceIte, Nat.reduceEqDiff])
  | ((first
  | refine aAU rfl fun os => ?_
  | refine aB7 ?_
  | refine aLC (by kernel_rfl) ?_
  | refine gd1 rfl rfl ?_
  | refine gd0 rfl rfl (by exact Nat.le_of_ble_eq_true rfl) ?_
  | refine cxo (h0) ?_
  | refine cxd (AC.weak (r1) fun _ q => q.1.1) ?_
  | refine cxd (o2) ?_
  | refine cxd (AC.weak (r2.1) fun _ q => q.1.1) ?_
  | refine cxd (o1) ?_
  | refine cxo (raw2 (by omega) (by omega)) ?_
  | simp only [endX, resX, resV, Tryz.results17]) <;> try (simp (disch := omega) only [xq, simprocAttr, dyV, ivV, fxV, fxV, dyS, lD, aAj, k1, k2]))
  | ((first | refine gx (fun c => ?_) (fun c => ?_) | refine gdt rfl rfl rfl (fun c => ?_) (fun c => ?_)) <;> first | exact absurd c (by decide) | ((try rw [c]); (try simp only [xn] at c); try (simp (disch := omega) only [xq, simprocAttr, dyV, ivV, fxV, fxV, dyS, lD, aAj, k1, k2])))
  | (refine aAf (by first | rfl | assumption) (fun c => ?_) (fun c => ?_) <;> first | exact absurd c (by decide) | ((try rw [c]); try simp only [xn] at c))
  | (first | (simp [*, aAp, aAY, ivV]; done) | (exfalso; simp_all; done)
     done)
theorem aQG (p : Int) (hf : aAT (lD ng la ex) = false) : AC Tryz.prog (LitW xa na ca la) 17 [.lit (.int .i64 10), dyS ng xa na ca ex, .lit (.int .i64 p)] (.tup [ivV aAp, .lit (.int .i64 2)]) := by
 have h0 := aC3 (xa := xa) (na := na) (ca := ca) (la := la) ng ex
 rw [hf] at h0
 refine aAd Tryz.func17 rfl (by kernel_rfl) aAP Tryz.mixed rfl rfl (by kernel_rfl) ?_
 simp only [aAl, Tryz.ntmps17, dyV, ivV, fxV, fxV, dyS, lD, aAj]
 refine aAa fun K1 g1 => ?_
 refine aAb fun os => ?_
 try simp (disch := omega) only [xq, simprocAttr, dyV, ivV, fxV, fxV, dyS, lD, aAj]
 refine g1 _ ?_
 refine aAa fun K2 g2 => ?_
 refine aAa fun K3 g3 => ?_
 refine aAx ?_
 try simp (disch := omega) only [xq, simprocAttr, dyV, ivV, fxV, fxV, dyS, lD, aAj]
 refine cxo (h0) ?_
 try simp (disch := omega) only [xq, simprocAttr, dyV, ivV, fxV, fxV, dyS, lD, aAj]
 refine g3 _ ?_
 refine aAf (by first | rfl | assumption) (fun c1 => ?_) (fun c1 => ?_)
 ·try simp only [xn] at c1
  refine aAa fun K4 g4 => ?_
  refine aAb fun os => ?_
  try simp (disch := omega) only [xq, simprocAttr, dyV, ivV, fxV, fxV, dyS, lD, aAj]
  refine g4 _ ?_
  refine aAe ?_
  simp only [aAm, aAg, reduceIte, Nat.reduceEqDiff]
  simp only [endX, resX, resV, Tryz.results17]
  try simp (disch := omega) only [xq, simprocAttr, dyV, ivV, fxV, fxV, dyS, lD, aAj]
  simp only [aAp, aAY, ivV] <;> rfl
 ·exact absurd c1 (by decide)
theorem aQF (p : Int) (hf : aAT (lD ng la ex) = true) (hp : p < 8) : AC Tryz.prog (LitW xa na ca la) 17 [.lit (.int .i64 10), dyS ng xa na ca ex, .lit (.int .i64 p)] (.tup [ivV aAp, .lit (.int .i64 2)]) := by
 have h0 := aC3 (xa := xa) (na := na) (ca := ca) (la := la) ng ex
 rw [hf] at h0
 have k1 : decide (p < 8) = true := decide_eq_true hp
 refine aAd Tryz.func17 rfl (by kernel_rfl) aAP Tryz.mixed rfl rfl (by kernel_rfl) ?_
 simp only [aAl, Tryz.ntmps17, dyV, ivV, fxV, fxV, dyS, lD, aAj]
 refine aAa fun K1 g1 => ?_
 refine aAb fun os => ?_
 try simp (disch := omega) only [xq, simprocAttr, dyV, ivV, fxV, fxV, dyS, lD, aAj, k1]
 refine g1 _ ?_
 refine aAa fun K2 g2 => ?_
 refine aAa fun K3 g3 => ?_
 refine aAx ?_
 try simp (disch := omega) only [xq, simprocAttr, dyV, ivV, fxV, fxV, dyS, lD, aAj, k1]
 refine cxo (h0) ?_
 try simp (disch := omega) only [xq, simprocAttr, dyV, ivV, fxV, fxV, dyS, lD, aAj, k1]
 refine g3 _ ?_
 refine aAf (by first | rfl | assumption) (fun c1 => ?_) (fun c1 => ?_)
 ·try simp only [xn] at c1
  refine aAa fun K4 g4 => ?_
  refine aAb fun os => ?_
  try simp (disch := omega) only [xq, simprocAttr, dyV, ivV, fxV, fxV, dyS, lD, aAj, k1]
  refine g4 _ ?_
  refine aAe ?_
  simp only [aAm, aAg, reduceIte, Nat.reduceEqDiff]
  simp only [endX, resX, resV, Tryz.results17]
  try simp (disch := omega) only [xq, simprocAttr, dyV, ivV, fxV, fxV, dyS, lD, aAj, k1]
  simp only [aAp, aAY, ivV] <;> rfl
 ·exact absurd c1 (by decide)
theorem aQE (p : Int) (hf : aAT (lD ng la ex) = true) (hp : 3968 < p) : AC Tryz.prog (LitW xa na ca la) 17 [.lit (.int .i64 10), dyS ng xa na ca ex, .lit (.int .i64 p)] (.tup [ivV aAp, .lit (.int .i64 2)]) := by
 have h0 := aC3 (xa := xa) (na := na) (ca := ca) (la := la) ng ex
 rw [hf] at h0
 have k1 : decide (p < 8) = false := decide_eq_false (by omega)
 have k2 : decide (3968 < p) = true := decide_eq_true hp
 refine aAd Tryz.func17 rfl (by kernel_rfl) aAP Tryz.mixed rfl rfl (by kernel_rfl) ?_
 simp only [aAl, Tryz.ntmps17, dyV, ivV, fxV, fxV, dyS, lD, aAj]
 refine aAa fun K1 g1 => ?_
 refine aAb fun os => ?_
 try simp (disch := omega) only [xq, simprocAttr, dyV, ivV, fxV, fxV, dyS, lD, aAj, k1, k2]
 refine g1 _ ?_
 refine aAa fun K2 g2 => ?_
 refine aAa fun K3 g3 => ?_
 refine aAx ?_
 try simp (disch := omega) only [xq, simprocAttr, dyV, ivV, fxV, fxV, dyS, lD, aAj, k1, k2]
 refine cxo (h0) ?_
 try simp (disch := omega) only [xq, simprocAttr, dyV, ivV, fxV, fxV, dyS, lD, aAj, k1, k2]
 refine g3 _ ?_
 refine aAf (by first | rfl | assumption) (fun c1 => ?_) (fun c1 => ?_)
 ·try simp only [xn] at c1
  refine aAa fun K4 g4 => ?_
  refine aAb fun os => ?_
  try simp (disch := omega) only [xq, simprocAttr, dyV, ivV, fxV, fxV, dyS, lD, aAj, k1, k2]
  refine g4 _ ?_
  refine aAe ?_
  simp only [aAm, aAg, reduceIte, Nat.reduceEqDiff]
  simp only [endX, resX, resV, Tryz.results17]
  try simp (disch := omega) only [xq, simprocAttr, dyV, ivV, fxV, fxV, dyS, lD, aAj, k1, k2]
  simp only [aAp, aAY, ivV] <;> rfl
 ·exact absurd c1 (by decide)
theorem aQH (hf : aAT (lD ng la ex) = true) (p : Nat) (hp : 8 <= p /\ p <= 3968) : AC Tryz.prog (LitW xa na ca la) 17 [.lit (.int .i64 10), dyS ng xa na ca ex, .lit (.int .i64 ((p : Nat) : Int))] (.tup [ivV (powQ 10 (lD ng la ex) p).1, .lit (.int .i64 (powQ 10 (lD ng la ex) p).2)]) := by
 have h0 := aC3 (xa := xa) (na := na) (ca := ca) (la := la) ng ex
 rw [hf] at h0
 have k1 : decide (((p : Nat) : Int) < 8) = false := decide_eq_false (by omega)
 have k2 : decide ((3968 : Int) < ((p : Nat) : Int)) = false := decide_eq_false (by omega)
 have hz := aCJ hf
 have z1 := aAW 4800
 have z2 : bl (4800 : Int).natAbs <= 16 := by decide
 have r1 := aFe
 have hrn : (aAo 10 : Int) = 4800 := rfl
 have r2 := aCF (intD (aAo 10 : Int)) (by rw [hrn]; omega)
 rw [aDq] at r2
 have z3 := aAW (-4800)
 have z4 : bl (-4800 : Int).natAbs <= 16 := by decide
 have o1 := aGi (xa := xa) (na := na) (ca := ca) (la := la) ng ex (intD (-(aAo 10 : Int))) (by omega) (by rw [hrn]; omega)
 have o2 := aGi (xa := xa) (na := na) (ca := ca) (la := la) ng ex (intD (aAo 10 : Int)) (by omega) (by rw [hrn]; omega)
 have hin := aDw (n := 10) (t := lD ng la ex)
 have hbl : aAR 10 (lD ng la ex) = decide (cmpD (lD ng la ex) (intD (-(aAo 10 : Int))) < 0) := rfl
 have raw := fun h => aQC (xa := xa) (na := na) (ca := ca) (la := la) ng ex p h (by omega) (by omega)
 have hr : powQ 10 (lD ng la ex) p = if decide (0 < cmpD (lD ng la ex) (intD (aAo 10 : Int))) || aAR 10 (lD ng la ex) then (aAp, 3) else (rawQ 10 (lD ng la ex) p, 0) := rfl
 rw [hr]
 clear hr
 rw [hbl] at hin ⊢
 clear hbl
 generalize rawQ 10 (lD ng la ex) p = RQ at *
 generalize intD (-(aAo 10 : Int)) = D2 at *
 generalize intD (aAo 10 : Int) = D1 at *
 generalize cmpD (lD ng la ex) D1 = q1 at *
 generalize cmpD (lD ng la ex) D2 = q2 at *
 have raw2 : ¬ 0 < q1 -> ¬ q2 < 0 -> _ := fun g1 g2 => raw (hin g1 (decide_eq_false g2))
 refine aAd Tryz.func17 rfl (by kernel_rfl) aAP Tryz.mixed rfl rfl (by kernel_rfl) ?_
 simp only [aAl, Tryz.ntmps17, dyV, ivV, fxV, fxV, dyS, lD, aAj]
 repeat' first
  | refine aAa fun K g => ?_
  | refine goK (by assumption) ?_
  | ((first | refine aAk ?_ | refine aAe ?_) <;> try simp only [aAm, aAg, reduceIte, Nat.reduceEqDiff])
  | ((first
  | refine aAU rfl fun os => ?_
  | refine aB7 ?_
  | refine aLC (by kernel_rfl) ?_
  | refine gd1 rfl rfl ?_
  | refine gd0 rfl rfl (by exact Nat.le_of_ble_eq_true rfl) ?_
  | refine cxo (h0) ?_
  | refine cxd (AC.weak (r1) fun _ q => q.1.1) ?_
  | refine cxd (o2) ?_
  | refine cxd (AC.weak (r2.1) fun _ q => q.1.1) ?_
  | refine cxd (o1) ?_
  | refine cxo (raw2 (by omega) (by omega)) ?_
  | simp only [endX, resX, resV, Tryz.results17]) <;> try (simp (disch := omega) only [xq, simprocAttr, dyV, ivV, fxV, fxV, dyS, lD, aAj, k1, k2]))
  | ((first | refine gx (fun c => ?_) (fun c => ?_) | refine gdt rfl rfl rfl (fun c => ?_) (fun c => ?_)) <;> first | exact absurd c (by decide) | ((try rw [c]); (try simp only [xn] at c); try (simp (disch := omega) only [xq, simprocAttr, dyV, ivV, fxV, fxV, dyS, lD, aAj, k1, k2])))
  | (refine aAf (by first | rfl | assumption) (fun c => ?_) (fun c => ?_) <;> first | exact absurd c (by decide) | ((try rw [c]); try simp only [xn] at c))
  | (first | (simp [*, aAp, aAY, ivV]; done) | (exfalso; simp_all; done)
     done)
theorem aQD (n : Int) (h : n ≠ 0 /\ n ≠ 2 /\ n ≠ 10) (p : Int) : AC Tryz.prog (LitW xa na ca la) 17 [.lit (.int .i64 n), dyS ng xa na ca ex, .lit (.int .i64 p)] (.tup [ivV aAp, .lit (.int .i64 2)]) := by
 have m0 : (n == 0) = false := beq_eq_false_iff_ne.2 h.1
 have m2 : (n == 2) = false := beq_eq_false_iff_ne.2 h.2.1
 have m10 : (n == 10) = false := beq_eq_false_iff_ne.2 h.2.2
 refine aAd Tryz.func17 rfl (by kernel_rfl) aAP Tryz.mixed rfl rfl (by kernel_rfl) ?_
 simp only [aAl, Tryz.ntmps17, dyV, ivV, fxV, fxV, dyS, lD, aAj]
 refine aAa fun K1 g1 => ?_
 refine aAb fun os => ?_
 try simp (disch := omega) only [xq, simprocAttr, dyV, ivV, fxV, fxV, dyS, lD, aAj, m0, m2, m10]
 refine g1 _ ?_
 refine aAa fun K2 g2 => ?_
 refine aAa fun K3 g3 => ?_
 refine aAx ?_
 try simp (disch := omega) only [xq, simprocAttr, dyV, ivV, fxV, fxV, dyS, lD, aAj, m0, m2, m10]
 refine g3 _ ?_
 refine aAf (by first | rfl | assumption) (fun c1 => ?_) (fun c1 => ?_)
 ·try simp only [xn] at c1
  refine aAa fun K4 g4 => ?_
  refine aAb fun os => ?_
  try simp (disch := omega) only [xq, simprocAttr, dyV, ivV, fxV, fxV, dyS, lD, aAj, m0, m2, m10]
  refine g4 _ ?_
  refine aAe ?_
  simp only [aAm, aAg, reduceIte, Nat.reduceEqDiff]
  simp only [endX, resX, resV, Tryz.results17]
  try simp (disch := omega) only [xq, simprocAttr, dyV, ivV, fxV, fxV, dyS, lD, aAj, m0, m2, m10]
  simp only [aAp, aAY, ivV] <;> rfl
 ·exact absurd c1 (by decide)
theorem aO9 (n p : Int) : AC Tryz.prog (LitW xa na ca la) 17 [.lit (.int .i64 n), dyS ng xa na ca ex, .lit (.int .i64 p)] (.tup [ivV (refP n (lD ng la ex) p).1, .lit (.int .i64 (refP n (lD ng la ex) p).2)]) := by
 unfold refP
 by_cases hn : n = 0 \/ n = 2 \/ n = 10
 · by_cases h : noP n (lD ng la ex) p
   · rw [if_pos h]
     unfold noP at h
     rcases Bool.eq_false_or_eq_true (aAT (lD ng la ex)) with hf | hf
     · by_cases h8 : p < 8
       · rcases hn with rfl | rfl | rfl
         · exact aS9 ng ex p hf h8
         · exact aS8 ng ex p hf h8
         · exact aQF ng ex p hf h8
       · have h9 : 3968 < p := by rw [hf] at h; simp at h; omega
         rcases hn with rfl | rfl | rfl
         · exact aS7 ng ex p hf h9
         · exact aS6 ng ex p hf h9
         · exact aQE ng ex p hf h9
     · rcases hn with rfl | rfl | rfl
       · exact aTb ng ex p hf
       · exact aTa ng ex p hf
       · exact aQG ng ex p hf
   · rw [if_neg h]
     unfold noP at h
     simp only [not_or, Bool.not_eq_false] at h
     obtain ⟨k, rfl⟩ := Int.eq_ofNat_of_zero_le (show 0 <= p by omega)
     have hf := h.1
     rcases hn with rfl | rfl | rfl
     · exact aTd ng ex hf k (by omega)
     · exact aTc ng ex hf k (by omega)
     · exact aQH ng ex hf k (by omega)
 · rw [if_pos (show noP n (lD ng la ex) p from .inr (.inr (.inr (by omega))))]
   exact aQD ng ex n (by omega) p
end
section
set_option maxRecDepth 10000
set_option maxHeartbeats 4000000
open Go.RowKit
theorem aJ0 (n : Int) (t : D) (p : Int) : aKs (aEu n t p) (refP n t p) p \/ (t.m ≠ 0 /\ topD t < -16384 /\ aEu n t p = (aAp, 3) /\ (refP n t p).2 = 0) := by
 unfold aEu refP
 by_cases h : noP n t p
 · rw [if_pos h, if_pos h]; exact .inl ⟨rfl, fun _ => rfl, fun h => by cases h⟩
 · rw [if_neg h, if_neg h]
   unfold noP at h
   simp only [not_or] at h
   have := aWG (n := n.toNat) (p := p.toNat) (t := t) (by omega) (by omega) (by omega)
   rwa [show ((p.toNat : Nat) : Int) = p by omega] at this
theorem aQt {n : Int} {t : D} {p : Int} (h : (refP n t p).2 = 0) : aAT t = true := by
 unfold refP at h
 by_cases hn : noP n t p
 · rw [if_pos hn] at h; cases h
 · unfold noP at hn
   simp only [not_or, Bool.not_eq_false] at hn
   exact hn.1
theorem aTe (n : Int) (t : D) (p : Int) : ib (aEu n t p).1 <= 65536 /\ ie (aEu n t p).1 <= 32768 := by
 have hz := aE2
 rcases aJ0 n t p with h | h
 · by_cases h0 : (aEu n t p).2 = 0
   · exact aKI (h.2.2 h0).2.2.1
   · rw [h.2.1 h0]; omega
 · rw [h.2.2.1]; show ib aAp <= _ /\ ie aAp <= _; omega
theorem aVg (n : Int) (t : D) (p : Int) : ib (refP n t p).1 <= 20000 /\ ie (refP n t p).1 <= 66000000 := by
 have hz := aE2
 unfold refP
 by_cases h : noP n t p
 · rw [if_pos h]; show ib aAp <= _ /\ ie aAp <= _; omega
 · rw [if_neg h]
   unfold noP at h
   simp only [not_or, Bool.not_eq_false] at h
   have hf := aCJ h.1
   obtain ⟨k, rfl⟩ := Int.eq_ofNat_of_zero_le (show 0 <= p by omega)
   rw [Int.toNat_natCast]
   unfold powQ
   by_cases hc : (decide (0 < cmpD t (intD (aAo n.toNat : Int))) || aAR n.toNat t) = true
   · rw [if_pos hc]; show ib aAp <= _ /\ ie aAp <= _; omega
   · rw [if_neg hc]
     simp only [Bool.or_eq_true, not_or, decide_eq_true_eq, Bool.not_eq_true] at hc
     have hin := aDw (n := n.toNat) (t := t) hc.1 hc.2
     have hn : n.toNat = 0 \/ n.toNat = 2 \/ n.toNat = 10 := by omega
     have key : ib (rawQ n.toNat t k) <= 16300 /\ ie (rawQ n.toNat t k) <= 12900000 := by
       rcases hn with e | e | e <;> rw [e] at hin ⊢
       · exact (aHr t k hin (by omega) (by omega)).2
       · exact (aHq t k hin (by omega) (by omega)).2
       · exact (aGw t k hin (by omega) (by omega)).2
     show ib (rawQ n.toNat t k) <= _ /\ ie (rawQ n.toNat t k) <= _
     omega
variable {xa : Option Addr} {na ca : Nat} {la : List Nat} (ng : Bool) (ex : Int)
theorem aSu (n p : Int) : AC Tryz.prog (LitW xa na ca la) 4 [.lit (.int .i64 n), dyS ng xa na ca ex, .lit (.int .i64 p)] (.lit (.bool true)) := by
 have e1 := aTF (xa := xa) (na := na) (ca := ca) (la := la) ng ex n p
 have e2 := aO9 (xa := xa) (na := na) (ca := ca) (la := la) ng ex n p
 have s1 := aTe n (lD ng la ex) p
 have s2 := aVg n (lD ng la ex) p
 have hag := aJ0 n (lD ng la ex) p
 have hfit : (refP n (lD ng la ex) p).2 = 0 -> bl (lD ng la ex).m <= 1000000 /\ ae (lD ng la ex) <= 1000000 := fun h => by have := aCJ (aQt h); omega
 have q0 : (refP n (lD ng la ex) p).2 = 0 -> _ := fun h => aRX (xa := xa) (na := na) (ca := ca) (la := la) ng ex (hfit h)
 have q1 : (refP n (lD ng la ex) p).2 = 0 -> _ := fun h => aUL (xa := xa) (na := na) (ca := ca) (la := la) ng ex (hfit h)
 have hpp : (p <= 1000000000000 /\ -1000000000000 <= p) \/ (refP n (lD ng la ex) p).2 ≠ 0 \/ (aEu n (lD ng la ex) p).2 ≠ 0 := by
   by_cases h : (refP n (lD ng la ex) p).2 = 0
   · unfold refP at h
     by_cases hn : noP n (lD ng la ex) p
     · rw [if_pos hn] at h; cases h
     · unfold noP at hn; omega
   · exact .inr (.inl h)
 have hsame := aHc (aEu n (lD ng la ex) p).1 aAp (by have := aE2; omega)
 have hlike := aOr (aEu n (lD ng la ex) p).1 (aEu n (lD ng la ex) p).2 (refP n (lD ng la ex) p).1 (refP n (lD ng la ex) p).2 p (by omega) hpp
 have hs : (aEu n (lD ng la ex) p).2 = 3 -> (refP n (lD ng la ex) p).2 = 0 -> AC Tryz.prog TabW 20 [ivV (aEu n (lD ng la ex) p).1, ivV aAp] (.lit (.bool true)) := fun h1 h2 => by
   rcases hag with h | h
   · exact absurd h.1 (by omega)
   · rw [h.2.2.1] at hsame ⊢
     rwa [(aIf aAp aAp).2 rfl] at hsame
 have hl : ¬ ((refP n (lD ng la ex) p).2 = 0 /\ (aEu n (lD ng la ex) p).2 = 3 /\ (lD ng la ex).m ≠ 0 /\ topD (lD ng la ex) < -16384) -> AC Tryz.prog TabW 15 [ivV (aEu n (lD ng la ex) p).1, .lit (.int .i64 (aEu n (lD ng la ex) p).2), ivV (refP n (lD ng la ex) p).1, .lit (.int .i64 (refP n (lD ng la ex) p).2), .lit (.int .i64 p)] (.lit (.bool true)) := fun hn => by
   rcases hag with h | h
   · rwa [aMe h] at hlike
   · exact absurd ⟨h.2.2.2, by rw [h.2.2.1], h.1, h.2.1⟩ hn
 clear hsame hlike hag hpp hfit s1 s2
 generalize aEu n (lD ng la ex) p = A at *
 generalize refP n (lD ng la ex) p = Bq at *
 generalize topD (lD ng la ex) = tp at *
 generalize (lD ng la ex).m = m at *
 refine aAd Tryz.func4 rfl (by kernel_rfl) aAP Tryz.mixed rfl rfl (by kernel_rfl) ?_
 simp only [aAl, Tryz.ntmps4, dyV, ivV, fxV, fxV, dyS, lD, aAp, aAY]
 repeat' first
  | refine aAa fun K g => ?_
  | refine goK (by assumption) ?_
  | ((first | refine aAk ?_ | refine aAe ?_) <;> try simp only [aAm, aAg, reduceIte, Nat.reduceEqDiff])
  | ((first
  | refine aAU rfl fun os => ?_
  | refine aB7 ?_
  | refine cxo (e1) ?_
  | refine cxo (e2) ?_
  | refine cxo (AC.weak (aCD) fun _ q => q.1) ?_
  | refine cxo (q0 (by omega)) ?_
  | refine cxo (q1 (by omega)) ?_
  | refine cxo (AC.weak (hs (by omega) (by omega)) fun _ q => q.1.1) ?_
  | refine cxo (AC.weak (hl (by omega)) fun _ q => q.1.1) ?_
  | simp only [endX, resX, resV, Tryz.results4]) <;> try (simp (disch := omega) only [xq, simprocAttr, dyV, ivV, fxV, fxV, dyS, lD, aAp, aAY]))
  | (refine gx (fun c => ?_) (fun c => ?_) <;> first | exact absurd c (by decide) | ((try rw [c]); (try simp only [xn] at c); try (simp (disch := omega) only [xq, simprocAttr, dyV, ivV, fxV, fxV, dyS, lD, aAp, aAY])))
  | (refine aAf (by first | rfl | assumption) (fun c => ?_) (fun c => ?_) <;> first | exact absurd c (by decide) | ((try rw [c]); try simp only [xn] at c))
  | (first | done | rfl
     done)
end
section
set_option maxRecDepth 10000
open Go.ChangeShapes Go.WideShapes Go.RowKit Go.Deep
theorem aPj {H : Type} {enc : TypeId × Value -> H} {W : World} {base n : Nat} {cs : List Value} {y : DataW H × List MemPlace} (h : DataW.trod enc Tryz.prog W base (fun _ => true) true n 25 cs = some y) :
   ∃ (x : Option Addr) (k c : Nat) (l : List Nat), cs = [.slice x k c] /\ aAE 0 W (.slice x k c) l := by
 rcases open_ints Tryz.underlying25 Tryz.underlying23 (by kernel_rfl) h with ⟨rfl, _⟩ | ⟨a, len, cap, zs, rfl, _, hl, hc, hzl, _, hcell, hwf⟩
 · exact ⟨none, 0, 0, [], rfl, aAE.nil 0 W none 0 (by decide)⟩
 · simp only [if_true] at hzl
   have hln : ((zs.take len).map Int.toNat).length = len := by rw [List.length_map, List.length_take]; omega
   have hw : aAE 0 W (.slice (some a) ((zs.take len).map Int.toNat).length cap) ((zs.take len).map Int.toNat) := by
     refine ⟨some a, cap, rfl, by omega, Nat.le_trans hc (by decide), ⟨fun u hu => ?_, fun e => by cases e⟩, fun i hi => ?_⟩
     · obtain ⟨z, hz, rfl⟩ := List.mem_map.1 hu
       have := bounds_u64 (hwf z (List.mem_of_mem_take hz))
       omega
     · have hg := aCN hi
       rw [hln] at hi
       have h1 := hcell i (by omega)
       obtain ⟨b, off, spot⟩ := a
       have hspot : spot = none := by
         have h2 := hcell 0 (by omega)
         simpa [Addr.add] using World.cell?_spot h2
       subst hspot
       refine ⟨b, off, rfl, Nat.zero_le _, ?_⟩
       have hb := bounds_u64 (hwf (zs.getD i 0) (by rw [List.getD_eq_getElem?_getD, List.getElem?_eq_getElem (show i < zs.length by omega)]; exact List.getElem_mem _))
       have e : gw ((zs.take len).map Int.toNat) i = (zs.getD i 0).toNat := by
         rw [hg, List.getElem_map, List.getElem_take, List.getD_eq_getElem?_getD, List.getElem?_eq_getElem (show i < zs.length by omega)]; rfl
       rw [e, Int.toNat_of_nonneg hb.1, <- h1]
       congr 1
       by_cases h0 : i = 0
       · subst h0; rfl
       · simp [Addr.add, h0]
   rw [hln] at hw
   exact ⟨_, _, _, _, rfl, hw⟩
theorem aQT {H : Type} {enc : TypeId × Value -> H} {W : World} {base base' : Nat} {v : Value} {d : DataW H} {ps : List MemPlace} (hok : Value.okWide Tryz.prog W .any base' 27 v) (hT : DataW.Trod enc Tryz.prog W base (fun _ => true) true 27 v d ps) :
   ∃ (ng : Bool) (x : Option Addr) (k c : Nat) (e : Int) (l : List Nat), v = .agg #[.bool ng, .slice x k c, .int .i64 e] /\ aAE 0 W (.slice x k c) l /\ (Lit.int .i64 e).wf = true := by
 obtain ⟨fuel, hv⟩ := hT
 obtain ⟨y0, y1, y2, m', hx', hl, u0, u1, u2⟩ := trod_struct3 Tryz.underlying27 hv
 have hC : Tryz.prog.cellsOf 27 = 3 := by kernel_rfl
 rw [hC] at hl
 obtain ⟨c0, c1, c2, hc⟩ : ∃ c0 c1 c2, v.cells.toList = [c0, c1, c2] := by
   match hcs : v.cells.toList, hl with
   | [a, b, c], _ => exact ⟨a, b, c, rfl⟩
 rw [hc] at u0 u1 u2
 have k0 : Tryz.prog.cellsOf 4 = 1 := by kernel_rfl
 have k1 : Tryz.prog.cellsOf 25 = 1 := by kernel_rfl
 have k2 : Tryz.prog.cellsOf 3 = 1 := by kernel_rfl
 simp only [k0, k1, k2, List.drop, List.take] at u0 u1 u2
 obtain ⟨ng, hc0, _⟩ := DataW.trod_bool Tryz.underlying4 u0
 obtain ⟨x, k, c, l, hc1, hw⟩ := aPj u1
 obtain ⟨e, hc2, _, he⟩ := DataW.trod_int Tryz.underlying3 u2
 simp only [List.cons.injEq, and_true] at hc0 hc1 hc2
 subst hc0; subst hc1; subst hc2
 refine ⟨ng, x, k, c, e, l, ?_, hw, he⟩
 cases v <;> simp [Value.cells, Value.okWide, Tryz.underlying27] at hc hok ⊢
 rename_i cs
 obtain ⟨l⟩ := cs
 simpa using hc
end
end Go.Proofs.YtgdkokgeldnliaaGreatDoor
