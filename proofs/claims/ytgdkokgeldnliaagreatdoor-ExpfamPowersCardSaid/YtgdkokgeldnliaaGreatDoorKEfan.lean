/- Contracts of functions and plain lemmas that the laws of this seat lean on. -/
import Derived.Test.YtgdkokgeldnliaaGreatDoorKEfaa
import Derived.Test.YtgdkokgeldnliaaGreatDoorKEfab
import Derived.Test.YtgdkokgeldnliaaGreatDoorKEfac
import Derived.Test.YtgdkokgeldnliaaGreatDoorKEfad
import Derived.Test.YtgdkokgeldnliaaGreatDoorKEfae
import Derived.Test.YtgdkokgeldnliaaGreatDoorKEfag
import Derived.Test.YtgdkokgeldnliaaGreatDoorKEfaj
import Derived.Test.YtgdkokgeldnliaaGreatDoorKEfal
import Derived.Test.YtgdkokgeldnliaaGreatDoorRows
import Derived.WalkKit
import Derived.WalkSpells
import Derived.WalkLawsBesides
import Derived.Lib.Hide
import Derived.Deep.QuietTactic
import Derived.BigQuiet
import Derived.Test.YtgdkokgeldnliaaGreatDoorShelf
import Derived.Lib.BitFns
import Derived.Lib.ItoaNum
import Derived.Lib.TrailingZeros
import Derived.Deep.DeepCutAuto
import Derived.Deep.CutBlock
import Derived.Laws.AppendOwn
import Derived.Laws.AppendOwnNone
import Derived.Laws.CopyOwn
import Derived.StillTail
import Derived.Below
import Derived.Deep.MidRow
import Derived.Laws.Tables
import Derived.Laws.CopyRow
import Derived.IntWalk
import Derived.RegionTactic
namespace Go.Proofs.YtgdkokgeldnliaaGreatDoor
set_option linter.unusedSimpArgs false
set_option linter.unusedVariables false
set_option linter.unusedSectionVars false
set_option linter.constructorNameAsVariable false
set_option linter.unnecessarySimpa false
section
theorem aOI {a b : D} (ha : a.canon) (hb : b.canon) (h : a.v = b.v) : a = b := by
 by_cases h0 : a.m = 0
 · have hb0 : b.m = 0 := aBL.1 (by rw [<- h]; exact aBL.2 h0)
   rcases ha with ha | ⟨a1, a2, a3⟩
   · omega
   rcases hb with hb | ⟨b1, b2, b3⟩
   · omega
   exact D.ext' (by rw [a2, b2]) (by rw [a1, b1]) (by rw [a3, b3])
 · have hb0 : b.m ≠ 0 := fun hb => h0 (aBL.1 (by rw [h]; exact aBL.2 hb))
   have ha1 : a.m % 2 = 1 := by rcases ha with ha | ⟨a1, _, _⟩ <;> omega
   have hb1 : b.m % 2 = 1 := by rcases hb with hb | ⟨b1, _, _⟩ <;> omega
   have hs : a.neg = b.neg := by
     rw [Bool.eq_iff_iff, aB0 h0, aB0 hb0, h]
   have hv : (a.m : Rat) * p2 a.e = (b.m : Rat) * p2 b.e := by
     have h2 := aVc b.neg
     unfold D.v at h
     rw [hs] at h
     grind
   have key : ∀ x y : D, x.m % 2 = 1 -> y.m % 2 = 1 -> x.e <= y.e -> (x.m : Rat) * p2 x.e = (y.m : Rat) * p2 y.e -> x.m = y.m /\ x.e = y.e := by
     intro x y hx hy hle hxy
     have e1 := aOk y.e x.e
     have e2 := aAz x.e
     have e3 : (x.m : Rat) * p2 x.e = ((y.m : Rat) * p2 (y.e - x.e)) * p2 x.e := by rw [hxy, <- e1]; grind
     have e4 : (x.m : Rat) = (y.m : Rat) * p2 (y.e - x.e) := by
       have := aWH x.e
       grind
     rw [<- aEC (by omega), <- Rat.natCast_mul, Rat.natCast_inj] at e4
     by_cases hk : (y.e - x.e).toNat = 0
     · rw [hk, Nat.pow_zero, Nat.mul_one] at e4
       exact ⟨e4, by omega⟩
     · obtain ⟨k, hk⟩ : ∃ k, (y.e - x.e).toNat = k + 1 := ⟨(y.e - x.e).toNat - 1, by omega⟩
       rw [hk, Nat.pow_succ, <- Nat.mul_assoc] at e4
       omega
   rcases Int.le_total a.e b.e with hle | hle
   · obtain ⟨h1, h2⟩ := key a b ha1 hb1 hle hv
     exact D.ext' hs h1 h2
   · obtain ⟨h1, h2⟩ := key b a hb1 ha1 hle hv.symm
     exact D.ext' hs h1.symm h2.symm
end
section
open Go.RowKit
theorem aKZ (a : Nat) (k : Int) (ha : Sr a) (h0 : 0 <= k) (hk : k <= 17592186044416) : AC Tryz.prog TabW 109 [.num a, .lit (.int .i64 k)] (.tup [.num (a / 2 ^ k.toNat), .lit (.bool (aEL a k.toNat))]) := by
 obtain ⟨n, rfl⟩ := Int.eq_ofNat_of_zero_le h0
 refine ⟨by kernel_rfl, fun S β w vs hI hS h => ?_⟩
 simp only [RepL, Rep] at h
 obtain ⟨va, _, rfl, h1, _, _, rfl, rfl, rfl⟩ := h
 have := aJz 0 va _ n w h1.1 (by have := aDl ha; omega) (by omega)
 rw [aAi] at this
 refine this.mono fun e w' h => ?_
 obtain ⟨v, h2, h3, h4⟩ := h
 refine ⟨_, h2, ?_, h4⟩
 have hr := aFE (β := β) hS h3
 simp only [Rep, RepL] at hr ⊢
 exact ⟨[_, _], rfl, _, _, rfl, hr, _, _, rfl, rfl, rfl⟩
end
section
set_option maxRecDepth 10000
set_option maxHeartbeats 1000000
open Go.RowKit
theorem aTt (a b : D) : aAL ((oneD a).neg != (oneD b).neg) ((oneD a).m * (oneD b).m) ((oneD a).e + (oneD b).e) = mulD a b :=
 aOI (aCz _ _ _) (aCz _ _ _) (by
   have h1 := aGA (oneD a) (oneD b)
   have h2 := aGA a b
   rw [aC6, aC6] at h1
   exact h1.trans h2.symm)
theorem aGg (a b : D) (h : bl a.m + bl b.m <= 50000000 /\ ae a + ae b <= 900000000000000) : AC Tryz.prog TabW 79 [dyV a, dyV b] (dyV (mulD a b)) /\ (bl (mulD a b).m <= bl a.m + bl b.m /\ ae (mulD a b) <= ae a + ae b + bl a.m + bl b.m) := by
 refine ⟨?_, aEK a b⟩
 rw [<- aTt]
 have o1 := aCw a (by omega)
 have o2 := aCw b (by omega)
 generalize oneD a = x at *
 generalize oneD b = y at *
 have ex : ae x = x.e.natAbs := rfl
 have ey : ae y = y.e.natAbs := rfl
 have hb := aHY x.m y.m
 refine aAd Tryz.func79 rfl (by kernel_rfl) aAc Tryz.mixed rfl rfl (by kernel_rfl) ?_
 simp only [aAl, Tryz.ntmps79, dyV, ivV, fxV]
 refine aAa fun K1 g1 => ?_
 refine aAb fun os => ?_
 try simp (disch := omega) only [xq, simprocAttr, dyV, ivV, fxV]
 refine g1 _ ?_
 refine aAa fun K2 g2 => ?_
 refine aAB (by kernel_rfl) fun os => ?_
 try simp (disch := omega) only [xq, simprocAttr, dyV, ivV, fxV]
 refine cxd (o1.1) ?_
 try simp (disch := omega) only [xq, simprocAttr, dyV, ivV, fxV]
 refine cxd (o2.1) ?_
 try simp (disch := omega) only [xq, simprocAttr, dyV, ivV, fxV]
 refine g2 _ ?_
 refine aAa fun K3 g3 => ?_
 refine aAB (by kernel_rfl) fun os => ?_
 try simp (disch := omega) only [xq, simprocAttr, dyV, ivV, fxV]
 refine cxd (aIj _ _ (aBf (by omega)) (aBf (by omega))) ?_
 try simp (disch := omega) only [xq, simprocAttr, dyV, ivV, fxV]
 refine cxd (aBZ _ _ _ (aBf (by omega)) (aD4 (by omega))) ?_
 try simp (disch := omega) only [xq, simprocAttr, dyV, ivV, fxV]
 refine g3 _ ?_
 refine aAe ?_
 simp only [endX, resX, resV, Tryz.results79]
 try simp (disch := omega) only [xq, simprocAttr, dyV, ivV, fxV]
 first | done | rfl
end
section
set_option maxRecDepth 10000
set_option maxHeartbeats 4000000
open Go.RowKit
theorem aPs {d : D} (h : d.canon) {k : Nat} (hk : 0 < k) (hm : d.m ≠ 0) : aEL d.m k = true := by
 have h1 := aKm h hk hm
 have h2 := Nat.div_add_mod d.m (2 ^ k)
 unfold aEL
 have h3 : d.m % 2 ^ k ≠ 0 := fun e => h1 (by rw [Nat.mul_comm]; omega)
 simpa using h3
theorem aJo (d : D) (p : Int) (up : Bool) (h : bl d.m <= 40000000 /\ ae d <= 900000000000000 /\ 0 <= p /\ p <= 1000000000000) : AC Tryz.prog TabW 112 [dyV d, .lit (.int .i64 p), .lit (.bool up)] (dyV (cutD d p up)) /\ (bl (cutD d p up).m <= bl d.m + 1 /\ ((bl (cutD d p up).m : Nat) : Int) <= max p 0 + 1 /\ ae (cutD d p up) <= ae d + 3 * bl d.m + p.natAbs + 1) := by
 refine ⟨?_, aHG d p up⟩
 have hr : cutD d p up = if ((bl (oneD d).m : Nat) : Int) - p <= 0 then oneD d else
 aAL (oneD d).neg ((oneD d).m / 2 ^ (((bl (oneD d).m : Nat) : Int) - p).toNat + (if up != (oneD d).neg then 1 else 0)) ((oneD d).e + (((bl (oneD d).m : Nat) : Int) - p)) := rfl
 rw [hr]
 clear hr
 have o1 := aCw d (by omega)
 have hcn := aB2 d
 generalize oneD d = x at *
 have ex : ae x = x.e.natAbs := rfl
 have hl := aG1 x.m (aBf (by omega))
 have hzz : x.m = 0 -> bl x.m = 0 := fun e => by rw [e]; rfl
 have hls : 0 < ((bl x.m : Nat) : Int) - p -> aEL x.m (((bl x.m : Nat) : Int) - p).toNat = true := fun h => aPs hcn (by omega) (fun e => by have := hzz e; omega)
 have b1 := aHX x.m (((bl x.m : Nat) : Int) - p).toNat
 have b2 := aCr (x.m / 2 ^ (((bl x.m : Nat) : Int) - p).toNat) 1
 have b3 : bl 1 = 1 := by decide
 have e1 : (1 : Int).toNat = 1 := rfl
 have hS : 0 < ((bl x.m : Nat) : Int) - p -> AC Tryz.prog TabW 109 [.num x.m, .lit (.int .i64 (((bl x.m : Nat) : Int) - p))] (.tup [.num (x.m / 2 ^ (((bl x.m : Nat) : Int) - p).toNat), .lit (.bool true)]) := fun h => by
   have := aKZ x.m (((bl x.m : Nat) : Int) - p) (aBf (by omega)) (by omega) (by omega)
   rwa [hls h] at this
 clear hls hcn hzz
 generalize x.m / 2 ^ (((bl x.m : Nat) : Int) - p).toNat = Q at *
 generalize bl x.m = n at *
 rw [show x.e + (((n : Nat) : Int) - p) = x.e + ((n : Nat) : Int) - p from by omega]
 refine aAd Tryz.func112 rfl (by kernel_rfl) aAc Tryz.mixed rfl rfl (by kernel_rfl) ?_
 simp only [aAl, Tryz.ntmps112, dyV, ivV, fxV]
 repeat' first
  | refine aAa fun K g => ?_
  | refine goK (by assumption) ?_
  | ((first | refine aAk ?_ | refine aAe ?_) <;> try simp only [aAm, aAg, reduceIte, Nat.reduceEqDiff])
  | ((first
  | refine aAU rfl fun os => ?_
  | refine aB7 ?_
  | refine cxo (o1.1) ?_
  | refine cxo (hl) ?_
  | refine cxo (hS (by omega)) ?_
  | refine cxo (aDE _ (by omega) (by omega)) ?_
  | refine cxo (aD9 _ _ (aBf (by omega)) (aBf (by omega))) ?_
  | refine cxo (aBZ _ _ _ (aBf (by omega)) (aD4 (by omega))) ?_
  | simp only [endX, resX, resV, Tryz.results112]) <;> try (simp (disch := omega) only [xq, simprocAttr, dyV, ivV, fxV, e1]))
  | (refine gx (fun c => ?_) (fun c => ?_) <;> first | exact absurd c (by decide) | ((try rw [c]); (try simp only [xn] at c); try (simp (disch := omega) only [xq, simprocAttr, dyV, ivV, fxV, e1])))
  | (refine aAf (by first | rfl | assumption) (fun c => ?_) (fun c => ?_) <;> first | exact absurd c (by decide) | ((try rw [c]); try simp only [xn] at c))
  | (repeat (first | rw [if_pos (by first | assumption | omega)] | rw [if_neg (by first | assumption | omega)])
     first | done | rfl | (simp [*]; done)
     done)
end
section
set_option maxRecDepth 10000
set_option maxHeartbeats 1000000
open Go.RowKit
theorem aMz (v : Iv) (p : Int) (h : ib v <= 30000000 /\ ie v <= 700000000000000 /\ 0 <= p /\ p <= 1000000000000) : AC Tryz.prog TabW 80 [ivV v, .lit (.int .i64 p)] (ivV (aAD v p)) /\ (ib (aAD v p) <= ib v + 1 /\ ((ib (aAD v p) : Nat) : Int) <= max p 0 + 1 /\ ie (aAD v p) <= ie v + 3 * ib v + p.natAbs + 1) := by
 refine ⟨?_, aIb v p⟩
 have hr : aAD v p = ⟨cutD v.lo p false, cutD v.hi p true⟩ := rfl
 rw [hr]
 clear hr
 have hv := aBe v
 refine aAd Tryz.func80 rfl (by kernel_rfl) aAc Tryz.mixed rfl rfl (by kernel_rfl) ?_
 simp only [aAl, Tryz.ntmps80, dyV, ivV, fxV]
 refine aAa fun K1 g1 => ?_
 refine aAb fun os => ?_
 try simp (disch := omega) only [xq, simprocAttr, dyV, ivV, fxV]
 refine g1 _ ?_
 refine aAa fun K2 g2 => ?_
 refine aAB (by kernel_rfl) fun os => ?_
 try simp (disch := omega) only [xq, simprocAttr, dyV, ivV, fxV]
 refine cxdz (aJo _ _ _ (by omega)) (fun z1 => ?_)
 try simp (disch := omega) only [xq, simprocAttr, dyV, ivV, fxV]
 refine cxdz (aJo _ _ _ (by omega)) (fun z2 => ?_)
 try simp (disch := omega) only [xq, simprocAttr, dyV, ivV, fxV]
 refine g2 _ ?_
 refine aAe ?_
 simp only [endX, resX, resV, Tryz.results80]
 try simp (disch := omega) only [xq, simprocAttr, dyV, ivV, fxV]
 first | done | rfl
def aWm (l : List D) : Prop := ∀ d ∈ l, bl d.m <= 2000000 /\ ae d <= 600000000000000
def aXf (x : D) (r : List D) (c0 : List AV) (ms : Nat) (σ : St) : Prop := ∃ (t : List (Nat × AV)) (rest : AMem) (i : Nat) (L H : D), σ = ⟨t, 45, (29, c0) :: (29, [.lit (.bool L.neg), .num L.m, .lit (.int .i64 L.e), .lit (.bool H.neg), .num H.m, .lit (.int .i64 H.e)]) :: rest⟩ /\ getT t 0 = .arr (r.length + 1) (aCq (x :: r)) /\ getT t 2 = .ptr 0 0 /\ getT t 3 = .ptr 1 0 /\ getT t 4 = .lit (.int .i64 ((i + 1 : Nat) : Int)) /\ (i <= r.length) /\ ((⟨L, H⟩ : Iv) = aH3 x (r.take i)) /\ ms = r.length - i
theorem aRT (x : D) (r : List D) (hn : r.length <= 1000) (hok : aWm (x :: r)) : AC Tryz.prog TabW 81 [.arr (r.length + 1) (aCq (x :: r))] (ivV (aH3 x r)) := by
 have hex : aCq (x :: r) = .lit (.bool x.neg) :: .num x.m :: .lit (.int .i64 x.e) :: aCq r := rfl
 refine aAd Tryz.func81 rfl (by kernel_rfl) aAc Tryz.mixed (by simp only [noPtrL, noPtr, aLs]; rfl) rfl (by kernel_rfl) ?_
 simp only [aAl, Tryz.ntmps81, dyV, ivV, fxV]
 refine aAa fun K1 g1 => ?_
 refine aAb fun os => ?_
 try simp (disch := omega) only [xq, simprocAttr, dyV, ivV, fxV]
 refine g1 _ ?_
 refine aAa fun K2 g2 => ?_
 have hlt : (0 : Int) < ((r.length + 1 : Nat) : Int) := by omega
 have h3l : (3 : Nat) <= (aCq (x :: r)).length := by rw [aHI]; simp only [List.length_cons]; omega
 refine aAB (by kernel_rfl) fun os => ?_
 try simp (disch := omega) only [xq, simprocAttr, dyV, ivV, fxV, hlt, hex]
 refine g2 _ ?_
 refine aAa fun K3 g3 => ?_
 refine aAa fun K4 g4 => ?_
 refine aAb fun os => ?_
 try simp (disch := omega) only [xq, simprocAttr, dyV, ivV, fxV, hlt, hex]
 refine g4 _ ?_
 refine aAv ?_
 refine aDg (aXf x r _) _ ⟨_, [], 0, x, x, rfl, (by first | rfl | assumption | (simp (disch := omega) only [xq, simprocAttr, dyV, ivV, fxV, hlt, hex] <;> rfl)), (by first | rfl | assumption | (simp (disch := omega) only [xq, simprocAttr, dyV, ivV, fxV, hlt, hex] <;> rfl)), (by first | rfl | assumption | (simp (disch := omega) only [xq, simprocAttr, dyV, ivV, fxV, hlt, hex] <;> rfl)), (by first | rfl | assumption | (simp (disch := omega) only [xq, simprocAttr, dyV, ivV, fxV, hlt, hex] <;> rfl)), (Nat.zero_le _), rfl, rfl⟩ ?_
 rintro ms _ ⟨t, rest, i, L, H, rfl, Span6R_t0, Span6R_t2, Span6R_t3, Span6R_t4, hi, hv, rfl⟩
 refine aAa fun K5 g5 => ?_
 refine aAa fun K6 g6 => ?_
 refine aAb fun os => ?_
 try simp (disch := omega) only [xq, simprocAttr, dyV, ivV, fxV, hlt, hex, Span6R_t0, Span6R_t2, Span6R_t3, Span6R_t4]
 refine g6 _ ?_
 refine aAf (by first | rfl | assumption) (fun c1 => ?_) (fun c1 => ?_)
 ·try simp only [xn] at c1
  refine aAk ?_
  simp only [aAm, aAg, reduceIte, Nat.reduceEqDiff]
  refine g5 _ ?_
  refine aAa fun K7 g7 => ?_
  refine aAv ?_
  refine aAa fun K8 g8 => ?_
  refine aAa fun K9 g9 => ?_
  have hex' := hex
  obtain ⟨d, hd⟩ : ∃ d, r[i]? = some d := ⟨r[i], List.getElem?_eq_getElem (by omega)⟩
  have hd3 := List.drop_eq_getElem_cons (l := r) (i := i) (by omega)
  have hd4 : r[i] = d := by rw [List.getElem?_eq_getElem (by omega)] at hd; exact Option.some.inj hd
  have htl : (AV.lit (.bool x.neg) :: .num x.m :: .lit (.int .i64 x.e) :: aCq r).drop ((i + 1) * 3) = .lit (.bool d.neg) :: .num d.m :: .lit (.int .i64 d.e) :: aCq (r.drop (i + 1)) := by rw [<- hex, aGL, List.drop_succ_cons, hd3, hd4]; rfl
  have hc : 0 <= ((i + 1 : Nat) : Int) /\ ((i + 1 : Nat) : Int) < ((r.length + 1 : Nat) : Int) := by omega
  have okd := hok d (List.mem_cons_of_mem _ (List.mem_of_getElem? hd))
  have mem := aLP x (r.take i)
  rw [<- hv] at mem
  have okL := hok L (by rcases List.mem_cons.1 mem.1 with h | h; rw [show L = x from h]; exact List.mem_cons_self; exact List.mem_cons_of_mem _ (List.mem_of_mem_take h))
  have okH := hok H (by rcases List.mem_cons.1 mem.2 with h | h; rw [show H = x from h]; exact List.mem_cons_self; exact List.mem_cons_of_mem _ (List.mem_of_mem_take h))
  refine aAB (by kernel_rfl) fun os => ?_
  try simp (disch := omega) only [xq, simprocAttr, dyV, ivV, fxV, hlt, hex, Span6R_t0, Span6R_t2, Span6R_t3, Span6R_t4, hc, htl]
  refine cxd (aAI _ _ (by omega)) ?_
  try simp (disch := omega) only [xq, simprocAttr, dyV, ivV, fxV, hlt, hex, Span6R_t0, Span6R_t2, Span6R_t3, Span6R_t4, hc, htl]
  refine g9 _ ?_
  refine aAf (by first | rfl | assumption) (fun c2 => ?_) (fun c2 => ?_)
  ·try simp only [xn] at c2
   have e2 : minD L d = d := if_pos c2
   refine aAb fun os => ?_
   try simp (disch := omega) only [xq, simprocAttr, dyV, ivV, fxV, hlt, hex, Span6R_t0, Span6R_t2, Span6R_t3, Span6R_t4, hc, htl, hc, htl]
   refine g8 _ ?_
   refine aAa fun K10 g10 => ?_
   refine aAB (by kernel_rfl) fun os => ?_
   try simp (disch := omega) only [xq, simprocAttr, dyV, ivV, fxV, hlt, hex, Span6R_t0, Span6R_t2, Span6R_t3, Span6R_t4, hc, htl, hc, htl, hc, htl]
   refine cxd (aAI _ _ (by omega)) ?_
   try simp (disch := omega) only [xq, simprocAttr, dyV, ivV, fxV, hlt, hex, Span6R_t0, Span6R_t2, Span6R_t3, Span6R_t4, hc, htl, hc, htl, hc, htl]
   refine g10 _ ?_
   refine aAf (by first | rfl | assumption) (fun c3 => ?_) (fun c3 => ?_)
   ·try simp only [xn] at c3
    have e3 : maxD H d = d := if_pos c3
    refine aAb fun os => ?_
    try simp (disch := omega) only [xq, simprocAttr, dyV, ivV, fxV, hlt, hex, Span6R_t0, Span6R_t2, Span6R_t3, Span6R_t4, hc, htl, hc, htl, hc, htl, hc, htl]
    refine g7 _ ?_
    refine aAb fun os => ?_
    try simp (disch := omega) only [xq, simprocAttr, dyV, ivV, fxV, hlt, hex, Span6R_t0, Span6R_t2, Span6R_t3, Span6R_t4, hc, htl, hc, htl, hc, htl, hc, htl]
    exact ⟨_, (by omega), ⟨_, _, (i + 1), _, _, rfl, (by first | rfl | assumption | (simp (disch := omega) only [xq, simprocAttr, dyV, ivV, fxV, hlt, hex, Span6R_t0, Span6R_t2, Span6R_t3, Span6R_t4, hc, htl, hc, htl, hc, htl, hc, htl] <;> rfl)), (by first | rfl | assumption | (simp (disch := omega) only [xq, simprocAttr, dyV, ivV, fxV, hlt, hex, Span6R_t0, Span6R_t2, Span6R_t3, Span6R_t4, hc, htl, hc, htl, hc, htl, hc, htl] <;> rfl)), (by first | rfl | assumption | (simp (disch := omega) only [xq, simprocAttr, dyV, ivV, fxV, hlt, hex, Span6R_t0, Span6R_t2, Span6R_t3, Span6R_t4, hc, htl, hc, htl, hc, htl, hc, htl] <;> rfl)), (by first | rfl | assumption | (simp (disch := omega) only [xq, simprocAttr, dyV, ivV, fxV, hlt, hex, Span6R_t0, Span6R_t2, Span6R_t3, Span6R_t4, hc, htl, hc, htl, hc, htl, hc, htl] <;> rfl)), (by omega), (by rw [aDc x r i d hd, <- hv]; simp only [e2, e3]), rfl⟩⟩
   ·try simp only [xn] at c3
    have e3 : maxD H d = H := if_neg (by omega)
    refine aAk ?_
    simp only [aAm, aAg, reduceIte, Nat.reduceEqDiff]
    refine g7 _ ?_
    refine aAb fun os => ?_
    try simp (disch := omega) only [xq, simprocAttr, dyV, ivV, fxV, hlt, hex, Span6R_t0, Span6R_t2, Span6R_t3, Span6R_t4, hc, htl, hc, htl, hc, htl]
    exact ⟨_, (by omega), ⟨_, _, (i + 1), _, _, rfl, (by first | rfl | assumption | (simp (disch := omega) only [xq, simprocAttr, dyV, ivV, fxV, hlt, hex, Span6R_t0, Span6R_t2, Span6R_t3, Span6R_t4, hc, htl, hc, htl, hc, htl] <;> rfl)), (by first | rfl | assumption | (simp (disch := omega) only [xq, simprocAttr, dyV, ivV, fxV, hlt, hex, Span6R_t0, Span6R_t2, Span6R_t3, Span6R_t4, hc, htl, hc, htl, hc, htl] <;> rfl)), (by first | rfl | assumption | (simp (disch := omega) only [xq, simprocAttr, dyV, ivV, fxV, hlt, hex, Span6R_t0, Span6R_t2, Span6R_t3, Span6R_t4, hc, htl, hc, htl, hc, htl] <;> rfl)), (by first | rfl | assumption | (simp (disch := omega) only [xq, simprocAttr, dyV, ivV, fxV, hlt, hex, Span6R_t0, Span6R_t2, Span6R_t3, Span6R_t4, hc, htl, hc, htl, hc, htl] <;> rfl)), (by omega), (by rw [aDc x r i d hd, <- hv]; simp only [e2, e3]), rfl⟩⟩
  ·try simp only [xn] at c2
   have e2 : minD L d = L := if_neg (by omega)
   refine aAk ?_
   simp only [aAm, aAg, reduceIte, Nat.reduceEqDiff]
   refine g8 _ ?_
   refine aAa fun K11 g11 => ?_
   refine aAB (by kernel_rfl) fun os => ?_
   try simp (disch := omega) only [xq, simprocAttr, dyV, ivV, fxV, hlt, hex, Span6R_t0, Span6R_t2, Span6R_t3, Span6R_t4, hc, htl, hc, htl]
   refine cxd (aAI _ _ (by omega)) ?_
   try simp (disch := omega) only [xq, simprocAttr, dyV, ivV, fxV, hlt, hex, Span6R_t0, Span6R_t2, Span6R_t3, Span6R_t4, hc, htl, hc, htl]
   refine g11 _ ?_
   refine aAf (by first | rfl | assumption) (fun c4 => ?_) (fun c4 => ?_)
   ·try simp only [xn] at c4
    have e3 : maxD H d = d := if_pos c4
    refine aAb fun os => ?_
    try simp (disch := omega) only [xq, simprocAttr, dyV, ivV, fxV, hlt, hex, Span6R_t0, Span6R_t2, Span6R_t3, Span6R_t4, hc, htl, hc, htl, hc, htl]
    refine g7 _ ?_
    refine aAb fun os => ?_
    try simp (disch := omega) only [xq, simprocAttr, dyV, ivV, fxV, hlt, hex, Span6R_t0, Span6R_t2, Span6R_t3, Span6R_t4, hc, htl, hc, htl, hc, htl]
    exact ⟨_, (by omega), ⟨_, _, (i + 1), _, _, rfl, (by first | rfl | assumption | (simp (disch := omega) only [xq, simprocAttr, dyV, ivV, fxV, hlt, hex, Span6R_t0, Span6R_t2, Span6R_t3, Span6R_t4, hc, htl, hc, htl, hc, htl] <;> rfl)), (by first | rfl | assumption | (simp (disch := omega) only [xq, simprocAttr, dyV, ivV, fxV, hlt, hex, Span6R_t0, Span6R_t2, Span6R_t3, Span6R_t4, hc, htl, hc, htl, hc, htl] <;> rfl)), (by first | rfl | assumption | (simp (disch := omega) only [xq, simprocAttr, dyV, ivV, fxV, hlt, hex, Span6R_t0, Span6R_t2, Span6R_t3, Span6R_t4, hc, htl, hc, htl, hc, htl] <;> rfl)), (by first | rfl | assumption | (simp (disch := omega) only [xq, simprocAttr, dyV, ivV, fxV, hlt, hex, Span6R_t0, Span6R_t2, Span6R_t3, Span6R_t4, hc, htl, hc, htl, hc, htl] <;> rfl)), (by omega), (by rw [aDc x r i d hd, <- hv]; simp only [e2, e3]), rfl⟩⟩
   ·try simp only [xn] at c4
    have e3 : maxD H d = H := if_neg (by omega)
    refine aAk ?_
    simp only [aAm, aAg, reduceIte, Nat.reduceEqDiff]
    refine g7 _ ?_
    refine aAb fun os => ?_
    try simp (disch := omega) only [xq, simprocAttr, dyV, ivV, fxV, hlt, hex, Span6R_t0, Span6R_t2, Span6R_t3, Span6R_t4, hc, htl, hc, htl]
    exact ⟨_, (by omega), ⟨_, _, (i + 1), _, _, rfl, (by first | rfl | assumption | (simp (disch := omega) only [xq, simprocAttr, dyV, ivV, fxV, hlt, hex, Span6R_t0, Span6R_t2, Span6R_t3, Span6R_t4, hc, htl, hc, htl] <;> rfl)), (by first | rfl | assumption | (simp (disch := omega) only [xq, simprocAttr, dyV, ivV, fxV, hlt, hex, Span6R_t0, Span6R_t2, Span6R_t3, Span6R_t4, hc, htl, hc, htl] <;> rfl)), (by first | rfl | assumption | (simp (disch := omega) only [xq, simprocAttr, dyV, ivV, fxV, hlt, hex, Span6R_t0, Span6R_t2, Span6R_t3, Span6R_t4, hc, htl, hc, htl] <;> rfl)), (by first | rfl | assumption | (simp (disch := omega) only [xq, simprocAttr, dyV, ivV, fxV, hlt, hex, Span6R_t0, Span6R_t2, Span6R_t3, Span6R_t4, hc, htl, hc, htl] <;> rfl)), (by omega), (by rw [aDc x r i d hd, <- hv]; simp only [e2, e3]), rfl⟩⟩
 ·try simp only [xn] at c1
  refine aDh ?_
  simp only [aAm, aAg, reduceIte, Nat.reduceEqDiff]
  refine g3 _ ?_
  refine aAa fun K12 g12 => ?_
  refine aAb fun os => ?_
  try simp (disch := omega) only [xq, simprocAttr, dyV, ivV, fxV, hlt, hex, Span6R_t0, Span6R_t2, Span6R_t3, Span6R_t4]
  refine g12 _ ?_
  refine aAe ?_
  simp only [endX, resX, resV, Tryz.results81]
  try simp (disch := omega) only [xq, simprocAttr, dyV, ivV, fxV, hlt, hex, Span6R_t0, Span6R_t2, Span6R_t3, Span6R_t4]
  rw [List.take_of_length_le (by omega)] at hv
  rw [<- hv]
end
section
set_option maxRecDepth 10000
set_option maxHeartbeats 4000000
open Go.RowKit
theorem ds4R {a b c d : D} (ha : bl a.m <= 2000000 /\ ae a <= 600000000000000) (hb : bl b.m <= 2000000 /\ ae b <= 600000000000000) (hc : bl c.m <= 2000000 /\ ae c <= 600000000000000) (hd : bl d.m <= 2000000 /\ ae d <= 600000000000000) : aWm [a, b, c, d] := by
 intro x hx
 simp only [List.mem_cons, List.not_mem_nil, or_false] at hx
 rcases hx with rfl | rfl | rfl | rfl <;> assumption
theorem aNJ (a b c d : D) (h : aWm [a, b, c, d]) : AC Tryz.prog TabW 81 [.arr 4 [.lit (.bool a.neg), .num a.m, .lit (.int .i64 a.e), .lit (.bool b.neg), .num b.m, .lit (.int .i64 b.e), .lit (.bool c.neg), .num c.m, .lit (.int .i64 c.e), .lit (.bool d.neg), .num d.m, .lit (.int .i64 d.e)]] (ivV ⟨lo4 a b c d, hi4 a b c d⟩) := aRT a [b, c, d] (by simp) h
theorem aCP (a b : Iv) (p : Int) (h : ib a + ib b <= 1900000 /\ ie a + ie b <= 500000000000000 /\ 0 <= p /\ p <= 1000000000000) : AC Tryz.prog TabW 37 [ivV a, ivV b, .lit (.int .i64 p)] (ivV (aAF a b p)) /\ (((ib (aAF a b p) : Nat) : Int) <= max p 0 + 1 /\ ie (aAF a b p) <= ie a + ie b + 4 * ib a + 4 * ib b + p.natAbs + 1) := by
 have ha := aBe a
 have hb := aBe b
 have m1 := aGg a.lo b.lo (by omega)
 have m2 := aGg a.lo b.hi (by omega)
 have m3 := aGg a.hi b.lo (by omega)
 have m4 := aGg a.hi b.hi (by omega)
 have hr : aAF a b p = aAD ⟨lo4 (mulD a.lo b.lo) (mulD a.lo b.hi) (mulD a.hi b.lo) (mulD a.hi b.hi), hi4 (mulD a.lo b.lo) (mulD a.lo b.hi) (mulD a.hi b.lo) (mulD a.hi b.hi)⟩ p := rfl
 have hB : 0 <= ib a + ib b /\ 0 <= ie a + ie b := ⟨Nat.zero_le _, Nat.zero_le _⟩
 have g0 := aHl (B := ib a + ib b) (E := ie a + ie b + ib a + ib b) (a := mulD a.lo b.lo) (b := mulD a.lo b.hi) (c := mulD a.hi b.lo) (d := mulD a.hi b.hi) (by omega) (by omega) (by omega) (by omega)
 have g3 := mk_b g0.1 g0.2
 have q5 := aNJ (mulD a.lo b.lo) (mulD a.lo b.hi) (mulD a.hi b.lo) (mulD a.hi b.hi) (ds4R (by omega) (by omega) (by omega) (by omega))
 have q6 := (aMz ⟨lo4 (mulD a.lo b.lo) (mulD a.lo b.hi) (mulD a.hi b.lo) (mulD a.hi b.hi), hi4 (mulD a.lo b.lo) (mulD a.lo b.hi) (mulD a.hi b.lo) (mulD a.hi b.hi)⟩ p (by clear m1 m2 m3 m4 g0; omega)).1
 refine ⟨?_, aGT a b p⟩
 rw [hr]
 clear hr g0 g3 hB
 replace m1 := m1.1
 replace m2 := m2.1
 replace m3 := m3.1
 replace m4 := m4.1
 generalize mulD a.lo b.lo = M1 at *
 generalize mulD a.lo b.hi = M2 at *
 generalize mulD a.hi b.lo = M3 at *
 generalize mulD a.hi b.hi = M4 at *
 refine aAd Tryz.func37 rfl (by kernel_rfl) aAc Tryz.mixed rfl rfl (by kernel_rfl) ?_
 simp only [aAl, Tryz.ntmps37, dyV, ivV, fxV]
 refine aAa fun K1 g1 => ?_
 refine aAb fun os => ?_
 try simp (disch := omega) only [xq, simprocAttr, dyV, ivV, fxV]
 refine g1 _ ?_
 refine aAa fun K2 g2 => ?_
 refine aAB (by kernel_rfl) fun os => ?_
 try simp (disch := omega) only [xq, simprocAttr, dyV, ivV, fxV]
 refine cxd (m1) ?_
 try simp (disch := omega) only [xq, simprocAttr, dyV, ivV, fxV]
 refine cxd (m2) ?_
 try simp (disch := omega) only [xq, simprocAttr, dyV, ivV, fxV]
 refine cxd (m3) ?_
 try simp (disch := omega) only [xq, simprocAttr, dyV, ivV, fxV]
 refine cxd (m4) ?_
 try simp (disch := omega) only [xq, simprocAttr, dyV, ivV, fxV]
 refine g2 _ ?_
 refine aAa fun K3 g3 => ?_
 refine aAb fun os => ?_
 try simp (disch := omega) only [xq, simprocAttr, dyV, ivV, fxV]
 refine cxo (q5) ?_
 try simp (disch := omega) only [xq, simprocAttr, dyV, ivV, fxV]
 refine cxo (q6) ?_
 try simp (disch := omega) only [xq, simprocAttr, dyV, ivV, fxV]
 refine g3 _ ?_
 refine aAe ?_
 simp only [endX, resX, resV, Tryz.results37]
 try simp (disch := omega) only [xq, simprocAttr, dyV, ivV, fxV]
 first | done | rfl
end
end Go.Proofs.YtgdkokgeldnliaaGreatDoor
