/- Contracts of functions and plain lemmas that the laws of this seat lean on. -/
import Derived.Test.YtgdkokgeldnliaaGreatDoorKEfaa
import Derived.Test.YtgdkokgeldnliaaGreatDoorKEfab
import Derived.Test.YtgdkokgeldnliaaGreatDoorKEfac
import Derived.Test.YtgdkokgeldnliaaGreatDoorKEfad
import Derived.Test.YtgdkokgeldnliaaGreatDoorKEfae
import Derived.Test.YtgdkokgeldnliaaGreatDoorKEfaf
import Derived.Test.YtgdkokgeldnliaaGreatDoorKEfag
import Derived.Test.YtgdkokgeldnliaaGreatDoorKEfah
import Derived.Test.YtgdkokgeldnliaaGreatDoorKEfai
import Derived.Test.YtgdkokgeldnliaaGreatDoorRows
import Derived.WalkKit
import Derived.WalkSpells
import Derived.WalkLawsBesides
import Derived.Lib.Hide
import Derived.Deep.QuietTactic
import Derived.BigQuiet
import Derived.Laws.AppendOwnNone
import Derived.Laws.AppendOwn
import Derived.Laws.CopyOwn
import Derived.Test.YtgdkokgeldnliaaGreatDoorShelf
import Derived.Lib.BitFns
import Derived.Lib.ItoaNum
import Derived.Lib.TrailingZeros
import Derived.Deep.DeepCutAuto
import Derived.Deep.CutBlock
import Derived.RegionTactic
import Derived.StillTail
import Derived.Below
import Derived.Deep.MidRow
import Derived.Laws.Tables
import Derived.Laws.CopyRow
import Derived.IntWalk
namespace Go.Proofs.YtgdkokgeldnliaaGreatDoor
set_option linter.unusedSimpArgs false
set_option linter.unusedVariables false
set_option linter.unusedSectionVars false
set_option linter.constructorNameAsVariable false
set_option linter.unnecessarySimpa false
section
set_option maxRecDepth 100000
set_option maxHeartbeats 2000000
open Go.RowKit
theorem aSD (lo : Nat) (a : Value) (l : List Nat) (i : Nat) (w : World) (ha : aAE lo w a l) (hi : i <= 4611686018427387904) :
   Calls Tryz.prog 147 #[a, .int .i64 ((i : Nat) : Int)] w fun e w' => e = .returned (.bool (valN l / 2 ^ i % 2 == 1)) /\ w = w' := by
 have hb := aSc ha.ok i
 have hg := aA3 ha.ok (i / 64)
 obtain ⟨q, hq⟩ : ∃ q, i / 64 = q := ⟨_, rfl⟩
 obtain ⟨r, hr⟩ : ∃ r, i % 64 = r := ⟨_, rfl⟩
 rw [hq, hr] at hb
 rw [hq] at hg
 have hqi : ((i : Nat) : Int) / 64 = ((q : Nat) : Int) := by omega
 have hri : ((i : Nat) : Int) % 64 = ((r : Nat) : Int) := by omega
 have hr64 : r < 64 := by omega
 have hw := fun w ha => aC9 lo a l q w ha
 obtain ⟨t, ht⟩ : ∃ t, gw l q / 2 ^ r % 2 = t := ⟨_, rfl⟩
 have hti : (((gw l q : Nat) : Int) / 2 ^ r).tmod 2 = ((t : Nat) : Int) := by rw [aD8, Int.tmod_eq_emod_of_nonneg (Int.natCast_nonneg _)]; omega
 rw [hb, ht]
 have hfin : (((t : Nat) : Int) == 1) = (t == 1) := by
   rw [Bool.eq_iff_iff, beq_iff_eq, beq_iff_eq]; omega
 have HF := Lib.hid hfin
 have HW := Lib.hid hw
 have HA := Lib.hid ha
 clear hb ht hq hr hfin hw ha
 generalize gw l q = g at *
 go_enter Tryz.func147, Tryz.ntmps147
 go_wp2_with fail
 refine (HW.out _ HA.out).mono ?_
 rintro e w1 ⟨rfl, hw⟩
 subst hw
 go_wp2_with fail
 go_ret
 exact ⟨by rw [<- HF.out]; rfl, rfl⟩
theorem aU6 {n : Nat} (h0 : n ≠ 0) : (∀ k, k < tz n -> (n / 2 ^ k % 2 == 1) = false) /\ (n / 2 ^ tz n % 2 == 1) = true := by
 obtain ⟨m, hm1, hm2⟩ := aGr h0
 constructor
 · intro k hk
   rw [beq_eq_false_iff_ne]
   have e : n / 2 ^ k % 2 = 0 := by
     have e2 : n = 2 ^ k * (2 ^ (tz n - k) * m) := by
       rw [<- Nat.mul_assoc, <- Nat.pow_add, show k + (tz n - k) = tz n by omega]; exact hm1
     conv => lhs; arg 1; arg 1; rw [e2]
     rw [Nat.mul_div_cancel_left _ (Nat.two_pow_pos k), show tz n - k = (tz n - k - 1) + 1 by omega, Nat.pow_succ]
     have : 2 ^ (tz n - k - 1) * 2 * m = 2 * (2 ^ (tz n - k - 1) * m) := by ac_rfl
     rw [this]
     omega
   omega
 · have e : n / 2 ^ tz n = m := by
     conv => lhs; arg 1; rw [hm1]
     exact Nat.mul_div_cancel_left _ (Nat.two_pow_pos _)
   rw [e, hm2]
   rfl
theorem aSx (lo : Nat) (a : Value) (l : List Nat) (w : World) (ha : aAE lo w a l) (hl : l.length <= 17592186044416) :
   Calls Tryz.prog 108 #[a] w fun e w' => e = .returned (.int .i64 ((tz (valN l) : Nat) : Int)) /\ Below w.heap.size w w' := by
 have hlen := aFV lo a l w ha hl
 have hok := aBr ha.ok
 have hbl : bl (valN l) <= 64 * l.length := aC8 (by rw [<- aDo]; exact hok)
 have hbit := fun i w ha hi => aSD lo a l i w ha hi
 clear hok
 generalize valN l = n at *
 have HL := Lib.hid hlen
 have HB := Lib.hid hbit
 clear hlen hbit
 by_cases h0 : n = 0
 · subst h0
   rw [aP1]
   rw [aGM] at HL
   go_enter Tryz.func108, Tryz.ntmps108
   go_wp2_with fail
   refine HL.out.mono ?_
   rintro e w1 ⟨rfl, hb1⟩
   clear HL
   go_wp2_with fail
   go_ret
   exact ⟨rfl, hb1⟩
 · have hbp := aD6 h0
   have htz := aMW h0
   obtain ⟨hlow, hhi⟩ := aU6 h0
   have HLO := Lib.hid hlow
   have HHI := Lib.hid hhi
   clear hlow hhi
   generalize tz n = z at *
   generalize hbn : bl n = b at *
   clear hbn
   have hb0 : (((b : Nat) : Int) == 0) = false := beq_eq_false_iff_ne.2 (by omega)
   go_enter Tryz.func108, Tryz.ntmps108
   go_wp2_with fail
   refine HL.out.mono ?_
   rintro e w1 ⟨rfl, hb1⟩
   clear HL
   have ha1 := ha.call hb1
   clear ha
   go_wp2_with fail
   go_loop [3] (fun u3 => ∃ k : Nat, k <= z /\ u3 = .int .i64 ((k : Nat) : Int)) (fun u3 => z - (intOf u3).toNat)
   case atStart => exact ⟨0, Nat.zero_le _, rfl⟩
   case round =>
     obtain ⟨k, hk, rfl⟩ := hrel
     by_cases hkz : k = z
     · subst hkz
       have hbk := HB.out k w1 ha1 (by omega)
       rw [HHI.out] at hbk
       have HBK := Lib.hid hbk
       clear hbk
       go_wp2_with fail
       refine HBK.out.mono ?_
       rintro e w2 ⟨rfl, hw⟩
       subst hw
       go_wp2_with fail
       go_ret
       exact ⟨rfl, hb1⟩
     · have hbk := HB.out k w1 ha1 (by omega)
       rw [HLO.out k (by omega)] at hbk
       have HBK := Lib.hid hbk
       clear hbk
       go_wp2_with fail
       refine HBK.out.mono ?_
       rintro e w2 ⟨rfl, hw⟩
       subst hw
       go_wp2_with fail
       go_round
       case rel => exact ⟨k + 1, by omega, by go_num⟩
       case measure => simp [intOf]; omega
theorem aHM {x y : List Nat} (hx : okW x) {k : Nat} (hs : ∀ j, k < j -> gw x j = gw y j) (h : gw x k < gw y k) : cmpN (valN x) (valN y) = -1 /\ cmpN (valN y) (valN x) = 1 := by
 have hlt : valN x < valN y := by
   let n := max x.length y.length + k + 1
   have e1 := aBn x n (by omega)
   have e2 := aBn y n (by omega)
   have step : ∀ d, vt x (k + 1 + d) < vt y (k + 1 + d) := by
     intro d
     induction d with
     | zero =>
       rw [Nat.add_zero, aAC, aAC]
       have h1 := aJE hx k
       have h2 : (gw x k + 1) * pw k <= gw y k * pw k := Nat.mul_le_mul_right _ h
       rw [Nat.add_mul, Nat.one_mul] at h2
       omega
     | succ d ih =>
       rw [show k + 1 + (d + 1) = (k + 1 + d) + 1 by omega, aAC, aAC, hs _ (by omega)]
       omega
   have h1 := step (max x.length y.length)
   rw [show k + 1 + max x.length y.length = n by omega] at h1
   omega
 unfold cmpN
 rw [if_pos hlt, if_neg (by omega), if_pos hlt]
 exact ⟨rfl, rfl⟩
theorem aMU {x y : List Nat} (hs : ∀ j, gw x j = gw y j) : valN x = valN y := by
 have e1 := aBn x (x.length + y.length) (by omega)
 have e2 := aBn y (x.length + y.length) (by omega)
 rw [<- e1, <- e2]
 generalize x.length + y.length = n
 induction n with
 | zero => rfl
 | succ n ih => rw [aAC, aAC, ih, hs]
theorem aMR (lo : Nat) (a b : Value) (x y : List Nat) (w : World) (ha : aAE lo w a x) (hb : aAE lo w b y) :
   Calls Tryz.prog 77 #[a, b] w fun e w' => e = .returned (.int .i64 (cmpN (valN x) (valN y))) /\ w = w' := by
 have hwa := fun i => aC9 lo a x i w ha
 have hwb := fun i => aC9 lo b y i w hb
 have hokx := ha.ok
 have hoky := hb.ok
 obtain ⟨pa, ca, rfl, hca, hcma, _, hxa⟩ := ha
 obtain ⟨pb, cb, rfl, hcb, hcmb, _, hxb⟩ := hb
 have HWA := Lib.hid hwa
 have HWB := Lib.hid hwb
 clear hwa hwb hxa hxb
 obtain ⟨R, hR⟩ : ∃ R, cmpN (valN x) (valN y) = R := ⟨_, rfl⟩
 rw [hR]
 have HR := Lib.hid hR
 clear hR
 obtain ⟨M, hM⟩ : ∃ M, max x.length y.length = M := ⟨_, rfl⟩
 have hMi : max ((x.length : Nat) : Int) ((y.length : Nat) : Int) = ((M : Nat) : Int) := by omega
 go_enter Tryz.func77, Tryz.ntmps77
 go_wp2_with fail
 go_loop [5] (fun u => ∃ k : Nat, k <= M /\ u = .int .i64 (((k : Nat) : Int) - 1) /\ Hid (∀ j, k <= j -> gw x j = gw y j)) (fun u => (intOf u + 1).toNat)
 case atStart => exact ⟨M, Nat.le_refl _, by rw [<- hMi], fun j hj => by rw [aGk (by omega), aGk (by omega)]⟩
 case round =>
   obtain ⟨k, hk, rfl, hs⟩ := hrel
   by_cases h0 : k = 0
   · subst h0
     have hv := aMU (fun j => hs.out j (by omega))
     have hf : cmpN (valN x) (valN y) = 0 := by unfold cmpN; rw [if_neg (by omega), if_neg (by omega)]
     rw [HR.out] at hf
     subst hf
     clear hs hv HR
     go_wp2_with fail
     go_ret
     exact ⟨rfl, rfl⟩
   · obtain ⟨m, rfl⟩ : ∃ m, k = m + 1 := ⟨k - 1, by omega⟩
     have hcast : (((m + 1 : Nat) : Int) - 1) = ((m : Nat) : Int) := by omega
     rw [hcast]
     have hgx := aA3 hokx m
     have hgy := aA3 hoky m
     have hA := HWA.out m
     have hB := HWB.out m
     by_cases h1 : gw x m < gw y m
     · obtain ⟨hf, _⟩ := aHM hokx (fun j hj => hs.out j hj) h1
       rw [HR.out] at hf
       subst hf
       have HA := Lib.hid hA
       have HB := Lib.hid hB
       have d1 : decide (((gw x m : Nat) : Int) < ((gw y m : Nat) : Int)) = true := decide_eq_true (by omega)
       clear hs HR hcast hA hB
       generalize gw x m = gx at *
       generalize gw y m = gy at *
       go_wp2_with fail
       refine HA.out.mono ?_
       rintro e w1 ⟨rfl, hw⟩
       subst hw
       go_wp2_with fail
       refine HB.out.mono ?_
       rintro e w1 ⟨rfl, hw⟩
       subst hw
       go_wp2_with fail
       go_ret
       exact ⟨rfl, rfl⟩
     by_cases h2 : gw y m < gw x m
     · obtain ⟨_, hf⟩ := aHM hoky (fun j hj => (hs.out j hj).symm) h2
       rw [HR.out] at hf
       subst hf
       have HA := Lib.hid hA
       have HB := Lib.hid hB
       clear hs HR hcast hA hB
       generalize gw x m = gx at *
       generalize gw y m = gy at *
       have d1 : decide (((gx : Nat) : Int) < ((gy : Nat) : Int)) = false := decide_eq_false (by omega)
       have d2 : decide (((gy : Nat) : Int) < ((gx : Nat) : Int)) = true := decide_eq_true (by omega)
       go_wp2_with fail
       refine HA.out.mono ?_
       rintro e w1 ⟨rfl, hw⟩
       subst hw
       go_wp2_with fail
       refine HB.out.mono ?_
       rintro e w1 ⟨rfl, hw⟩
       subst hw
       go_wp2_with fail
       go_ret
       exact ⟨rfl, rfl⟩
     · have hs2 : Hid (∀ j, m <= j -> gw x j = gw y j) := fun j hj => by
         by_cases e : j = m
         · subst e; omega
         · exact hs.out j (by omega)
       have HA := Lib.hid hA
       have HB := Lib.hid hB
       have he : gw x m = gw y m := by omega
       rw [he] at HA
       clear hs hcast hA hB h1 h2 hgx he
       generalize gw y m = gy at *
       have d1 : decide (((gy : Nat) : Int) < ((gy : Nat) : Int)) = false := decide_eq_false (by omega)
       go_wp2_with fail
       refine HA.out.mono ?_
       rintro e w1 ⟨rfl, hw⟩
       subst hw
       go_wp2_with fail
       refine HB.out.mono ?_
       rintro e w1 ⟨rfl, hw⟩
       subst hw
       go_wp2_with fail
       go_round
       case rel => exact ⟨m, by omega, rfl, hs2⟩
       case measure => simp [intOf]
end
section
set_option maxRecDepth 100000
set_option maxHeartbeats 4000000
open Go.RowKit
theorem aEc (z : List Nat) (s : Nat) : aC5 (z ++ [s]) = aC5 z ++ [Value.int .u64 ((s : Nat) : Int)] := by simp [aC5]
theorem aF0 {z : List Nat} {s : Nat} (h : okW z) (hs : s < 18446744073709551616) : okW (z ++ [s]) := aF1 h (aIi hs aFD)
theorem aEQ (z : List Nat) (s : Nat) : valN (z ++ [s]) = valN z + s * pw z.length := by
 rw [aB8]
 simp [valN, Nat.mul_comm]
theorem aN3 (z : List Nat) : vt z z.length = valN z := aBn z z.length (Nat.le_refl _)
theorem aPZ (z : List Nat) (s : Nat) : vt (z ++ [s]) (z.length + 1) = vt z z.length + s * pw z.length := by
 rw [aN3, <- aEQ, aBn _ _ (by simp)]
theorem aSG (lo : Nat) (a b : Value) (x y : List Nat) (w : World) (ha : aAE lo w a x) (hb : aAE lo w b y) (hla : x.length <= 1000000000) (hlb : y.length <= 1000000000) :
   Calls Tryz.prog 76 #[a, b] w (aCW w w.heap.size (valN x + valN y)) := by
 obtain ⟨i0, hi, hz0, hz1, hz2⟩ := info_parts Tryz.infoW
 have hwa := fun wr (h : Below w.heap.size w wr) i => aC9 lo a x i wr (ha.call h)
 have hwb := fun wr (h : Below w.heap.size w wr) i => aC9 lo b y i wr (hb.call h)
 have hokx := ha.ok
 have hoky := hb.ok
 obtain ⟨pa, ca, rfl, hca, hcma, _, hxa⟩ := ha
 obtain ⟨pb, cb, rfl, hcb, hcmb, _, hxb⟩ := hb
 have HWA := Lib.hid hwa
 have HWB := Lib.hid hwb
 clear hwa hwb hxa hxb
 obtain ⟨M, hM⟩ : ∃ M, max x.length y.length = M := ⟨_, rfl⟩
 have hMi : max ((x.length : Nat) : Int) ((y.length : Nat) : Int) = ((M : Nat) : Int) := by omega
 have HM := Lib.hid hM
 have hMl : M <= 1000000000 := by omega
 clear hM
 go_enter Tryz.func76, Tryz.ntmps76
 go_wp2_with fail
 go_loopw [5, 6, 7] (fun u5 u6 u7 wr => ∃ (i c : Nat) (z : List Nat), i <= M /\ u7 = .int .i64 ((i : Nat) : Int) /\ u6 = .int .u64 ((c : Nat) : Int) /\ c <= 1 /\ z.length = i /\ okW z /\ Hid (vt z i + c * pw i = vt x i + vt y i) /\ wr.ownsRow w.heap.size 23 1 u5 z.length (aC5 z) /\ Below w.heap.size w wr) (fun _ _ u7 _ => M - (intOf u7).toNat)
 case atStart => exact ⟨0, 0, [], Nat.zero_le _, rfl, rfl, by omega, rfl, aFD, by show _ = _; simp [vt], World.ownsRow_nil _ _ _ _, Below.refl _ _⟩
 case round =>
   obtain ⟨i, c, z, hiM, rfl, rfl, hc, hzl, hzo, HS, hown, hbw⟩ := hrel
   obtain ⟨x5, c5, rfl⟩ := aFu hown
   by_cases hlt : i < M
   · have hA := HWA.out wr hbw i
     have hB := HWB.out wr hbw i
     have hgx := aA3 hokx i
     have hgy := aA3 hoky i
     have hst : ∀ s c', s + 18446744073709551616 * c' = gw x i + gw y i + c -> vt (z ++ [s]) (i + 1) + c' * pw (i + 1) = vt x (i + 1) + vt y (i + 1) := by
       intro s c' h
       rw [<- hzl, aPZ, aBz, aAC, aAC, hzl]
       exact aId HS.out h
     have HA := Lib.hid hA
     have HB := Lib.hid hB
     have HST := Lib.hid hst
     clear hA hB hst HS
     generalize gw x i = gx at *
     generalize gw y i = gy at *
     obtain ⟨s1, hs1⟩ : ∃ s1, (gx + gy) % 18446744073709551616 = s1 := ⟨_, rfl⟩
     obtain ⟨s, hs⟩ : ∃ s, (gx + gy + c) % 18446744073709551616 = s := ⟨_, rfl⟩
     obtain ⟨c', hc'⟩ : ∃ c', (gx + gy + c) / 18446744073709551616 = c' := ⟨_, rfl⟩
     have hw1 : IntKind.u64.wrap (((gx : Nat) : Int) + ((gy : Nat) : Int)) = ((s1 : Nat) : Int) := by rw [IntKind.wrap_u64]; omega
     have hw2 : IntKind.u64.wrap (((s1 : Nat) : Int) + ((c : Nat) : Int)) = ((s : Nat) : Int) := by rw [IntKind.wrap_u64]; omega
     have heq : s + 18446744073709551616 * c' = gx + gy + c := by omega
     have hsl : s < 18446744073709551616 := by omega
     have hcl : c' <= 1 := by omega
     have HST2 := Lib.hid (HST.out s c' heq)
     have HEQ := Lib.hid heq
     obtain ⟨q, hq⟩ : ∃ q, decide (c' = 1) = q := ⟨_, rfl⟩
     have HQ := Lib.hid hq
     clear hs1 hs hc' heq HST hq
     go_wp2_with fail
     refine HA.out.mono ?_
     rintro e w1 ⟨rfl, hw⟩
     subst hw
     go_wp2_with fail
     refine HB.out.mono ?_
     rintro e w1 ⟨rfl, hw⟩
     subst hw
     go_upto_region 8 with fail
     go_cut [5, 6, 7, 8, 9, 10, 46] (fun u5 u6 u7 u8 u9 u10 u46 wx => u5 = .slice x5 z.length c5 /\ u6 = .int .u64 ((c : Nat) : Int) /\ u7 = .int .i64 ((i : Nat) : Int) /\ u8 = .int .u64 ((gx : Nat) : Int) /\ u9 = .int .u64 ((gy : Nat) : Int) /\ u10 = .int .u64 ((s : Nat) : Int) /\ u46 = .bool q /\ wr = wx)
     case first =>
       have heq := HEQ.out
       have hqd := HQ.out
       clear HA HB HST2 HEQ HQ hw1 hw2 hown hbw
       by_cases h1 : s < gx
       · have d1 : decide (s < gx) = true := decide_eq_true (by omega)
         have hqt : q = true := by rw [<- hqd]; exact decide_eq_true (by omega)
         subst hqt
         clear heq hqd h1
         go_wp2_with fail
         go_meet
         exact ⟨by rw [hzl], rfl, rfl, rfl, rfl, rfl, rfl, rfl⟩
       have d1 : decide (s < gx) = false := decide_eq_false (by omega)
       by_cases h2 : s = gx
       · have b2 : (((s : Nat) : Int) == ((gx : Nat) : Int)) = true := beq_iff_eq.2 (by omega)
         by_cases h3 : c = 1
         · have b3 : (((c : Nat) : Int) == 1) = true := beq_iff_eq.2 (by omega)
           have hqg : decide (0 < gy) = q := by
             rw [<- hqd, decide_eq_decide]
             omega
           clear heq hqd h1 h2 h3
           go_wp2_with fail
           go_meet
           exact ⟨by rw [hzl], rfl, rfl, rfl, rfl, rfl, by first | rfl | rw [hqg] | simp [hqg], rfl⟩
         · have b3 : (((c : Nat) : Int) == 1) = false := beq_eq_false_iff_ne.2 (by omega)
           have hqt : q = false := by rw [<- hqd]; exact decide_eq_false (by omega)
           subst hqt
           clear heq hqd h1 h2 h3
           go_wp2_with fail
           go_meet
           exact ⟨by rw [hzl], rfl, rfl, rfl, rfl, rfl, rfl, rfl⟩
       · have b2 : (((s : Nat) : Int) == ((gx : Nat) : Int)) = false := beq_eq_false_iff_ne.2 (by omega)
         have hqt : q = false := by rw [<- hqd]; exact decide_eq_false (by omega)
         subst hqt
         clear heq hqd h1 h2
         go_wp2_with fail
         go_meet
         exact ⟨by rw [hzl], rfl, rfl, rfl, rfl, rfl, rfl, rfl⟩
     case rest =>
       obtain ⟨rfl, rfl, rfl, rfl, rfl, rfl, rfl, rfl⟩ := hcut
       have hqd := HQ.out
       clear HA HB HEQ HQ hw1 hw2
       cases q
       all_goals first
         | (have hcv : c' = 1 := of_decide_eq_true hqd; subst hcv)
         | (have hcn := of_decide_eq_false hqd; have hcv : c' = 0 := (by omega); subst hcv; clear hcn)
       all_goals
         clear hqd
         go_wp2_with (at_builtin; refine aBV rfl _ _ 25 rfl w.heap.size 23 i0 (.int .u64 0) 8 Tryz.underlying25 hi hz0 hz1 hz2 rfl _ _ _ rfl hown _ _ rfl rfl (by unfold maxLen; omega) (by omega) hbw.size ?_; intro v' w3 hown3 hg3)
         have hg4 : wr.grownBy w3 (Value.slice x5 z.length c5).ownBlock := hg3
         have hbw3 := Below.grownB hbw hg4 hbw.size hown
         go_roundw
         case rel =>
           refine ⟨i + 1, _, z ++ [s], by omega, by go_num, rfl, by decide, by simp [hzl], aF0 hzo hsl, HST2.out, ?_, hbw3⟩
           rw [List.length_append, List.length_singleton, aEc]
           exact hown3
         case measure => simp [intOf]; omega
   · have hval : valN (z ++ [c]) = valN x + valN y := by
       have h := HS.out
       have hMM := HM.out
       have e : i = M := by omega
       rw [aBn x i (by omega), aBn y i (by omega), <- hzl, aN3] at h
       rw [aEQ]
       exact h
     have HV := Lib.hid hval
     clear hval HS
     go_wp2_with (at_builtin; refine aBV rfl _ _ 25 rfl w.heap.size 23 i0 (.int .u64 0) 8 Tryz.underlying25 hi hz0 hz1 hz2 rfl _ _ _ rfl hown _ _ rfl rfl (by unfold maxLen; omega) (by omega) hbw.size ?_; intro v' w3 hown3 hg3)
     have hg4 : wr.grownBy w3 (Value.slice x5 z.length c5).ownBlock := hg3
     have hbw3 := Below.grownB hbw hg4 hbw.size hown
     have hown4 : w3.ownsRow w.heap.size 23 1 v' (z ++ [c]).length (aC5 (z ++ [c])) := by
       rw [List.length_append, List.length_singleton, aEc]
       exact hown3
     have hN := aBN w.heap.size v' (z ++ [c]) w3 (aAE.ofRow hown4 (Nat.le_refl _) (aF0 hzo (by omega))) (by rw [List.length_append, List.length_singleton]; omega)
     rw [HV.out] at hN
     refine hN.mono ?_
     rintro e w4 ⟨v4, rfl, hv4, hb4⟩
     go_wp2_with fail
     go_ret
     exact ⟨_, rfl, hv4.mono hbw3.size, hbw3.trans (hb4.mono hbw3.size)⟩
end
section
set_option maxRecDepth 100000
set_option maxHeartbeats 4000000
open Go.RowKit
theorem aSX {w : World} {base g : Nat} {z : List Nat} (h : Blk w g (wArr z) 23) (hlo : base <= g) (hm : z.length <= maxLen) : w.ownsRow base 23 1 (.slice (some ⟨g, 0, none⟩) z.length z.length) z.length (aC5 z) :=
 ⟨by simp [aDi], Or.inr ⟨g, z.length, wArr z, rfl, hlo, h, Nat.le_refl _, hm, by simp [wArr], by rw [Nat.mul_one, <- aLG]; simp [<- aDi z]⟩⟩
theorem aPi {a b : Nat} (ha : a < 18446744073709551616) (hb : b < 18446744073709551616) : bits .or .u64 ((a : Nat) : Int) ((b : Nat) : Int) = bits .or .u64 ((b : Nat) : Int) ((a : Nat) : Int) := by
 rw [(bits_nat .u64 64 (by decide) aEO a b ha hb).2, (bits_nat .u64 64 (by decide) aEO b a hb ha).2, Nat.or_comm]
theorem aWx {c x k : Nat} (hc : c < 2 ^ k) (hk : k < 64) : bits .or .u64 ((shL x k : Nat) : Int) ((c : Nat) : Int) = ((c + shL x k : Nat) : Int) := by
 have hp : (2 : Nat) ^ k <= 2 ^ 63 := Nat.pow_le_pow_right (by decide) (by omega)
 rw [aPi (aLU x k) (by omega)]
 exact aOl hc (aKG x k (by omega)) (aLU x k) hk
theorem aMN (lo : Nat) (a : Value) (x : List Nat) (n : Nat) (w : World) (ha : aAE lo w a x) (hla : x.length <= 1000000000) (hn : n <= 17592186044416) :
   Calls Tryz.prog 75 #[a, .int .i64 ((n : Nat) : Int)] w (aCW w w.heap.size (valN x * 2 ^ n)) := by
 obtain ⟨i0, hi, hz0, hz1, hz2⟩ := info_parts Tryz.infoW
 have hokx := ha.ok
 obtain ⟨pa, ca, rfl, hca, hcma, _, hxa⟩ := ha
 have HXA := Lib.hid hxa
 clear hxa
 obtain ⟨q, hq⟩ : ∃ q, n / 64 = q := ⟨_, rfl⟩
 obtain ⟨k, hk⟩ : ∃ k, n % 64 = k := ⟨_, rfl⟩
 have hqi : ((n : Nat) : Int) / 64 = ((q : Nat) : Int) := by omega
 have hki : ((n : Nat) : Int) % 64 = ((k : Nat) : Int) := by omega
 have hk64 : k < 64 := by omega
 have hql : q <= 274877906944 := by omega
 have hval : valN x * 2 ^ n = valN x * (pw q * 2 ^ k) := by rw [aDo, <- Nat.pow_add]; congr 2; omega
 rw [hval]
 have hmk := aBW 25 Tryz.underlying25 q (by omega)
 obtain ⟨r2, hr2⟩ : ∃ r2, 64 - k = r2 := ⟨_, rfl⟩
 have hr2i : IntKind.u64.wrap (64 - ((k : Nat) : Int)) = ((r2 : Nat) : Int) := by rw [IntKind.wrap_u64]; omega
 have hr64 : r2 <= 64 := by omega
 clear hq hk hval
 go_enter Tryz.func75, Tryz.ntmps75
 go_wp2_with fail
 clear hmk hki hqi
 go_loopw [5, 7, 18] (fun u5 u7 u18 wr => ∃ (i c : Nat) (z : List Nat), i <= x.length /\ u18 = .int .i64 ((i : Nat) : Int) /\ u7 = .int .u64 ((c : Nat) : Int) /\ c < 2 ^ k /\ Hid (z.length = q + i) /\ okW z /\ Hid (valN z + c * pw (q + i) = vt x i * (pw q * 2 ^ k)) /\ wr.ownsRow w.heap.size 23 1 u5 z.length (aC5 z) /\ Below w.heap.size w wr) (fun _ _ u18 _ => x.length - (intOf u18).toNat)
 case atStart =>
   have hrow := aSX (Blk.new w (wArr (List.replicate q 0)) 23) (Nat.le_refl _) (by rw [List.length_replicate]; unfold maxLen; omega)
   rw [List.length_replicate] at hrow
   exact ⟨0, 0, List.replicate q 0, by omega, rfl, rfl, Nat.two_pow_pos _, by show _ = _; simp, aBi _, by show _ = _; rw [aCX]; simp [vt], by rw [List.length_replicate]; exact hrow, (Below.refl _ _).alloc (Nat.le_refl _) _⟩
 case round =>
   obtain ⟨i, c, z, hix, rfl, rfl, hc, HZ, hzo, HS, hown, hbw⟩ := hrel
   obtain ⟨x5, c5, rfl⟩ := aFu hown
   have hzlen : z.length <= 275877906944 := by have := HZ.out; omega
   have hp63 : (2 : Nat) ^ k <= 2 ^ 63 := Nat.pow_le_pow_right (by decide) (by omega)
   have hc64 : c < 18446744073709551616 := by omega
   by_cases hlt : i < x.length
   · obtain ⟨b1, o1, rfl, hb1lo, hcx⟩ := HXA.out i hlt
     have hcx' := (hbw.cell (World.block_lt_of_cell? w _ hcx)).trans hcx
     have hxi := aA3 hokx i
     have hsl := aH8 (gw x i) k
     have hor := aWx (x := gw x i) hc hk64
     have hroom := aKF (x := gw x i) hc hk64
     have hsh := aM3 (x := gw x i) (k := k) (by omega)
     have hhl := aUy hxi k
     have hst : valN (z ++ [c + shL (gw x i) k]) + shH (gw x i) k * pw (q + (i + 1)) = vt x (i + 1) * (pw q * 2 ^ k) := by
       have h1 := HS.out
       have h2 := aM2 (gw x i) k
       rw [aEQ, HZ.out, aAC, show q + (i + 1) = (q + i) + 1 by omega, aBz, aGm]
       rw [aGm] at h1
       generalize shL (gw x i) k = sl at *
       generalize shH (gw x i) k = sh at *
       generalize gw x i = g at *
       generalize valN z = V at *
       generalize vt x i = A at *
       generalize pw q = Q at *
       generalize pw i = I at *
       generalize 2 ^ k = K at *
       grind
     have HST := Lib.hid hst
     have HLEN := Lib.hid (show (z ++ [c + shL (gw x i) k]).length = q + (i + 1) by rw [List.length_append, List.length_singleton, HZ.out]; omega)
     rw [hr2] at hsh
     have hshi : ((gw x i : Nat) : Int) / 2 ^ r2 = ((shH (gw x i) k : Nat) : Int) := by rw [aD8, hsh]
     have hko : okW (z ++ [c + shL (gw x i) k]) := aF0 hzo hroom
     have hsn := aEc z (c + shL (gw x i) k)
     have h0 : k = 0 -> shH (gw x i) k = 0 := by
       intro e
       subst e
       unfold shH
       rw [Nat.pow_zero, Nat.mul_one]
       exact Nat.div_eq_of_lt hxi
     generalize c + shL (gw x i) k = s at *
     generalize shL (gw x i) k = sl at *
     generalize shH (gw x i) k = sh at *
     have HSN := Lib.hid hsn
     have HKO := Lib.hid hko
     clear hcx hst hsn hsh HS HZ hroom hko
     generalize gw x i = g at *
     by_cases hk0 : k = 0
     · have d1 : decide (0 < k) = false := decide_eq_false (by omega)
       have hs0 := h0 hk0
       subst hs0
       clear h0 hk0
       go_wp2_with (at_builtin; refine aBV rfl _ _ 25 rfl w.heap.size 23 i0 (.int .u64 0) 8 Tryz.underlying25 hi hz0 hz1 hz2 rfl _ _ _ rfl hown _ _ rfl rfl (by unfold maxLen; omega) (by omega) hbw.size ?_; intro v' w3 hown3 hg3)
       have hg4 : wr.grownBy w3 (Value.slice x5 z.length c5).ownBlock := hg3
       have hbw3 := Below.grownB hbw hg4 hbw.size hown
       go_roundw
       case rel =>
         refine ⟨i + 1, 0, z ++ [s], by omega, by go_num, rfl, Nat.two_pow_pos _, HLEN.out, HKO.out, HST.out, ?_, hbw3⟩
         rw [List.length_append, List.length_singleton, HSN.out]
         exact hown3
       case measure => simp [intOf]; omega
     · have d1 : decide (0 < k) = true := decide_eq_true (by omega)
       clear h0 hk0
       go_wp2_with (at_builtin; refine aBV rfl _ _ 25 rfl w.heap.size 23 i0 (.int .u64 0) 8 Tryz.underlying25 hi hz0 hz1 hz2 rfl _ _ _ rfl hown _ _ rfl rfl (by unfold maxLen; omega) (by omega) hbw.size ?_; intro v' w3 hown3 hg3)
       have hg4 : wr.grownBy w3 (Value.slice x5 z.length c5).ownBlock := hg3
       have hbw3 := Below.grownB hbw hg4 hbw.size hown
       go_roundw
       case rel =>
         refine ⟨i + 1, sh, z ++ [s], by omega, by go_num, by first | rfl | rw [hshi], hhl, HLEN.out, HKO.out, HST.out, ?_, hbw3⟩
         rw [List.length_append, List.length_singleton, HSN.out]
         exact hown3
       case measure => simp [intOf]; omega
   · obtain rfl : i = x.length := by omega
     have hval : valN (z ++ [c]) = valN x * (pw q * 2 ^ k) := by
       have h := HS.out
       rw [aN3, <- HZ.out] at h
       rw [aEQ]
       exact h
     have HV := Lib.hid hval
     clear hval HS
     go_wp2_with (at_builtin; refine aBV rfl _ _ 25 rfl w.heap.size 23 i0 (.int .u64 0) 8 Tryz.underlying25 hi hz0 hz1 hz2 rfl _ _ _ rfl hown _ _ rfl rfl (by unfold maxLen; omega) (by omega) hbw.size ?_; intro v' w3 hown3 hg3)
     have hg4 : wr.grownBy w3 (Value.slice x5 z.length c5).ownBlock := hg3
     have hbw3 := Below.grownB hbw hg4 hbw.size hown
     have hown4 : w3.ownsRow w.heap.size 23 1 v' (z ++ [c]).length (aC5 (z ++ [c])) := by
       rw [List.length_append, List.length_singleton, aEc]
       exact hown3
     have hN := aBN w.heap.size v' (z ++ [c]) w3 (aAE.ofRow hown4 (Nat.le_refl _) (aF0 hzo hc64)) (by rw [List.length_append, List.length_singleton]; omega)
     rw [HV.out] at hN
     refine hN.mono ?_
     rintro e w4 ⟨v4, rfl, hv4, hb4⟩
     go_wp2_with fail
     go_ret
     exact ⟨_, rfl, hv4.mono hbw3.size, hbw3.trans (hb4.mono hbw3.size)⟩
end
section
set_option maxRecDepth 100000
set_option maxHeartbeats 4000000
open Go.RowKit
theorem aST {y z : List Nat} {k m s : Nat} (hk : k <= 64) (hzl : z.length = m) (hs2 : s = gw y m / 2 ^ k + gw y (m + 1) % 2 ^ k * 2 ^ (64 - k)) (hs : valN z * 2 ^ k + gw y 0 % 2 ^ k = vt y m + gw y m % 2 ^ k * pw m) :
   valN (z ++ [s]) * 2 ^ k + gw y 0 % 2 ^ k = vt y (m + 1) + gw y (m + 1) % 2 ^ k * pw (m + 1) := by
 rw [aEQ, hzl, aAC, aBz]
 have h1 := Nat.div_add_mod (gw y m) (2 ^ k)
 have h2 := aJF hk
 subst hs2
 generalize gw y m / 2 ^ k = d at *
 generalize gw y (m + 1) % 2 ^ k = r' at *
 generalize gw y m % 2 ^ k = r at *
 generalize gw y m = t at *
 generalize 2 ^ (64 - k) = L at *
 generalize 2 ^ k = K at *
 generalize pw m = P at *
 rw [h2]
 grind
theorem aMV (x : List Nat) (q : Nat) : valN x = vt x q + pw q * valN (x.drop q) := by
 have h := aDb x q
 rw [<- aHk] at h
 exact h
theorem aRb {y : List Nat} {k : Nat} (hk : k <= 64) : valN y % 2 ^ k = gw y 0 % 2 ^ k := by
 cases y with
 | nil => simp [valN, gw]
 | cons a t =>
   rw [valN, aRv, aJF hk, Nat.mul_assoc, Nat.mul_left_comm, Nat.add_mul_mod_self_left]
theorem aUD {T P r : Nat} (hP : 0 < P) : (!(T + P * r == 0)) = (!(T == 0) || !(r == 0)) := by
 rw [Bool.eq_iff_iff]
 simp only [Bool.not_eq_true', beq_eq_false_iff_ne, Bool.or_eq_true, ne_eq]
 constructor
 · intro h
   by_cases h1 : T = 0
   · right
     intro h2
     apply h
     rw [h1, h2]
     rfl
   · exact Or.inl h1
 · intro h h2
   rcases h with h | h
   · omega
   · have := Nat.mul_ne_zero (Nat.ne_of_gt hP) h
     omega
theorem aVy (g : Nat) : (((g : Nat) : Int) != 0) = !(g == 0) := by
 by_cases h : g = 0
 · subst h
   rfl
 · have h2 : ((g : Nat) : Int) ≠ 0 := by omega
   rw [bne_iff_ne.2 h2]
   simp [h]
theorem aNl {x : List Nat} (hx : okW x) (n : Nat) : aEL (valN x) n = (!(vt x (n / 64) == 0) || !(gw x (n / 64) % 2 ^ (n % 64) == 0)) := by
 have e : 2 ^ n = pw (n / 64) * 2 ^ (n % 64) := by rw [aDo, <- Nat.pow_add, show 64 * (n / 64) + n % 64 = n by omega]
 have hT := aJE hx (n / 64)
 have hm : valN x % 2 ^ n = vt x (n / 64) + pw (n / 64) * (gw x (n / 64) % 2 ^ (n % 64)) := by
   rw [e, Nat.mod_mul, aMV x (n / 64), Nat.add_mul_mod_self_left, Nat.mod_eq_of_lt hT, Nat.add_mul_div_left _ _ (aHP _), Nat.div_eq_of_lt hT, Nat.zero_add, aRb (Nat.le_of_lt (Nat.mod_lt _ (by decide))), aI7, Nat.add_zero]
 unfold aEL
 rw [hm]
 exact aUD (aHP _)
theorem aJz (lo : Nat) (a : Value) (x : List Nat) (n : Nat) (w : World) (ha : aAE lo w a x) (hla : x.length <= 1000000000) (hn : n <= 4611686018427387904) :
   Calls Tryz.prog 109 #[a, .int .i64 ((n : Nat) : Int)] w (aSr w (valN x / 2 ^ n) (aEL (valN x) n)) := by
 obtain ⟨i0, hi, hz0, hz1, hz2⟩ := info_parts Tryz.infoW
 have hokx := ha.ok
 have hvx := aBr hokx
 by_cases hbig : 64 * x.length <= n
 · have hlen := aFV lo a x w ha (by omega)
   have hlt : valN x < 2 ^ n := Nat.lt_of_lt_of_le hvx (by rw [aDo]; exact Nat.pow_le_pow_right (by decide) hbig)
   have hq : valN x / 2 ^ n = 0 := Nat.div_eq_of_lt hlt
   have hl : aEL (valN x) n = decide (0 < bl (valN x)) := by
     unfold aEL
     rw [Nat.mod_eq_of_lt hlt]
     by_cases h0 : valN x = 0
     · rw [h0, aGM]; rfl
     · have := aD6 h0
       rw [decide_eq_true this]
       simpa using h0
   rw [hq, hl]
   obtain ⟨pa, ca, rfl, hca, hcma, _, hxa⟩ := ha
   have hge : ((64 : Int) * ((x.length : Nat) : Int)) <= ((n : Nat) : Int) := by omega
   have HL := Lib.hid hlen
   clear hxa hlt hq hl hlen hvx
   generalize bl (valN x) = b at *
   go_enter Tryz.func109, Tryz.ntmps109
   go_wp2_with fail
   refine HL.out.mono ?_
   rintro e w1 ⟨rfl, hb1⟩
   go_wp2_with fail
   go_ret2
   exact ⟨_, by first | rfl | simp, Num.zero _ _ _ _ (by decide), hb1⟩
 have hlo := aNl hokx n
 have hcut := aMV x (n / 64)
 have hval := @aQo (valN x) (vt x (n / 64)) (valN (x.drop (n / 64)))
 obtain ⟨q, hq⟩ : ∃ q, n / 64 = q := ⟨_, rfl⟩
 obtain ⟨k, hk⟩ : ∃ k, n % 64 = k := ⟨_, rfl⟩
 have hql : q < x.length := by omega
 have hT := aJE hokx q
 rw [hq] at hcut
 rw [hq, hk] at hlo
 have hwa := fun wr (h : Below w.heap.size w wr) i => aC9 lo a x i wr (ha.call h)
 obtain ⟨pa, ca, rfl, hca, hcma, _, hxa⟩ := ha
 have HXA := Lib.hid hxa
 have HWA := Lib.hid hwa
 clear hxa hwa
 have hqi : ((n : Nat) : Int) / 64 = ((q : Nat) : Int) := by omega
 have hki : ((n : Nat) : Int) % 64 = ((k : Nat) : Int) := by omega
 have hk64 : k < 64 := by omega
 obtain ⟨r2, hr2⟩ : ∃ r2, 64 - k = r2 := ⟨_, rfl⟩
 have hr2i : IntKind.u64.wrap (64 - ((k : Nat) : Int)) = ((r2 : Nat) : Int) := by rw [IntKind.wrap_u64]; omega
 have hr64 : r2 <= 64 := by omega
 have hge : ¬ ((64 : Int) * ((x.length : Nat) : Int)) <= ((n : Nat) : Int) := by omega
 obtain ⟨R, hR⟩ : ∃ R, aEL (valN x) n = R := ⟨_, rfl⟩
 rw [hR] at hlo ⊢
 have HLO := Lib.hid hlo
 have HVAL := Lib.hid (fun (z r : Nat) (h : z * 2 ^ k + r % 2 ^ k = valN (x.drop q)) => hval (z := z) (r := r) (n := n) (by rw [hq]; exact hcut) (by rw [hq]; exact hT) (by rw [hk, hq]; exact h))
 obtain ⟨V, hV⟩ : ∃ V, valN x / 2 ^ n = V := ⟨_, rfl⟩
 rw [hV] at HVAL ⊢
 clear hR hlo hval hcut hvx hV hT
 have hq2 : (q : Nat) <= ca := by omega
 go_enter Tryz.func109, Tryz.ntmps109
 go_wp2_with fail
 go_loop [6, 26] (fun u6 u26 => ∃ i : Nat, i <= q /\ u26 = .int .i64 ((i : Nat) : Int) /\ u6 = .bool (!(vt x i == 0))) (fun _ u26 => q - (intOf u26).toNat)
 case atStart => exact ⟨0, Nat.zero_le _, rfl, rfl⟩
 case round =>
   obtain ⟨i, hiq, rfl, rfl⟩ := hrel
   by_cases hlt : i < q
   · obtain ⟨b1, o1, rfl, hb1lo, hcx⟩ := HXA.out i (by omega)
     have hstep : (!(vt x (i + 1) == 0)) = (!(vt x i == 0) || !(gw x i == 0)) := by
       rw [aAC, Nat.mul_comm]
       exact aUD (aHP i)
     have hne := aVy (gw x i)
     have HST := Lib.hid hstep
     obtain ⟨p, hp⟩ : ∃ p, (!(vt x i == 0)) = p := ⟨_, rfl⟩
     rw [hp] at HST ⊢
     clear hstep hp
     generalize gw x i = g at *
     obtain ⟨p2, hp2⟩ : ∃ p2, (!(g == 0)) = p2 := ⟨_, rfl⟩
     rw [hp2] at hne HST
     clear hp2
     cases p with
     | true =>
       clear hne
       go_wp2_with fail
       go_round
       case rel => exact ⟨i + 1, by omega, by go_num, by rw [HST.out]; rfl⟩
       case measure => simp [intOf]; omega
     | false =>
       go_wp2_with fail
       go_round
       case rel => exact ⟨i + 1, by omega, by go_num, by rw [HST.out]; rfl⟩
       case measure => simp [intOf]; omega
   · obtain rfl : i = q := by omega
     obtain ⟨p, hp⟩ : ∃ p, (!(vt x i == 0)) = p := ⟨_, rfl⟩
     rw [hp] at HLO ⊢
     clear hp
     go_wp2_with fail
     clear hki
     go_loopw [10, 11] (fun u10 u11 wr => ∃ (m : Nat) (z : List Nat), i + m <= x.length /\ u11 = .int .i64 ((i + m : Nat) : Int) /\ Hid (z.length = m) /\ okW z /\ Hid (valN z * 2 ^ k + gw (x.drop i) 0 % 2 ^ k = vt (x.drop i) m + gw (x.drop i) m % 2 ^ k * pw m) /\ wr.ownsRow w.heap.size 23 1 u10 z.length (aC5 z) /\ Below w.heap.size w wr) (fun _ u11 _ => x.length - (intOf u11).toNat)
     case atStart => exact ⟨0, [], by omega, rfl, rfl, aFD, by show _ = _; simp [valN, vt, aEJ], World.ownsRow_nil _ _ _ _, Below.refl _ _⟩
     case round =>
       obtain ⟨m, z, him, rfl, HZ, hzo, HS, hown, hbw⟩ := hrel
       obtain ⟨x5, c5, rfl⟩ := aFu hown
       have hzlen : z.length <= 1000000000 := by have := HZ.out; omega
       by_cases hlt2 : i + m < x.length
       · obtain ⟨b1, o1, rfl, hb1lo, hcx⟩ := HXA.out (i + m) hlt2
         have hcx' := (hbw.cell (World.block_lt_of_cell? w _ hcx)).trans hcx
         have hA := HWA.out wr hbw (i + m + 1)
         rw [show ((i + m + 1 : Nat) : Int) = ((i + m : Nat) : Int) + 1 by omega] at hA
         have hxi := aA3 hokx (i + m)
         have hxj := aA3 hokx (i + m + 1)
         obtain ⟨d, hd⟩ : ∃ d, gw x (i + m) / 2 ^ k = d := ⟨_, rfl⟩
         have hdi : ((gw x (i + m) : Nat) : Int) / 2 ^ k = ((d : Nat) : Int) := by rw [aD8, hd]
         have hroom := aLR (a := gw x (i + m)) (b := gw x (i + m + 1)) (k := k) hxi (by omega)
         have hor : 0 < k -> bits .or .u64 ((d : Nat) : Int) (IntKind.u64.wrap (((gw x (i + m + 1) : Nat) : Int) * 2 ^ r2)) = ((d + gw x (i + m + 1) % 2 ^ k * 2 ^ r2 : Nat) : Int) := by
           intro h0
           have := aUx (a := gw x (i + m)) (b := gw x (i + m + 1)) hxi h0 hk64
           rwa [hdi, hd, hr2] at this
         rw [hd, hr2] at hroom
         have hst := aST (y := x.drop i) (z := z) (k := k) (m := m) (s := d + gw x (i + m + 1) % 2 ^ k * 2 ^ r2) (by omega) HZ.out (by rw [aI7, aI7, hd, hr2, <- Nat.add_assoc]) HS.out
         have h0s : k = 0 -> gw x (i + m + 1) % 2 ^ k = 0 := by
           intro e
           subst e
           rw [Nat.pow_zero, Nat.mod_one]
         generalize gw x (i + m + 1) % 2 ^ k = rr at *
         obtain ⟨s, hs⟩ : ∃ s, d + rr * 2 ^ r2 = s := ⟨_, rfl⟩
         rw [hs] at hst hor hroom
         have HST := Lib.hid hst
         have HA := Lib.hid hA
         have HLEN := Lib.hid (show (z ++ [s]).length = m + 1 by rw [List.length_append, List.length_singleton, HZ.out])
         have HKO := Lib.hid (aF0 hzo hroom)
         have HSN := Lib.hid (aEc z s)
         clear hst hA hcx hd
         generalize gw x (i + m + 1) = gj at *
         obtain ⟨j, hj⟩ : ∃ j, i + m = j := ⟨_, rfl⟩
         have HJ := Lib.hid hj
         rw [hj] at hlt2 hcx' HA hdi hxi him ⊢
         clear hj
         by_cases hk0 : k = 0
         · have d1 : decide (0 < k) = false := decide_eq_false (by omega)
           have hrr := h0s hk0
           have hds : d = s := by rw [<- hs, hrr]; simp
           clear hor h0s hk0 hs hrr
           subst hds
           generalize gw x j = g at *
           go_wp2_with (at_builtin; refine aBV rfl _ _ 25 rfl w.heap.size 23 i0 (.int .u64 0) 8 Tryz.underlying25 hi hz0 hz1 hz2 rfl _ _ _ rfl hown _ _ rfl rfl (by unfold maxLen; omega) (by omega) hbw.size ?_; intro v' w3 hown3 hg3)
           have hg4 : wr.grownBy w3 (Value.slice x5 z.length c5).ownBlock := hg3
           have hbw3 := Below.grownB hbw hg4 hbw.size hown
           go_roundw
           case rel =>
             refine ⟨m + 1, z ++ [d], by have := HJ.out; omega, by rw [<- Nat.add_assoc, HJ.out]; go_num, HLEN.out, HKO.out, HST.out, ?_, hbw3⟩
             rw [List.length_append, List.length_singleton, HSN.out]
             exact hown3
           case measure => simp [intOf]; omega
         · have d1 : decide (0 < k) = true := decide_eq_true (by omega)
           have hor2 := hor (by omega)
           clear hor h0s hk0 hs
           generalize gw x j = g at *
           go_wp2_with fail
           refine HA.out.mono ?_
           rintro e w2 ⟨rfl, hw⟩
           subst hw
           go_wp2_with (at_builtin; refine aBV rfl _ _ 25 rfl w.heap.size 23 i0 (.int .u64 0) 8 Tryz.underlying25 hi hz0 hz1 hz2 rfl _ _ _ rfl hown _ _ rfl rfl (by unfold maxLen; omega) (by omega) hbw.size ?_; intro v' w3 hown3 hg3)
           have hg4 : wr.grownBy w3 (Value.slice x5 z.length c5).ownBlock := hg3
           have hbw3 := Below.grownB hbw hg4 hbw.size hown
           go_roundw
           case rel =>
             refine ⟨m + 1, z ++ [s], by have := HJ.out; omega, by rw [<- Nat.add_assoc, HJ.out]; go_num, HLEN.out, HKO.out, HST.out, ?_, hbw3⟩
             rw [List.length_append, List.length_singleton, HSN.out]
             exact hown3
           case measure => simp [intOf]; omega
       · have hend : i + m = x.length := by omega
         have hvz : valN z = V := by
           have h := HS.out
           have hg : gw (x.drop i) m = 0 := aGk (by rw [List.length_drop]; omega)
           rw [hg, Nat.zero_mod, Nat.zero_mul, Nat.add_zero, aBn _ m (by rw [List.length_drop]; omega)] at h
           exact HVAL.out _ _ h
         have hN := aBN w.heap.size _ z wr (aAE.ofRow hown (Nat.le_refl _) hzo) (by omega)
         rw [hvz] at hN
         have HN := Lib.hid hN
         obtain ⟨b1, o1, rfl, hb1lo, hcx⟩ := HXA.out i (by omega)
         have hcx' := (hbw.cell (World.block_lt_of_cell? w _ hcx)).trans hcx
         have hxi := aA3 hokx i
         have hsw := aOa (y := gw x i) (k := k) (by omega)
         rw [hr2] at hsw
         have hwr := aH8 (gw x i) r2
         have hne : (((shL (gw x i) r2 : Nat) : Int) != 0) = !(gw x i % 2 ^ k == 0) := by
           rw [hsw]
           have := Nat.two_pow_pos r2
           by_cases h2 : gw x i % 2 ^ k = 0
           · simp [h2]
           · have h3 : gw x i % 2 ^ k * 2 ^ r2 ≠ 0 := Nat.mul_ne_zero h2 (by omega)
             have h4 : ¬ ((gw x i % 2 ^ k * 2 ^ r2 : Nat) : Int) = 0 := by omega
             have h5 : (((gw x i % 2 ^ k * 2 ^ r2 : Nat) : Int) != 0) = true := bne_iff_ne.2 h4
             rw [h5]
             simp [h2]
         have hk0 : k = 0 -> gw x i % 2 ^ k = 0 := by
           intro e
           subst e
           rw [Nat.pow_zero, Nat.mod_one]
         generalize shL (gw x i) r2 = sl at *
         generalize gw x i % 2 ^ k = rr at *
         have HLO2 := HLO
         obtain ⟨p3, hp3⟩ : ∃ p3, (!(rr == 0)) = p3 := ⟨_, rfl⟩
         rw [hp3] at hne HLO2
         have hp30 : k = 0 -> p3 = false := by
           intro e
           rw [<- hp3, hk0 e]
           rfl
         clear hN hvz HS hsw hcx hp3 hk0 hown HLO
         obtain ⟨j, hj⟩ : ∃ j, i + m = j := ⟨_, rfl⟩
         rw [hj] at hlt2 hend ⊢
         clear him HZ hj
         subst hend
         generalize gw x i = g at *
         by_cases hk0 : k = 0
         · have d1 : decide (0 < k) = false := decide_eq_false (by omega)
           have e := hp30 hk0
           subst e
           clear hp30 hk0 hne
           go_wp2_with fail
           refine HN.out.mono ?_
           rintro e w4 ⟨v4, rfl, hv4, hb4⟩
           go_wp2_with fail
           go_ret2
           exact ⟨_, by rw [HLO2.out]; first | rfl | simp, hv4.mono hbw.size, hbw.trans (hb4.mono hbw.size)⟩
         · have d1 : decide (0 < k) = true := decide_eq_true (by omega)
           clear hp30 hk0
           cases p with
           | true =>
             clear hne
             go_wp2_with fail
             refine HN.out.mono ?_
             rintro e w4 ⟨v4, rfl, hv4, hb4⟩
             go_wp2_with fail
             go_ret2
             exact ⟨_, by rw [HLO2.out]; first | rfl | simp, hv4.mono hbw.size, hbw.trans (hb4.mono hbw.size)⟩
           | false =>
             go_wp2_with fail
             refine HN.out.mono ?_
             rintro e w4 ⟨v4, rfl, hv4, hb4⟩
             go_wp2_with fail
             go_ret2
             exact ⟨_, by rw [HLO2.out]; first | rfl | simp, hv4.mono hbw.size, hbw.trans (hb4.mono hbw.size)⟩
end
section
set_option maxRecDepth 100000
set_option maxHeartbeats 600000
open Go.RowKit
theorem aO2 {x y z : List Nat} {c i : Nat} (hzo : okW z) (hs : vt z i + vt y i = vt x i + c * pw i) (hzl : z.length = i) (hxl : x.length <= i) (hyl : y.length <= i) (hyx : valN y <= valN x) :
   valN z = valN x - valN y := by
 have e5 := aBr hzo
 rw [hzl] at e5
 rw [aBn z i (by omega), aBn x i hxl, aBn y i hyl] at hs
 have : c = 0 := by
   apply Nat.eq_zero_of_not_pos
   intro hp
   have := Nat.mul_le_mul_right (pw i) hp
   omega
 subst this
 omega
theorem aMJ (lo : Nat) (a b : Value) (x y : List Nat) (w : World) (ha : aAE lo w a x) (hb : aAE lo w b y) (hla : x.length <= 1000000000) (hlb : y.length <= 1000000000) (hyx : valN y <= valN x) :
   Calls Tryz.prog 78 #[a, b] w (aCW w w.heap.size (valN x - valN y)) := by
 obtain ⟨i0, hi, hz0, hz1, hz2⟩ := info_parts Tryz.infoW
 have hwa := fun wr (h : Below w.heap.size w wr) i => aC9 lo a x i wr (ha.call h)
 have hwb := fun wr (h : Below w.heap.size w wr) i => aC9 lo b y i wr (hb.call h)
 have hokx := ha.ok
 have hoky := hb.ok
 have HYX := Lib.hid hyx
 obtain ⟨pa, ca, rfl, hca, hcma, _, hxa⟩ := ha
 obtain ⟨pb, cb, rfl, hcb, hcmb, _, hxb⟩ := hb
 have HWA := Lib.hid hwa
 have HWB := Lib.hid hwb
 clear hwa hwb hxa hxb hyx
 obtain ⟨M, hM⟩ : ∃ M, max x.length y.length = M := ⟨_, rfl⟩
 have hMi : max ((x.length : Nat) : Int) ((y.length : Nat) : Int) = ((M : Nat) : Int) := by omega
 have HM := Lib.hid hM
 have hMl : M <= 1000000000 := by omega
 clear hM
 go_enter Tryz.func78, Tryz.ntmps78
 go_wp2_with fail
 go_loopw [5, 6, 7] (fun u5 u6 u7 wr => ∃ (i c : Nat) (z : List Nat), i <= M /\ u7 = .int .i64 ((i : Nat) : Int) /\ u6 = .int .u64 ((c : Nat) : Int) /\ c <= 1 /\ z.length = i /\ okW z /\ Hid (vt z i + vt y i = vt x i + c * pw i) /\ wr.ownsRow w.heap.size 23 1 u5 z.length (aC5 z) /\ Below w.heap.size w wr) (fun _ _ u7 _ => M - (intOf u7).toNat)
 case atStart => exact ⟨0, 0, [], Nat.zero_le _, rfl, rfl, by omega, rfl, aFD, by show _ = _; simp [vt], World.ownsRow_nil _ _ _ _, Below.refl _ _⟩
 case round =>
   obtain ⟨i, c, z, hiM, rfl, rfl, hc, hzl, hzo, HS, hown, hbw⟩ := hrel
   obtain ⟨x5, c5, rfl⟩ := aFu hown
   by_cases hlt : i < M
   · have hA := HWA.out wr hbw i
     have hB := HWB.out wr hbw i
     have hgx := aA3 hokx i
     have hgy := aA3 hoky i
     have hst : ∀ s c', s + gw y i + c = gw x i + 18446744073709551616 * c' -> vt (z ++ [s]) (i + 1) + vt y (i + 1) = vt x (i + 1) + c' * pw (i + 1) := by
       intro s c' h
       rw [<- hzl, aPZ, aBz, aAC, aAC, hzl]
       exact aLM HS.out h
     have HA := Lib.hid hA
     have HB := Lib.hid hB
     have HST := Lib.hid hst
     clear hA hB hst HS
     generalize gw x i = gx at *
     generalize gw y i = gy at *
     obtain ⟨s1, hs1⟩ : ∃ s1, (gx + 18446744073709551616 - gy) % 18446744073709551616 = s1 := ⟨_, rfl⟩
     obtain ⟨s, hs⟩ : ∃ s, (s1 + 18446744073709551616 - c) % 18446744073709551616 = s := ⟨_, rfl⟩
     obtain ⟨c', hc'⟩ : ∃ c', (if gx < gy + c then 1 else 0) = c' := ⟨_, rfl⟩
     have hw1 : IntKind.u64.wrap (((gx : Nat) : Int) - ((gy : Nat) : Int)) = ((s1 : Nat) : Int) := by rw [IntKind.wrap_u64]; omega
     have hw2 : IntKind.u64.wrap (((s1 : Nat) : Int) - ((c : Nat) : Int)) = ((s : Nat) : Int) := by rw [IntKind.wrap_u64]; omega
     have heq : s + gy + c = gx + 18446744073709551616 * c' := by split at hc' <;> omega
     have hsl : s < 18446744073709551616 := by omega
     have hcl : c' <= 1 := by split at hc' <;> omega
     have HST2 := Lib.hid (HST.out s c' heq)
     have HEQ := Lib.hid heq
     obtain ⟨q, hq⟩ : ∃ q, decide (c' = 1) = q := ⟨_, rfl⟩
     have HQ := Lib.hid hq
     clear hs1 hs hc' heq HST hq
     go_wp2_with fail
     refine HA.out.mono ?_
     rintro e w1 ⟨rfl, hw⟩
     subst hw
     go_wp2_with fail
     refine HB.out.mono ?_
     rintro e w1 ⟨rfl, hw⟩
     subst hw
     go_upto_region 8 with fail
     go_cut [5, 6, 7, 8, 9, 10, 42] (fun u5 u6 u7 u8 u9 u10 u42 wx => u5 = .slice x5 z.length c5 /\ u6 = .int .u64 ((c : Nat) : Int) /\ u7 = .int .i64 ((i : Nat) : Int) /\ u8 = .int .u64 ((gx : Nat) : Int) /\ u9 = .int .u64 ((gy : Nat) : Int) /\ u10 = .int .u64 ((s : Nat) : Int) /\ u42 = .bool q /\ wr = wx)
     case first =>
       have heq := HEQ.out
       have hqd := HQ.out
       clear HA HB HST2 HEQ HQ hw1 hw2 hown hbw
       by_cases h1 : gx < gy
       · have d1 : decide (gx < gy) = true := decide_eq_true (by omega)
         have hqt : q = true := by rw [<- hqd]; exact decide_eq_true (by omega)
         subst hqt
         clear heq hqd h1
         go_wp2_with fail
         go_meet
         exact ⟨by rw [hzl], rfl, rfl, rfl, rfl, rfl, rfl, rfl⟩
       have d1 : decide (gx < gy) = false := decide_eq_false (by omega)
       by_cases h2 : gx = gy
       · have b2 : (((gx : Nat) : Int) == ((gy : Nat) : Int)) = true := beq_iff_eq.2 (by omega)
         have hqg : (((c : Nat) : Int) == 1) = q := by
           rw [<- hqd]
           by_cases h3 : c = 1
           · rw [decide_eq_true (by omega)]; exact beq_iff_eq.2 (by omega)
           · rw [decide_eq_false (by omega)]; exact beq_eq_false_iff_ne.2 (by omega)
         clear heq hqd h1 h2
         go_wp2_with fail
         go_meet
         exact ⟨by rw [hzl], rfl, rfl, rfl, rfl, rfl, by first | rfl | rw [hqg] | simp [hqg], rfl⟩
       · have b2 : (((gx : Nat) : Int) == ((gy : Nat) : Int)) = false := beq_eq_false_iff_ne.2 (by omega)
         have hqt : q = false := by rw [<- hqd]; exact decide_eq_false (by omega)
         subst hqt
         clear heq hqd h1 h2
         go_wp2_with fail
         go_meet
         exact ⟨by rw [hzl], rfl, rfl, rfl, rfl, rfl, rfl, rfl⟩
     case rest =>
       obtain ⟨rfl, rfl, rfl, rfl, rfl, rfl, rfl, rfl⟩ := hcut
       have hqd := HQ.out
       clear HA HB HEQ HQ hw1 hw2
       cases q
       all_goals first
         | (have hcv : c' = 1 := of_decide_eq_true hqd; subst hcv)
         | (have hcn := of_decide_eq_false hqd; have hcv : c' = 0 := (by omega); subst hcv; clear hcn)
       all_goals
         clear hqd
         go_wp2_with (at_builtin; refine aBV rfl _ _ 25 rfl w.heap.size 23 i0 (.int .u64 0) 8 Tryz.underlying25 hi hz0 hz1 hz2 rfl _ _ _ rfl hown _ _ rfl rfl (by unfold maxLen; omega) (by omega) hbw.size ?_; intro v' w3 hown3 hg3)
         have hg4 : wr.grownBy w3 (Value.slice x5 z.length c5).ownBlock := hg3
         have hbw3 := Below.grownB hbw hg4 hbw.size hown
         go_roundw
         case rel =>
           refine ⟨i + 1, _, z ++ [s], by omega, by go_num, rfl, by decide, by simp [hzl], aF0 hzo hsl, HST2.out, ?_, hbw3⟩
           rw [List.length_append, List.length_singleton, aEc]
           exact hown3
         case measure => simp [intOf]; omega
   · have hval : valN z = valN x - valN y := by
       have hMM := HM.out
       exact aO2 hzo HS.out hzl (by omega) (by omega) HYX.out
     have hN := aBN w.heap.size _ z wr (aAE.ofRow hown (Nat.le_refl _) hzo) (by omega)
     rw [hval] at hN
     have HN := Lib.hid hN
     clear hval HS hN hzl
     go_wp2_with fail
     refine HN.out.mono ?_
     rintro e w4 ⟨v4, rfl, hv4, hb4⟩
     go_wp2_with fail
     go_ret
     exact ⟨_, rfl, hv4.mono hbw.size, hbw.trans (hb4.mono hbw.size)⟩
end
section
set_option maxRecDepth 100000
set_option maxHeartbeats 1000000
open Go.RowKit
theorem aJB (lo : Nat) (neg : Bool) (a : Value) (l : List Nat) (exp : Int) (w : World) (ha : aAE lo w a l) (hl : (limbsOf (valN l)).length <= 1000000) (he : -4611686018427387904 <= exp) (he2 : exp <= 4611686018427387904) :
   Calls Tryz.prog 69 #[.bool neg, a, .int .i64 exp] w (aMP w (fNeg neg (valN l)) (fAbs (valN l)) (fExp (valN l) exp)) := by
 have hlen := aA4 (aBr ha.ok)
 have hbl := aIq (aBg (valN l))
 rw [aAi] at hbl
 have hba := (Below.refl w.heap.size w).alloc (Nat.le_refl _) (.cells #[.bool false, .slice none 0 0, .int .i64 0] 27)
 have hda := Blk.new w #[.bool false, .slice none 0 0, .int .i64 0] 27
 have hN := aFj lo a l _ (ha.call hba) (by omega)
 have hg0 : w.heap.size <= w.heap.size := Nat.le_refl _
 clear ha
 generalize valN l = n at *
 have HN := Lib.hid hN
 clear hN
 have E1 := Lib.hid (aAi n)
 by_cases h0 : n = 0
 · subst h0
   have e0 : (limbsOf 0).length = 0 := by rw [aAZ]; rfl
   go_enter Tryz.func69, Tryz.ntmps69
   go_wp2_with fail
   refine HN.out.mono ?_
   rintro e w1 ⟨v1, rfl, ⟨x, cap, rfl, _⟩, hb1⟩
   have hd1 := hda.call hb1
   have f0 := hd1.free 0
   have f1 := hd1.free 1
   have f2 := hd1.free 2
   have d0 := hd1.cell 0 _ rfl
   have d1 := hd1.cell 1 _ rfl
   have d2 := hd1.cell 2 _ rfl
   have hb2 := hba.trans (hb1.mono hba.size)
   go_wp2_with fail
   have hd3 := ((hd1.set 0 (.bool false)).set 1 (.slice none 0 0)).set 2 (.int .i64 0)
   have o0 := hd3.cell 0 _ rfl
   have o1 := hd3.cell 1 _ rfl
   have o2 := hd3.cell 2 _ rfl
   refine bodyPost_ret (v := .agg #[.bool false, .slice none 0 0, .int .i64 0]) (by simp [results, Tryz.results69, go_sem, o0, o1, o2]; try rfl) rfl ⟨_, rfl, ⟨_, by unfold fNeg fExp; rfl, ?_⟩, ((hb2.setCell hg0 _).setCell hg0 _).setCell hg0 _⟩
   rw [show fAbs 0 = 0 from Nat.zero_div _]
   exact Num.zero _ _ _ _ (by omega)
 · have hL : (limbsOf n).length ≠ 0 := by rw [Ne, aAG]; exact h0
   have hbe : (((limbsOf n).length : Int) == 0) = false := beq_eq_false_iff_ne.2 (by omega)
   have htz := aMW h0
   have HN0 := Lib.hid h0
   clear h0
   go_enter Tryz.func69, Tryz.ntmps69
   go_wp2_with fail
   refine HN.out.mono ?_
   rintro e w1 ⟨v1, rfl, hv1, hb1⟩
   obtain ⟨x1, c1, rfl⟩ : ∃ xx cc, v1 = .slice xx (limbsOf n).length cc := by
     obtain ⟨xx, cc, e, _⟩ := hv1
     exact ⟨xx, cc, e⟩
   have hb2 := hba.trans (hb1.mono hba.size)
   have hd1 := hda.call hb1
   have hlo := aSx _ _ _ w1 hv1.words (by omega)
   rw [E1.out] at hlo
   have HLO := Lib.hid hlo
   clear hlo
   go_wp2_with fail
   refine HLO.out.mono ?_
   rintro e w2 ⟨rfl, hb3⟩
   have hb4 := hb2.trans (hb3.mono hb2.size)
   have hd2 := hd1.call hb3
   have hsh := aJz _ _ _ (tz n) w2 (hv1.call hb3).words (by omega) (by omega)
   rw [E1.out] at hsh
   have HSH := Lib.hid hsh
   clear hsh HLO HN
   go_wp2_with fail
   refine HSH.out.mono ?_
   rintro e w3 ⟨v3, rfl, hv3, hb5⟩
   have hv4 : Num (w.heap.size + 1) w3 v3 (n / 2 ^ tz n) := hv3.mono (by
     have h1 := hd1.lt
     have h2 := hb3.size
     omega)
   obtain ⟨x3, n3, c3, rfl⟩ := hv3.slice
   have hd3 := hd2.call hb5
   have hb6 := hb4.trans (hb5.mono hb4.size)
   have f0 := hd3.free 0
   have f1 := hd3.free 1
   have f2 := hd3.free 2
   have d0 := hd3.cell 0 _ rfl
   have d1 := hd3.cell 1 _ rfl
   have d2 := hd3.cell 2 _ rfl
   clear HSH hd1 hd2 hb2 hb4
   go_wp2_with fail
   have hd5 := ((hd3.set 0 (.bool neg)).set 1 (.slice x3 n3 c3)).set 2 (.int .i64 (exp + ((tz n : Nat) : Int)))
   have o0 := hd5.cell 0 _ rfl
   have o1 := hd5.cell 1 _ rfl
   have o2 := hd5.cell 2 _ rfl
   have hv5 := ((hv4.gb (aFm w3 w.heap.size 0 none (.bool neg)) (by omega)).gb (aFm _ w.heap.size 1 none (.slice x3 n3 c3)) (by omega)).gb (aFm _ w.heap.size 2 none (.int .i64 (exp + ((tz n : Nat) : Int)))) (by omega)
   refine bodyPost_ret (v := .agg #[.bool neg, .slice x3 n3 c3, .int .i64 (exp + ((tz n : Nat) : Int))]) (by simp [results, Tryz.results69, go_sem, o0, o1, o2]; try rfl) rfl ⟨_, rfl, ⟨_, by unfold fNeg fExp; rw [if_neg HN0.out, if_neg HN0.out], hv5.mono (by omega)⟩, ((hb6.setCell hg0 _).setCell hg0 _).setCell hg0 _⟩
theorem aNX (lo : Nat) (neg : Bool) (a : Value) (l : List Nat) (exp : Int) (w : World) (ha : aAE lo w a l) (hl0 : l.length <= 17592186044416) (hl : (limbsOf (valN l)).length <= 1000000) (he : -4611686018427387904 <= exp) (he2 : exp <= 4611686018427387904) :
   Calls Tryz.prog 69 #[.bool neg, a, .int .i64 exp] w (aMP w (fNeg neg (valN l)) (fAbs (valN l)) (fExp (valN l) exp)) := aJB lo neg a l exp w ha hl he he2
end
section
open Go.RowKit
theorem AC.wn {P : Program} {I : World -> Prop} {f : FuncId} {n : Nat} {r : AV} {l : List AV} (h : AC P I f (.wds (limbsOf n) :: l) r) : AC P I f (.num n :: l) r :=
 ⟨h.1, fun S β w vs h1 h2 h3 => h.2 S β w vs h1 h2 (by simp only [RepL, Rep] at h3 ⊢; exact h3)⟩
def Sr (n : Nat) : Prop := bl n <= 60000000
theorem aBf {n : Nat} (h : bl n <= 60000000) : Sr n := h
theorem aDl {n : Nat} (h : Sr n) : (limbsOf n).length <= 1000000 := Nat.le_trans (aDt (k := 937500) (by unfold Sr at h; omega)) (by decide)
theorem aVz (l : List Nat) (hl : l.length <= 17592186044416) : AC Tryz.prog TabW 34 [.wds l] (.num (valN l)) := by
 refine ⟨by kernel_rfl, fun S β w vs hI hS h => ?_⟩
 simp only [RepL, Rep] at h
 obtain ⟨va, _, rfl, h1, rfl⟩ := h
 have := aBN 0 va l w h1.1 hl
 exact this.mono fun e w' h => aCC hS h
theorem aQ3 (a : Nat) (ha : Sr a) : AC Tryz.prog TabW 34 [.num a] (.num a) := by
 have := AC.wn (l := []) (aVz (limbsOf a) (by have := aDl ha; omega))
 rwa [aAi] at this
theorem aWO (l : List Nat) (hl : l.length <= 17592186044416) : AC Tryz.prog TabW 66 [.wds l] (.lit (.int .i64 ((bl (valN l) : Nat) : Int))) := by
 refine ⟨by kernel_rfl, fun S β w vs hI hS h => ?_⟩
 simp only [RepL, Rep] at h
 obtain ⟨va, _, rfl, h1, rfl⟩ := h
 have := aFV 0 va l w h1.1 hl
 exact this.mono fun e w' ⟨h1, h2⟩ => ⟨_, h1, (by simp only [Rep]), h2⟩
theorem aG1 (a : Nat) (ha : Sr a) : AC Tryz.prog TabW 66 [.num a] (.lit (.int .i64 ((bl a : Nat) : Int))) := by
 have := AC.wn (l := []) (aWO (limbsOf a) (by have := aDl ha; omega))
 rwa [aAi] at this
theorem aDE (n : Int) (h0 : 0 <= n) (h1 : n < 18446744073709551616) : AC Tryz.prog TabW 30 [.lit (.int .u64 n)] (.num (n.toNat)) := by
 refine ⟨by kernel_rfl, fun S β w vs hI hS h => ?_⟩
 simp only [RepL, Rep] at h
 obtain ⟨_, _, rfl, rfl, rfl⟩ := h
 have := aUl n w h0 h1
 exact this.mono fun e w' h => aCC hS h
theorem aD9 (a b : Nat) (ha : Sr a) (hb : Sr b) : AC Tryz.prog TabW 76 [.num a, .num b] (.num (a + b)) := by
 refine ⟨by kernel_rfl, fun S β w vs hI hS h => ?_⟩
 simp only [RepL, Rep] at h
 obtain ⟨va, _, rfl, h1, vb, _, rfl, h2, rfl⟩ := h
 have := aSG 0 va vb _ _ w h1.1 h2.1 (by have := aDl ha; omega) (by have := aDl hb; omega)
 rw [aAi, aAi] at this
 exact this.mono fun e w' h => aCC hS h
theorem aKY (a b : Nat) (ha : Sr a) (hb : Sr b) (hle : b <= a) : AC Tryz.prog TabW 78 [.num a, .num b] (.num (a - b)) := by
 refine ⟨by kernel_rfl, fun S β w vs hI hS h => ?_⟩
 simp only [RepL, Rep] at h
 obtain ⟨va, _, rfl, h1, vb, _, rfl, h2, rfl⟩ := h
 have := aMJ 0 va vb _ _ w h1.1 h2.1 (by have := aDl ha; omega) (by have := aDl hb; omega) (by rw [aAi, aAi]; exact hle)
 rw [aAi, aAi] at this
 exact this.mono fun e w' h => aCC hS h
theorem aOp (a b : Nat) : AC Tryz.prog TabW 77 [.num a, .num b] (.lit (.int .i64 (cmpN a b))) := by
 refine ⟨by kernel_rfl, fun S β w vs hI hS h => ?_⟩
 simp only [RepL, Rep] at h
 obtain ⟨va, _, rfl, h1, vb, _, rfl, h2, rfl⟩ := h
 have := aMR 0 va vb _ _ w h1.1 h2.1
 rw [aAi, aAi] at this
 exact this.mono fun e w' ⟨h1, h2⟩ => ⟨_, h1, (by simp only [Rep]), h2 ▸ Below.refl _ _⟩
theorem aED (a : Nat) (k : Int) (ha : Sr a) (h0 : 0 <= k) (hk : k <= 17592186044416) : AC Tryz.prog TabW 75 [.num a, .lit (.int .i64 k)] (.num (a * 2 ^ k.toNat)) := by
 obtain ⟨n, rfl⟩ := Int.eq_ofNat_of_zero_le h0
 refine ⟨by kernel_rfl, fun S β w vs hI hS h => ?_⟩
 simp only [RepL, Rep] at h
 obtain ⟨va, _, rfl, h1, _, _, rfl, rfl, rfl⟩ := h
 have := aMN 0 va _ n w h1.1 (by have := aDl ha; omega) (by omega)
 rw [aAi] at this
 exact this.mono fun e w' h => aCC hS h
theorem aV5 (neg : Bool) (l : List Nat) (e : Int) (hl0 : l.length <= 17592186044416) (hl : (limbsOf (valN l)).length <= 1000000) (he : Se e) : AC Tryz.prog TabW 69 [.lit (.bool neg), .wds l, .lit (.int .i64 e)] (dyV (aAL neg (valN l) e)) := by
 refine ⟨by kernel_rfl, fun S β w vs hI hS h => ?_⟩
 simp only [RepL, Rep] at h
 obtain ⟨_, _, rfl, rfl, va, _, rfl, h1, _, _, rfl, rfl, rfl⟩ := h
 have := aNX 0 neg va l e w h1.1 hl0 hl (by have := he.1; omega) (by have := he.2; omega)
 exact this.mono fun e w' h => aJm hS h
theorem aBZ (neg : Bool) (m : Nat) (e : Int) (hm : Sr m) (he : Se e) : AC Tryz.prog TabW 69 [.lit (.bool neg), .num m, .lit (.int .i64 e)] (dyV (aAL neg m e)) := by
 have h := aV5 neg (limbsOf m) e (by have := aDl hm; omega) (by rw [aAi]; exact aDl hm) he
 rw [aAi] at h
 exact ⟨h.1, fun S β w vs h1 h2 h3 => h.2 S β w vs h1 h2 (by simp only [RepL, Rep] at h3 ⊢; exact h3)⟩
theorem aPv {l : List Nat} (hok : okW l) {i : Nat} (hi : i < l.length) : (gw l i ≠ 0 -> (limbsOf (valN (l.take (i + 1)))).length = i + 1) /\ (gw l i = 0 -> (limbsOf (valN (l.take (i + 1)))).length = (limbsOf (valN (l.take i))).length) := by
 have e : l.take (i + 1) = l.take i ++ [gw l i] := by rw [List.take_add_one, List.getElem?_eq_getElem hi, aCN hi]; rfl
 have e2 : valN (l.take (i + 1)) = valN (l.take i) + gw l i * pw i := by rw [e, aEQ, List.length_take, Nat.min_eq_left (by omega)]
 constructor
 · intro h
   have h1 : valN (l.take (i + 1)) < pw (i + 1) := by
     have := aBr (l := l.take (i + 1)) (fun x hx => hok x (List.mem_of_mem_take hx))
     rwa [List.length_take, Nat.min_eq_left (by omega)] at this
   have h2 := aA4 h1
   refine Nat.le_antisymm h2 (Nat.not_lt.1 fun h3 => ?_)
   have h4 := aBr (aBg (valN (l.take (i + 1))))
   rw [aAi] at h4
   have h5 : pw (limbsOf (valN (l.take (i + 1)))).length <= pw i := by rw [aDo, aDo]; exact Nat.pow_le_pow_right (by decide) (by omega)
   have h6 : 1 * pw i <= gw l i * pw i := Nat.mul_le_mul_right _ (by omega)
   omega
 · intro h
   rw [e2, h, Nat.zero_mul, Nat.add_zero]
end
section
set_option maxRecDepth 10000
set_option maxHeartbeats 1000000
open Go.RowKit
def aXi (l : List Nat) (ms : Nat) (σ : St) : Prop := ∃ (t : List (Nat × AV)) (rest : AMem) (i : Nat), σ = ⟨t, 20, rest⟩ /\ getT t 6 = .wds l /\ getT t 7 = .lit (.int .i64 ((l.length : Nat) : Int)) /\ getT t 8 = .lit (.int .i64 ((i : Nat) : Int)) /\ getT t 3 = .lit (.int .i64 (((limbsOf (valN (l.take i))).length : Nat) : Int)) /\ (i <= l.length) /\ ms = l.length - i
theorem aOo (l : List Nat) (hl : l.length <= 9223372036854775807) (hok : okW l) : AC Tryz.prog TabW 107 [.wds l] (.lit (.bool (decide (1024 < (limbsOf (valN l)).length)))) := by
 have h00 : (((limbsOf (valN (l.take 0))).length : Nat) : Int) = 0 := by simp [valN, aAZ]
 refine aAd Tryz.func107 rfl (by kernel_rfl) aAc Tryz.mixed rfl rfl (by kernel_rfl) ?_
 simp only [aAl, Tryz.ntmps107, dyV, ivV, fxV]
 refine aAa fun K1 g1 => ?_
 refine aAb fun os => ?_
 try simp (disch := omega) only [xq, simprocAttr, dyV, ivV, fxV]
 refine g1 _ ?_
 refine aAa fun K2 g2 => ?_
 refine aAb fun os => ?_
 try simp (disch := omega) only [xq, simprocAttr, dyV, ivV, fxV]
 refine g2 _ ?_
 refine aAa fun K3 g3 => ?_
 refine aAa fun K4 g4 => ?_
 refine aAb fun os => ?_
 try simp (disch := omega) only [xq, simprocAttr, dyV, ivV, fxV]
 refine g4 _ ?_
 refine aAv ?_
 refine aDg (aXi l) _ ⟨_, [], 0, rfl, (by first | rfl | assumption | (simp (disch := omega) only [xq, simprocAttr, dyV, ivV, fxV, h00] <;> rfl)), (by first | rfl | assumption | (simp (disch := omega) only [xq, simprocAttr, dyV, ivV, fxV, h00] <;> rfl)), (by first | rfl | assumption | (simp (disch := omega) only [xq, simprocAttr, dyV, ivV, fxV, h00] <;> rfl)), (by first | rfl | assumption | (simp (disch := omega) only [xq, simprocAttr, dyV, ivV, fxV, h00] <;> rfl)), (by omega), rfl⟩ ?_
 rintro ms _ ⟨t, rest, i, rfl, GreatR_t6, GreatR_t7, GreatR_t8, GreatR_t3, hi, rfl⟩
 refine aAa fun K5 g5 => ?_
 refine aAb fun os => ?_
 try simp (disch := omega) only [xq, simprocAttr, dyV, ivV, fxV, GreatR_t6, GreatR_t7, GreatR_t8, GreatR_t3]
 refine g5 _ ?_
 refine aAa fun K6 g6 => ?_
 refine aAf (by first | rfl | assumption) (fun c1 => ?_) (fun c1 => ?_)
 ·try simp only [xn] at c1
  refine aAk ?_
  simp only [aAm, aAg, reduceIte, Nat.reduceEqDiff]
  refine g6 _ ?_
  refine aAa fun K7 g7 => ?_
  refine aAv ?_
  refine aAa fun K8 g8 => ?_
  have hlt : i < l.length := by omega
  have hc : 0 <= ((i : Nat) : Int) /\ ((i : Nat) : Int) < ((l.length : Nat) : Int) := by omega
  obtain ⟨hg1, hg2⟩ := aPv hok hlt
  refine aAb fun os => ?_
  try simp (disch := omega) only [xq, simprocAttr, dyV, ivV, fxV, GreatR_t6, GreatR_t7, GreatR_t8, GreatR_t3, hc]
  refine g8 _ ?_
  refine aAa fun K9 g9 => ?_
  refine aAb fun os => ?_
  try simp (disch := omega) only [xq, simprocAttr, dyV, ivV, fxV, GreatR_t6, GreatR_t7, GreatR_t8, GreatR_t3, hc]
  refine g9 _ ?_
  refine aAf (by first | rfl | assumption) (fun c2 => ?_) (fun c2 => ?_)
  ·try simp only [xn] at c2
   have hg : (((limbsOf (valN (l.take (i + 1)))).length : Nat) : Int) = (i : Int) + 1 := by rw [hg1 (by omega)]; rfl
   refine aAb fun os => ?_
   try simp (disch := omega) only [xq, simprocAttr, dyV, ivV, fxV, GreatR_t6, GreatR_t7, GreatR_t8, GreatR_t3, hc]
   refine g7 _ ?_
   refine aAb fun os => ?_
   try simp (disch := omega) only [xq, simprocAttr, dyV, ivV, fxV, GreatR_t6, GreatR_t7, GreatR_t8, GreatR_t3, hc]
   exact ⟨_, (by omega), ⟨_, _, (i + 1), rfl, (by first | rfl | assumption | (simp (disch := omega) only [xq, simprocAttr, dyV, ivV, fxV, GreatR_t6, GreatR_t7, GreatR_t8, GreatR_t3, hc, hg] <;> rfl)), (by first | rfl | assumption | (simp (disch := omega) only [xq, simprocAttr, dyV, ivV, fxV, GreatR_t6, GreatR_t7, GreatR_t8, GreatR_t3, hc, hg] <;> rfl)), (by first | rfl | assumption | (simp (disch := omega) only [xq, simprocAttr, dyV, ivV, fxV, GreatR_t6, GreatR_t7, GreatR_t8, GreatR_t3, hc, hg] <;> rfl)), (by first | rfl | assumption | (simp (disch := omega) only [xq, simprocAttr, dyV, ivV, fxV, GreatR_t6, GreatR_t7, GreatR_t8, GreatR_t3, hc, hg] <;> rfl)), (by omega), rfl⟩⟩
  ·try simp only [xn] at c2
   have hg : (((limbsOf (valN (l.take (i + 1)))).length : Nat) : Int) = (((limbsOf (valN (l.take i))).length : Nat) : Int) := by rw [hg2 (by omega)]
   refine aAk ?_
   simp only [aAm, aAg, reduceIte, Nat.reduceEqDiff]
   refine g7 _ ?_
   refine aAb fun os => ?_
   try simp (disch := omega) only [xq, simprocAttr, dyV, ivV, fxV, GreatR_t6, GreatR_t7, GreatR_t8, GreatR_t3, hc]
   exact ⟨_, (by omega), ⟨_, _, (i + 1), rfl, (by first | rfl | assumption | (simp (disch := omega) only [xq, simprocAttr, dyV, ivV, fxV, GreatR_t6, GreatR_t7, GreatR_t8, GreatR_t3, hc, hg] <;> rfl)), (by first | rfl | assumption | (simp (disch := omega) only [xq, simprocAttr, dyV, ivV, fxV, GreatR_t6, GreatR_t7, GreatR_t8, GreatR_t3, hc, hg] <;> rfl)), (by first | rfl | assumption | (simp (disch := omega) only [xq, simprocAttr, dyV, ivV, fxV, GreatR_t6, GreatR_t7, GreatR_t8, GreatR_t3, hc, hg] <;> rfl)), (by first | rfl | assumption | (simp (disch := omega) only [xq, simprocAttr, dyV, ivV, fxV, GreatR_t6, GreatR_t7, GreatR_t8, GreatR_t3, hc, hg] <;> rfl)), (by omega), rfl⟩⟩
 ·try simp only [xn] at c1
  refine aDh ?_
  simp only [aAm, aAg, reduceIte, Nat.reduceEqDiff]
  refine g3 _ ?_
  refine aAa fun K10 g10 => ?_
  refine aAb fun os => ?_
  try simp (disch := omega) only [xq, simprocAttr, dyV, ivV, fxV, GreatR_t6, GreatR_t7, GreatR_t8, GreatR_t3]
  refine g10 _ ?_
  refine aAe ?_
  simp only [endX, resX, resV, Tryz.results107]
  try simp (disch := omega) only [xq, simprocAttr, dyV, ivV, fxV, GreatR_t6, GreatR_t7, GreatR_t8, GreatR_t3]
  rw [List.take_of_length_le (show l.length <= i by omega)]
  exact congrArg some (congrArg AV.lit (congrArg Value.bool (decide_eq_decide.2 (by omega))))
def aXM (m n : Nat) (ms : Nat) (σ : St) : Prop := ∃ (t : List (Nat × AV)) (rest : AMem) (i : Nat), σ = ⟨t, 26, rest⟩ /\ getT t 0 = .num m /\ getT t 1 = .num n /\ getT t 12 = .lit (.int .i64 (((limbsOf m).length : Nat) : Int)) /\ getT t 13 = .lit (.int .i64 ((i : Nat) : Int)) /\ (i <= (limbsOf m).length) /\ (∀ j, j < i -> gw (limbsOf m) j = gw (limbsOf n) j) /\ ms = (limbsOf m).length - i
theorem aQ2 (m n : Nat) (hm : Sr m) (hn : Sr n) : AC Tryz.prog TabW 33 [.num m, .num n] (.lit (.bool (m == n))) := by
 have lm := aDl hm
 have ln := aDl hn
 have e1 : (limbsOf m).length ≠ (limbsOf n).length -> (m == n) = false := fun h => by simpa using fun e => h (by rw [e])
 have e2 : ∀ j, gw (limbsOf m) j ≠ gw (limbsOf n) j -> (m == n) = false := fun j h => by simpa using fun e => h (by rw [e])
 have e3 : (limbsOf m).length = (limbsOf n).length -> (∀ j, j < (limbsOf m).length -> gw (limbsOf m) j = gw (limbsOf n) j) -> (m == n) = true := fun h1 h2 => by
   have : limbsOf m = limbsOf n := List.ext_getElem h1 fun j hj hj' => by have := h2 j hj; rwa [aCN hj, aCN hj'] at this
   have := congrArg valN this
   rw [aAi, aAi] at this
   simpa using this
 refine aAd Tryz.func33 rfl (by kernel_rfl) aAc Tryz.mixed rfl rfl (by kernel_rfl) ?_
 simp only [aAl, Tryz.ntmps33, dyV, ivV, fxV]
 repeat' first
  | (refine aDg (aXM m n) _ ⟨_, [], 0, rfl, (by first | rfl | assumption | (simp (disch := omega) only [xq, simprocAttr, dyV, ivV, fxV] <;> rfl)), (by first | rfl | assumption | (simp (disch := omega) only [xq, simprocAttr, dyV, ivV, fxV] <;> rfl)), (by first | rfl | assumption | (simp (disch := omega) only [xq, simprocAttr, dyV, ivV, fxV] <;> rfl)), (by first | rfl | assumption | (simp (disch := omega) only [xq, simprocAttr, dyV, ivV, fxV] <;> rfl)), (Nat.zero_le _), (fun j hj => absurd hj (Nat.not_lt_zero j)), rfl⟩ ?_; rintro ms _ ⟨t, rest, i, rfl, SameR_t0, SameR_t1, SameR_t12, SameR_t13, hi, hv, rfl⟩)
  | refine aAa fun K g => ?_
  | refine goK (by assumption) ?_
  | refine aAv ?_
  | ((first | refine aAk ?_ | refine aDh ?_ | refine aAe ?_) <;> try simp only [aAm, aAg, reduceIte, Nat.reduceEqDiff])
  | exact ⟨_, (by omega), ⟨_, _, (i + 1), rfl, (by first | rfl | assumption | (simp (disch := omega) only [xq, simprocAttr, dyV, ivV, fxV, SameR_t0, SameR_t1, SameR_t12, SameR_t13] <;> rfl)), (by first | rfl | assumption | (simp (disch := omega) only [xq, simprocAttr, dyV, ivV, fxV, SameR_t0, SameR_t1, SameR_t12, SameR_t13] <;> rfl)), (by first | rfl | assumption | (simp (disch := omega) only [xq, simprocAttr, dyV, ivV, fxV, SameR_t0, SameR_t1, SameR_t12, SameR_t13] <;> rfl)), (by first | rfl | assumption | (simp (disch := omega) only [xq, simprocAttr, dyV, ivV, fxV, SameR_t0, SameR_t1, SameR_t12, SameR_t13] <;> rfl)), (by omega), (fun j hj => by rcases Nat.lt_succ_iff_lt_or_eq.1 hj with h | rfl; exact hv j h; omega), rfl⟩⟩
  | (refine aCR (id := 6) rfl (by kernel_rfl) fun os => ?_
     have hc : 0 <= ((i : Nat) : Int) /\ ((i : Nat) : Int) < (((limbsOf m).length : Nat) : Int) := by omega
     have hd : 0 <= ((i : Nat) : Int) /\ ((i : Nat) : Int) < (((limbsOf n).length : Nat) : Int) := by omega
     simp (disch := omega) only [xq, simprocAttr, dyV, ivV, fxV, SameR_t0, SameR_t1, SameR_t12, SameR_t13, hc, hd])
  | ((first
  | refine aAU rfl fun os => ?_
  | refine aCR rfl (by kernel_rfl) fun os => ?_
  | simp only [endX, resX, resV, Tryz.results33]) <;> try (first | simp (disch := omega) only [xq, simprocAttr, dyV, ivV, fxV, SameR_t0, SameR_t1, SameR_t12, SameR_t13] | simp (disch := omega) only [xq, simprocAttr, dyV, ivV, fxV]))
  | (refine aAf (by first | rfl | assumption) (fun c => ?_) (fun c => ?_) <;> first | exact absurd c (by decide) | ((try rw [c]); try simp only [xn] at c))
  | (first | done | rfl
     done)
  | (rw [e1 (by omega)]
     done)
  | (rw [e2 i (by omega)]
     done)
  | (rw [e3 (by omega) (fun j hj => hv j (by omega))]
     done)
end
section
set_option maxRecDepth 10000
set_option maxHeartbeats 1000000
open Go.RowKit
theorem aPn (a : Nat) (ha : Sr a) : AC Tryz.prog TabW 107 [.num a] (.lit (.bool (decide (1024 < (limbsOf a).length)))) := by
 have := AC.wn (l := []) (aOo (limbsOf a) (by have := aDl ha; omega) (aBg a))
 rwa [aAi] at this
theorem aA2 (n : Nat) : ((((limbsOf n).length : Nat) : Int) == 0) = (n == 0) := by
 rw [Bool.eq_iff_iff, beq_iff_eq, beq_iff_eq]
 have := aAG (n := n)
 omega
def aJI (a b : D) : Bool := a.neg == b.neg && a.e == b.e && a.m == b.m
theorem aOc (a b : D) : aJI a b = true <-> a = b := by
 cases a; cases b
 simp [aJI]
 constructor
 · rintro ⟨⟨rfl, rfl⟩, rfl⟩; exact ⟨rfl, rfl, rfl⟩
 · rintro ⟨rfl, rfl, rfl⟩; exact ⟨⟨rfl, rfl⟩, rfl⟩
theorem aFN (d : D) (h : bl d.m <= 50000000 /\ ae d <= 1000000000000000) : AC Tryz.prog TabW 18 [dyV d] (.lit (.bool (d.m == 0))) := by
 refine aAd Tryz.func18 rfl (by kernel_rfl) aAc Tryz.mixed rfl rfl (by kernel_rfl) ?_
 simp only [aAl, Tryz.ntmps18, dyV, ivV, fxV]
 refine aAa fun K1 g1 => ?_
 refine aAb fun os => ?_
 try simp (disch := omega) only [xq, simprocAttr, dyV, ivV, fxV, aA2]
 refine g1 _ ?_
 refine aAa fun K2 g2 => ?_
 refine aAb fun os => ?_
 try simp (disch := omega) only [xq, simprocAttr, dyV, ivV, fxV, aA2]
 refine cxo (aQ3 _ (aBf (by omega))) ?_
 try simp (disch := omega) only [xq, simprocAttr, dyV, ivV, fxV, aA2]
 refine g2 _ ?_
 refine aAe ?_
 simp only [endX, resX, resV, Tryz.results18]
 try simp (disch := omega) only [xq, simprocAttr, dyV, ivV, fxV, aA2]
 first | done | rfl
theorem aCw (d : D) (h : bl d.m <= 50000000 /\ ae d <= 1000000000000000) : AC Tryz.prog TabW 71 [dyV d] (dyV (oneD d)) /\ (bl (oneD d).m <= bl d.m /\ ae (oneD d) <= ae d + bl d.m) := by
 refine ⟨?_, aBO d⟩
 have hr : oneD d = aAL d.neg d.m d.e := rfl
 rw [hr]
 clear hr
 have ex : ae d = d.e.natAbs := rfl
 refine aAd Tryz.func71 rfl (by kernel_rfl) aAc Tryz.mixed rfl rfl (by kernel_rfl) ?_
 simp only [aAl, Tryz.ntmps71, dyV, ivV, fxV]
 refine aAa fun K1 g1 => ?_
 refine aAb fun os => ?_
 try simp (disch := omega) only [xq, simprocAttr, dyV, ivV, fxV]
 refine g1 _ ?_
 refine aAa fun K2 g2 => ?_
 refine aAb fun os => ?_
 try simp (disch := omega) only [xq, simprocAttr, dyV, ivV, fxV]
 refine cxo (aBZ _ _ _ (aBf (by omega)) (aD4 (by omega))) ?_
 try simp (disch := omega) only [xq, simprocAttr, dyV, ivV, fxV]
 refine g2 _ ?_
 refine aAe ?_
 simp only [endX, resX, resV, Tryz.results71]
 try simp (disch := omega) only [xq, simprocAttr, dyV, ivV, fxV]
 first | done | rfl
theorem aCF (d : D) (h : bl d.m <= 50000000 /\ ae d <= 1000000000000000) : AC Tryz.prog TabW 58 [dyV d] (dyV (negD d)) /\ (bl (negD d).m <= bl d.m /\ ae (negD d) <= ae d + bl d.m) := by
 refine ⟨?_, aEl d⟩
 have hr : negD d = aAL (!d.neg) d.m d.e := rfl
 rw [hr]
 clear hr
 have ex : ae d = d.e.natAbs := rfl
 refine aAd Tryz.func58 rfl (by kernel_rfl) aAc Tryz.mixed rfl rfl (by kernel_rfl) ?_
 simp only [aAl, Tryz.ntmps58, dyV, ivV, fxV]
 refine aAa fun K1 g1 => ?_
 refine aAb fun os => ?_
 try simp (disch := omega) only [xq, simprocAttr, dyV, ivV, fxV]
 refine g1 _ ?_
 refine aAa fun K2 g2 => ?_
 refine aAb fun os => ?_
 try simp (disch := omega) only [xq, simprocAttr, dyV, ivV, fxV]
 refine cxo (aBZ _ _ _ (aBf (by omega)) (aD4 (by omega))) ?_
 try simp (disch := omega) only [xq, simprocAttr, dyV, ivV, fxV]
 refine g2 _ ?_
 refine aAe ?_
 simp only [endX, resX, resV, Tryz.results58]
 try simp (disch := omega) only [xq, simprocAttr, dyV, ivV, fxV]
 first | done | rfl
theorem aHF (d : D) (n : Int) (h : bl d.m <= 50000000 /\ ae d <= 1000000000000000 /\ -1000000000000000 <= n /\ n <= 1000000000000000) : AC Tryz.prog TabW 104 [dyV d, .lit (.int .i64 n)] (dyV (aAs d n)) /\ (bl (aAs d n).m <= bl d.m /\ ae (aAs d n) <= ae d + n.natAbs + bl d.m) := by
 refine ⟨?_, aGV d n⟩
 have hr : aAs d n = aAL d.neg d.m (d.e + n) := rfl
 rw [hr]
 clear hr
 have ex : ae d = d.e.natAbs := rfl
 refine aAd Tryz.func104 rfl (by kernel_rfl) aAc Tryz.mixed rfl rfl (by kernel_rfl) ?_
 simp only [aAl, Tryz.ntmps104, dyV, ivV, fxV]
 refine aAa fun K1 g1 => ?_
 refine aAb fun os => ?_
 try simp (disch := omega) only [xq, simprocAttr, dyV, ivV, fxV]
 refine g1 _ ?_
 refine aAa fun K2 g2 => ?_
 refine aAb fun os => ?_
 try simp (disch := omega) only [xq, simprocAttr, dyV, ivV, fxV]
 refine cxo (aBZ _ _ _ (aBf (by omega)) (aD4 (by omega))) ?_
 try simp (disch := omega) only [xq, simprocAttr, dyV, ivV, fxV]
 refine g2 _ ?_
 refine aAe ?_
 simp only [endX, resX, resV, Tryz.results104]
 try simp (disch := omega) only [xq, simprocAttr, dyV, ivV, fxV]
 first | done | rfl
theorem aGh (d : D) (h : bl d.m <= 50000000 /\ ae d <= 1000000000000000) : AC Tryz.prog TabW 65 [dyV d] (.lit (.bool (aAT d))) := by
 have e1 : ∀ P Q R : Prop, [Decidable P] -> [Decidable Q] -> [Decidable R] -> decide (P /\ Q /\ R) = (decide P && (decide Q && decide R)) := fun P Q R _ _ _ => by simp
 have hr : aAT d = (decide ((limbsOf d.m).length <= 1024) && (decide (-32768 <= d.e) && decide (d.e <= 32768))) := e1 _ _ _
 rw [hr]
 clear hr
 have e2 : decide ((limbsOf d.m).length <= 1024) = !decide (1024 < (limbsOf d.m).length) := by rw [<- decide_not]; exact decide_eq_decide.2 (by omega)
 rw [e2]
 have hg := aPn d.m (aBf (by omega))
 generalize decide (1024 < (limbsOf d.m).length) = g at *
 refine aAd Tryz.func65 rfl (by kernel_rfl) aAc Tryz.mixed rfl rfl (by kernel_rfl) ?_
 simp only [aAl, Tryz.ntmps65, dyV, ivV, fxV]
 repeat' first
  | refine aAa fun K g => ?_
  | refine goK (by assumption) ?_
  | (refine aAe ?_; try simp only [aAm, aAg, reduceIte, Nat.reduceEqDiff])
  | ((first
  | refine aAU rfl fun os => ?_
  | refine aB7 ?_
  | refine cxo (hg) ?_
  | simp only [endX, resX, resV, Tryz.results65]) <;> try (simp (disch := omega) only [xq, simprocAttr, dyV, ivV, fxV]))
  | (refine gx (fun c => ?_) (fun c => ?_) <;> first | exact absurd c (by decide) | ((try rw [c]); (try simp only [xn] at c); try (simp (disch := omega) only [xq, simprocAttr, dyV, ivV, fxV])))
  | (first | (simp_all; done) | simp [*]
     done)
theorem aB4 (n : Int) (h : -9223372036854775808 < n /\ n <= 9223372036854775807) : AC Tryz.prog TabW 25 [.lit (.int .i64 n)] (dyV (intD n)) /\ (bl (intD n).m <= 64 /\ ae (intD n) <= 64) := by
 have hb : bl n.natAbs <= 64 := aC8 (by omega)
 have hs := aAW n
 refine ⟨?_, by omega⟩
 clear hs
 rw [intE]
 refine aAd Tryz.func25 rfl (by kernel_rfl) aAc Tryz.mixed rfl rfl (by kernel_rfl) ?_
 simp only [aAl, Tryz.ntmps25, dyV, ivV, fxV]
 repeat' first
  | refine aAa fun K g => ?_
  | refine goK (by assumption) ?_
  | ((first | refine aAk ?_ | refine aAe ?_) <;> try simp only [aAm, aAg, reduceIte, Nat.reduceEqDiff])
  | ((first
  | refine aAU rfl fun os => ?_
  | (refine cxo (aDE _ (by omega) (by omega)) ?_; first | rw [show ((0 - n % 18446744073709551616) % 18446744073709551616).toNat = n.natAbs from by omega] | rw [show (n % 18446744073709551616).toNat = n.natAbs from by omega])
  | refine cxo (aBZ _ _ _ (aBf (by omega)) (aD4 (by omega))) ?_
  | simp only [endX, resX, resV, Tryz.results25]) <;> try (simp (disch := omega) only [xq, simprocAttr, dyV, ivV, fxV, aCn]))
  | (refine aAf (by first | rfl | assumption) (fun c => ?_) (fun c => ?_) <;> first | exact absurd c (by decide) | ((try rw [c]); try simp only [xn] at c))
  | (first | done | rfl
     done)
  | (rw [decide_eq_true (by omega)]
     done)
  | (rw [decide_eq_false (by omega)]
     done)
theorem aEs (d : D) (h : bl d.m <= 50000000 /\ ae d <= 1000000000000000) : AC Tryz.prog TabW 70 [dyV d] (.lit (.int .i64 (aAK d))) := by
 have hr : aAK d = if d.m = 0 then 0 else if d.neg then -1 else 1 := rfl
 rw [hr]
 clear hr
 refine aAd Tryz.func70 rfl (by kernel_rfl) aAc Tryz.mixed rfl rfl (by kernel_rfl) ?_
 simp only [aAl, Tryz.ntmps70, dyV, ivV, fxV]
 repeat' first
  | refine aAa fun K g => ?_
  | refine goK (by assumption) ?_
  | refine aAv ?_
  | ((first | refine aAk ?_ | refine aAe ?_) <;> try simp only [aAm, aAg, reduceIte, Nat.reduceEqDiff])
  | ((first
  | refine aAU rfl fun os => ?_
  | refine cxo (aFN _ (by omega)) ?_
  | simp only [endX, resX, resV, Tryz.results70]) <;> try (simp (disch := omega) only [xq, simprocAttr, dyV, ivV, fxV]))
  | (refine aAf (by first | rfl | assumption) (fun c => ?_) (fun c => ?_) <;> first | exact absurd c (by decide) | ((try rw [c]); try simp only [xn] at c))
  | (simp [*]
     done)
theorem aGf (d : D) (h : bl d.m <= 50000000 /\ ae d <= 1000000000000000) : AC Tryz.prog TabW 19 [dyV d] (.lit (.int .i64 (topD d))) /\ (topD d = d.e + ((bl d.m : Nat) : Int) - 1 /\ d.e.natAbs = ae d) := by
 refine ⟨?_, rfl, rfl⟩
 have hr : topD d = d.e + ((bl d.m : Nat) : Int) - 1 := rfl
 rw [hr]
 clear hr
 have ex : ae d = d.e.natAbs := rfl
 refine aAd Tryz.func19 rfl (by kernel_rfl) aAc Tryz.mixed rfl rfl (by kernel_rfl) ?_
 simp only [aAl, Tryz.ntmps19, dyV, ivV, fxV]
 refine aAa fun K1 g1 => ?_
 refine aAb fun os => ?_
 try simp (disch := omega) only [xq, simprocAttr, dyV, ivV, fxV]
 refine g1 _ ?_
 refine aAa fun K2 g2 => ?_
 refine aAB (by kernel_rfl) fun os => ?_
 try simp (disch := omega) only [xq, simprocAttr, dyV, ivV, fxV]
 refine cxd (aG1 _ (aBf (by omega))) ?_
 try simp (disch := omega) only [xq, simprocAttr, dyV, ivV, fxV]
 refine g2 _ ?_
 refine aAe ?_
 simp only [endX, resX, resV, Tryz.results19]
 try simp (disch := omega) only [xq, simprocAttr, dyV, ivV, fxV]
 first | done | rfl
theorem aMB (a b : D) (h : bl a.m <= 50000000 /\ bl b.m <= 50000000) : AC Tryz.prog TabW 67 [dyV a, dyV b] (.lit (.bool (aJI a b))) := by
 have hr : aJI a b = (a.neg == b.neg && a.e == b.e && a.m == b.m) := rfl
 rw [hr]
 clear hr
 refine aAd Tryz.func67 rfl (by kernel_rfl) aAc Tryz.mixed rfl rfl (by kernel_rfl) ?_
 simp only [aAl, Tryz.ntmps67, dyV, ivV, fxV]
 repeat' first
  | refine aAa fun K g => ?_
  | refine goK (by assumption) ?_
  | (refine aAe ?_; try simp only [aAm, aAg, reduceIte, Nat.reduceEqDiff])
  | ((first
  | refine aAU rfl fun os => ?_
  | refine aB7 ?_
  | refine cxo (aQ2 _ _ (aBf (by omega)) (aBf (by omega))) ?_
  | simp only [endX, resX, resV, Tryz.results67]) <;> try (simp (disch := omega) only [xq, simprocAttr, dyV, ivV, fxV]))
  | (refine gx (fun c => ?_) (fun c => ?_) <;> first | exact absurd c (by decide) | ((try rw [c]); (try simp only [xn] at c); try (simp (disch := omega) only [xq, simprocAttr, dyV, ivV, fxV])))
  | (first | (simp_all; done) | simp [*]
     done)
end
section
set_option maxRecDepth 10000
set_option maxHeartbeats 4000000
open Go.RowKit
theorem aNR (a b : D) : addD a b = if (oneD a).m = 0 then oneD b else if (oneD b).m = 0 then oneD a else
 if (oneD a).neg = (oneD b).neg then aAL (oneD a).neg ((oneD a).m * 2 ^ ((oneD a).e - min (oneD a).e (oneD b).e).toNat + (oneD b).m * 2 ^ ((oneD b).e - min (oneD a).e (oneD b).e).toNat) (min (oneD a).e (oneD b).e)
 else if (oneD b).m * 2 ^ ((oneD b).e - min (oneD a).e (oneD b).e).toNat <= (oneD a).m * 2 ^ ((oneD a).e - min (oneD a).e (oneD b).e).toNat then
   aAL (oneD a).neg ((oneD a).m * 2 ^ ((oneD a).e - min (oneD a).e (oneD b).e).toNat - (oneD b).m * 2 ^ ((oneD b).e - min (oneD a).e (oneD b).e).toNat) (min (oneD a).e (oneD b).e)
 else aAL (oneD b).neg ((oneD b).m * 2 ^ ((oneD b).e - min (oneD a).e (oneD b).e).toNat - (oneD a).m * 2 ^ ((oneD a).e - min (oneD a).e (oneD b).e).toNat) (min (oneD a).e (oneD b).e) := by
 simp only [addD, aGY]
theorem minR (p q : Int) : (if q < p then q else p) = min p q := by split <;> omega
theorem aRZ (a b : D) (h : bl a.m + bl b.m <= 10000000 /\ ae a <= 900000000000000 /\ ae b <= 900000000000000) (hk : (oneD a).e - (oneD b).e <= 40000000 /\ (oneD b).e - (oneD a).e <= 40000000) : AC Tryz.prog TabW 36 [dyV a, dyV b] (dyV (addD a b)) := by
 have o1 := aCw a (by omega)
 have o2 := aCw b (by omega)
 rw [aNR]
 generalize oneD a = x at *
 generalize oneD b = y at *
 have ex : ae x = x.e.natAbs := rfl
 have ey : ae y = y.e.natAbs := rfl
 have b1 := aD2 x.m (x.e - min x.e y.e).toNat
 have b2 := aD2 y.m (y.e - min x.e y.e).toNat
 have b3 := aCr (x.m * 2 ^ (x.e - min x.e y.e).toNat) (y.m * 2 ^ (y.e - min x.e y.e).toNat)
 have b4 := aFP (x.m * 2 ^ (x.e - min x.e y.e).toNat) (y.m * 2 ^ (y.e - min x.e y.e).toNat)
 have b5 := aFP (y.m * 2 ^ (y.e - min x.e y.e).toNat) (x.m * 2 ^ (x.e - min x.e y.e).toNat)
 have hX := aED x.m (x.e - min x.e y.e) (aBf (by omega)) (by omega) (by omega)
 have hY := aED y.m (y.e - min x.e y.e) (aBf (by omega)) (by omega) (by omega)
 have zx := aAG (n := x.m)
 have zy := aAG (n := y.m)
 generalize x.m * 2 ^ (x.e - min x.e y.e).toNat = X at *
 generalize y.m * 2 ^ (y.e - min x.e y.e).toNat = Y at *
 have hc := @aLr X Y
 refine aAd Tryz.func36 rfl (by kernel_rfl) aAc Tryz.mixed rfl rfl (by kernel_rfl) ?_
 simp only [aAl, Tryz.ntmps36, dyV, ivV, fxV]
 repeat' first
  | refine aAa fun K g => ?_
  | refine goK (by assumption) ?_
  | refine aAv ?_
  | ((first | refine aAk ?_ | refine aAe ?_) <;> try simp only [aAm, aAg, reduceIte, Nat.reduceEqDiff])
  | ((first
  | refine aAU rfl fun os => ?_
  | refine aCR rfl (by kernel_rfl) fun os => ?_
  | refine cxd (o1.1) ?_
  | refine cxd (o2.1) ?_
  | refine cxo (hX) ?_
  | refine cxo (hY) ?_
  | refine cxd (aD9 _ _ (aBf (by omega)) (aBf (by omega))) ?_
  | refine cxd (aBZ _ _ _ (aBf (by omega)) (aD4 (by omega))) ?_
  | refine cxo (aOp _ _) ?_
  | refine cxd (aKY _ _ (aBf (by omega)) (aBf (by omega)) (by omega)) ?_
  | simp only [endX, resX, resV, Tryz.results36]) <;> try (simp (disch := omega) only [xq, simprocAttr, dyV, ivV, fxV, minR, aA2]))
  | (refine aAf (by first | rfl | assumption) (fun c => ?_) (fun c => ?_) <;> first | exact absurd c (by decide) | ((try rw [c]); try simp only [xn] at c))
  | (repeat (first | rw [if_pos (by first | assumption | omega)] | rw [if_neg (by first | assumption | omega)])
     first | done | rfl
     done)
theorem aKX {a b : D} : (oneD a).e - (oneD b).e <= (ae a + bl a.m + ae b + bl b.m : Nat) /\ (oneD b).e - (oneD a).e <= (ae a + bl a.m + ae b + bl b.m : Nat) := by
 have h1 := aBO a
 have h2 := aBO b
 have e1 : ae (oneD a) = (oneD a).e.natAbs := rfl
 have e2 : ae (oneD b) = (oneD b).e.natAbs := rfl
 omega
theorem aR0 (a b : D) (h : bl a.m + bl b.m <= 10000000 /\ ae a <= 800000000000000 /\ ae b <= 800000000000000) (hk : (oneD a).e - (oneD (negD b)).e <= 40000000 /\ (oneD (negD b)).e - (oneD a).e <= 40000000) : AC Tryz.prog TabW 24 [dyV a, dyV b] (dyV (addD a (negD b))) := by
 have hn := aCF b (by omega)
 have hp := aRZ a (negD b) (by omega) hk
 refine aAd Tryz.func24 rfl (by kernel_rfl) aAc Tryz.mixed rfl rfl (by kernel_rfl) ?_
 simp only [aAl, Tryz.ntmps24, dyV, ivV, fxV]
 refine aAa fun K1 g1 => ?_
 refine aAb fun os => ?_
 try simp (disch := omega) only [xq, simprocAttr, dyV, ivV, fxV]
 refine g1 _ ?_
 refine aAa fun K2 g2 => ?_
 refine aAB (by kernel_rfl) fun os => ?_
 try simp (disch := omega) only [xq, simprocAttr, dyV, ivV, fxV]
 refine cxd (hn.1) ?_
 try simp (disch := omega) only [xq, simprocAttr, dyV, ivV, fxV]
 refine cxd (hp) ?_
 try simp (disch := omega) only [xq, simprocAttr, dyV, ivV, fxV]
 refine g2 _ ?_
 refine aAe ?_
 simp only [endX, resX, resV, Tryz.results24]
 try simp (disch := omega) only [xq, simprocAttr, dyV, ivV, fxV]
 first | done | rfl
theorem aFO (a b : D) (h : 2 * bl a.m + 3 * bl b.m + ae a + ae b <= 20000000) : AC Tryz.prog TabW 24 [dyV a, dyV b] (dyV (addD a (negD b))) /\ (bl (addD a (negD b)).m <= 2 * bl a.m + 3 * bl b.m + ae a + ae b + 1 /\ ae (addD a (negD b)) <= 2 * ae a + 2 * ae b + 3 * bl a.m + 5 * bl b.m + 1) := by
 have hn := aKX (a := a) (b := negD b)
 have hg := aEl b
 have hs := aEM a (negD b)
 exact ⟨aR0 a b (by omega) (by omega), by omega⟩
theorem aUC (a b : D) : (if aAK a < aAK b then -1 else if aAK b < aAK a then 1 else if aAK a = 0 then 0 else
   if topD a ≠ topD b then (if topD b < topD a then aAK a else -aAK a) else aAK (addD a (negD b))) = cmpD a b := by
 have h := aNL a b
 unfold cmpP at h
 by_cases h1 : aAK a < aAK b
 · rw [if_pos h1] at h ⊢; exact h
 rw [if_neg h1] at h ⊢
 by_cases h2 : aAK b < aAK a
 · rw [if_pos h2] at h ⊢; exact h
 rw [if_neg h2] at h ⊢
 by_cases h3 : aAK a = 0
 · rw [if_pos h3] at h ⊢; exact h
 rw [if_neg h3] at h ⊢
 by_cases h4 : topD a ≠ topD b
 · rw [if_pos h4] at h ⊢
   by_cases h5 : topD b < topD a
   · rw [if_pos h5]; rw [if_neg (by omega)] at h; exact h
   · rw [if_neg h5]; rw [if_pos (by omega)] at h; exact h
 · rw [if_neg h4]
   rw [aIF, aMH, aGj]
   unfold cmpD
   have e1 : a.v + -b.v < 0 <-> a.v < b.v := by constructor <;> intro <;> grind
   have e2 : 0 < a.v + -b.v <-> b.v < a.v := by constructor <;> intro <;> grind
   simp only [e1, e2]
theorem aL7 (b : D) : (oneD (negD b)).e = (oneD b).e := by
 rw [aCL (show (negD b).canon from aCz _ _ _)]
 rfl
theorem aUe {a b : D} (h : bl a.m + bl b.m <= 10000000 /\ ae a <= 900000000000000 /\ ae b <= 900000000000000) {k : Nat} (hk : (oneD a).e - (oneD b).e <= k /\ (oneD b).e - (oneD a).e <= k) (hk2 : k <= 20000000 := by omega) : bl (addD a b).m <= 50000000 /\ ae (addD a b) <= 1000000000000000 := by
 rw [aNR]
 have o1 := aBO a
 have o2 := aBO b
 generalize oneD a = x at *
 generalize oneD b = y at *
 have ex : ae x = x.e.natAbs := rfl
 have ey : ae y = y.e.natAbs := rfl
 have b1 := aD2 x.m (x.e - min x.e y.e).toNat
 have b2 := aD2 y.m (y.e - min x.e y.e).toNat
 have b3 := aCr (x.m * 2 ^ (x.e - min x.e y.e).toNat) (y.m * 2 ^ (y.e - min x.e y.e).toNat)
 have b4 := aFP (x.m * 2 ^ (x.e - min x.e y.e).toNat) (y.m * 2 ^ (y.e - min x.e y.e).toNat)
 have b5 := aFP (y.m * 2 ^ (y.e - min x.e y.e).toNat) (x.m * 2 ^ (x.e - min x.e y.e).toNat)
 have s1 := aBp x.neg (x.m * 2 ^ (x.e - min x.e y.e).toNat + y.m * 2 ^ (y.e - min x.e y.e).toNat) (min x.e y.e)
 have s2 := aBp x.neg (x.m * 2 ^ (x.e - min x.e y.e).toNat - y.m * 2 ^ (y.e - min x.e y.e).toNat) (min x.e y.e)
 have s3 := aBp y.neg (y.m * 2 ^ (y.e - min x.e y.e).toNat - x.m * 2 ^ (x.e - min x.e y.e).toNat) (min x.e y.e)
 generalize x.m * 2 ^ (x.e - min x.e y.e).toNat = X at *
 generalize y.m * 2 ^ (y.e - min x.e y.e).toNat = Y at *
 repeat' split
 all_goals omega
theorem aAI (a b : D) (h : bl a.m + bl b.m <= 5000000 /\ ae a <= 700000000000000 /\ ae b <= 700000000000000) : AC Tryz.prog TabW 26 [dyV a, dyV b] (.lit (.int .i64 (cmpD a b))) := by
 have ta := aGf a (by omega)
 have tb := aGf b (by omega)
 have sa := aEs a (by omega)
 have sb := aEs b (by omega)
 have ua := aIe a
 have uc := aKk a b
 have hm : topD a = topD b -> aAK a ≠ 0 -> aAK b ≠ 0 -> AC Tryz.prog TabW 24 [dyV a, dyV b] (dyV (addD a (negD b))) := fun ht h1 h2 => by
   have n1 : a.m ≠ 0 := fun e => h1 (by unfold aAK; rw [if_pos e])
   have n2 : b.m ≠ 0 := fun e => h2 (by unfold aAK; rw [if_pos e])
   have h3 := aIc ht n1 n2
   rw [<- aL7 b] at h3
   exact aR0 a b (by omega) (by omega)
 have hz : topD a = topD b -> aAK a ≠ 0 -> aAK b ≠ 0 -> bl (addD a (negD b)).m <= 50000000 /\ ae (addD a (negD b)) <= 1000000000000000 := fun ht h1 h2 => by
   have n1 : a.m ≠ 0 := fun e => h1 (by unfold aAK; rw [if_pos e])
   have n2 : b.m ≠ 0 := fun e => h2 (by unfold aAK; rw [if_pos e])
   have h3 := aIc ht n1 n2
   rw [<- aL7 b] at h3
   exact aUe (k := 2 * (bl a.m + bl b.m)) (by have := aEl b; omega) (by have := aEl b; omega) (by omega)
 rw [<- aUC]
 generalize addD a (negD b) = df at *
 generalize aAK a = s at *
 generalize aAK b = t at *
 have ti := ta.2
 have tj := tb.2
 generalize topD a = i at *
 generalize topD b = j at *
 refine aAd Tryz.func26 rfl (by kernel_rfl) aAc Tryz.mixed rfl rfl (by kernel_rfl) ?_
 simp only [aAl, Tryz.ntmps26, dyV, ivV, fxV]
 repeat' first
  | refine aAa fun K g => ?_
  | refine goK (by assumption) ?_
  | refine aAv ?_
  | ((first | refine aAk ?_ | refine aAe ?_) <;> try simp only [aAm, aAg, reduceIte, Nat.reduceEqDiff])
  | ((first
  | refine aAU rfl fun os => ?_
  | refine aCR rfl (by kernel_rfl) fun os => ?_
  | refine cxd (sa) ?_
  | refine cxd (sb) ?_
  | refine cxd (ta.1) ?_
  | refine cxd (tb.1) ?_
  | refine cxo (hm (by omega) (by omega) (by omega)) ?_
  | refine cxo (aEs _ (hz (by omega) (by omega) (by omega))) ?_
  | simp only [endX, resX, resV, Tryz.results26]) <;> try (simp (disch := omega) only [xq, simprocAttr, dyV, ivV, fxV, Int.zero_sub]))
  | (refine aAf (by first | rfl | assumption) (fun c => ?_) (fun c => ?_) <;> first | exact absurd c (by decide) | ((try rw [c]); try simp only [xn] at c))
  | (repeat (first | rw [if_pos (by first | assumption | omega)] | rw [if_neg (by first | assumption | omega)])
     first | done | rfl
     done)
end
section
set_option maxRecDepth 10000
set_option maxHeartbeats 4000000
open Go.RowKit
def aKH (a b : Iv) : Bool := aJI a.lo b.lo && aJI a.hi b.hi
theorem aIf (a b : Iv) : aKH a b = true <-> a = b := by
 unfold aKH
 rw [Bool.and_eq_true, aOc, aOc]
 cases a; cases b
 simp
def hasI (v : Iv) (d : D) : Bool := aBb v && aAT d && decide (cmpD v.lo d <= 0) && decide (cmpD d v.hi <= 0)
theorem aGd (v : Iv) (h : ib v <= 2000000 /\ ie v <= 600000000000000) : AC Tryz.prog TabW 68 [ivV v] (.lit (.bool (aBb v))) := by
 have hv := aBe v
 have f1 := aGh v.lo (by omega)
 have f2 := aGh v.hi (by omega)
 have f3 := aAI v.lo v.hi (by omega)
 have hr : aBb v = (aAT v.lo && aAT v.hi && decide (cmpD v.lo v.hi <= 0)) := rfl
 rw [hr]
 generalize aAT v.lo = x1 at *
 generalize aAT v.hi = x2 at *
 generalize cmpD v.lo v.hi = x3 at *
 refine aAd Tryz.func68 rfl (by kernel_rfl) aAc Tryz.mixed rfl rfl (by kernel_rfl) ?_
 simp only [aAl, Tryz.ntmps68, dyV, ivV, fxV]
 repeat' first
  | refine aAa fun K g => ?_
  | refine goK (by assumption) ?_
  | (refine aAe ?_; try simp only [aAm, aAg, reduceIte, Nat.reduceEqDiff])
  | ((first
  | refine aAU rfl fun os => ?_
  | refine aB7 ?_
  | refine cxo (f1) ?_
  | refine cxo (f2) ?_
  | refine cxo (f3) ?_
  | simp only [endX, resX, resV, Tryz.results68]) <;> try (simp (disch := omega) only [xq, simprocAttr, dyV, ivV, fxV]))
  | (refine gx (fun c => ?_) (fun c => ?_) <;> first | exact absurd c (by decide) | ((try rw [c]); (try simp only [xn] at c); try (simp (disch := omega) only [xq, simprocAttr, dyV, ivV, fxV])))
  | (simp [*]
     done)
theorem aHc (a b : Iv) (h : ib a <= 50000000 /\ ib b <= 50000000) : AC Tryz.prog TabW 20 [ivV a, ivV b] (.lit (.bool (aKH a b))) := by
 have ha := aBe a
 have hb := aBe b
 have c1 := aMB a.lo b.lo (by omega)
 have c2 := aMB a.hi b.hi (by omega)
 have hr : aKH a b = (aJI a.lo b.lo && aJI a.hi b.hi) := rfl
 rw [hr]
 generalize aJI a.lo b.lo = x1 at *
 generalize aJI a.hi b.hi = x2 at *
 refine aAd Tryz.func20 rfl (by kernel_rfl) aAc Tryz.mixed rfl rfl (by kernel_rfl) ?_
 simp only [aAl, Tryz.ntmps20, dyV, ivV, fxV]
 refine aAa fun K1 g1 => ?_
 refine aAb fun os => ?_
 try simp (disch := omega) only [xq, simprocAttr, dyV, ivV, fxV]
 refine g1 _ ?_
 refine aAa fun K2 g2 => ?_
 refine aAx ?_
 try simp (disch := omega) only [xq, simprocAttr, dyV, ivV, fxV]
 refine cxo (c1) ?_
 try simp (disch := omega) only [xq, simprocAttr, dyV, ivV, fxV]
 refine gx (fun c1 => ?_) (fun c1 => ?_)
 ·rw [c1]
  try simp only [xn] at c1
  try simp (disch := omega) only [xq, simprocAttr, dyV, ivV, fxV]
  refine cxo (c2) ?_
  try simp (disch := omega) only [xq, simprocAttr, dyV, ivV, fxV]
  refine g2 _ ?_
  refine aAe ?_
  simp only [endX, resX, resV, Tryz.results20]
  try simp (disch := omega) only [xq, simprocAttr, dyV, ivV, fxV]
  simp [*]
 ·rw [c1]
  try simp only [xn] at c1
  try simp (disch := omega) only [xq, simprocAttr, dyV, ivV, fxV]
  refine g2 _ ?_
  refine aAe ?_
  simp only [endX, resX, resV, Tryz.results20]
  try simp (disch := omega) only [xq, simprocAttr, dyV, ivV, fxV]
  simp [*]
theorem aGe (v : Iv) (d : D) (h : ib v <= 2000000 /\ ie v <= 600000000000000 /\ bl d.m <= 2000000 /\ ae d <= 600000000000000) : AC Tryz.prog TabW 28 [ivV v, dyV d] (.lit (.bool (hasI v d))) := by
 have hv := aBe v
 have c1 := aGd v (by omega)
 have c2 := aGh d (by omega)
 have c3 := aAI v.lo d (by omega)
 have c4 := aAI d v.hi (by omega)
 have hr : hasI v d = (aBb v && aAT d && decide (cmpD v.lo d <= 0) && decide (cmpD d v.hi <= 0)) := rfl
 rw [hr]
 generalize aBb v = x1 at *
 generalize aAT d = x2 at *
 generalize cmpD v.lo d = x3 at *
 generalize cmpD d v.hi = x4 at *
 refine aAd Tryz.func28 rfl (by kernel_rfl) aAc Tryz.mixed rfl rfl (by kernel_rfl) ?_
 simp only [aAl, Tryz.ntmps28, dyV, ivV, fxV]
 repeat' first
  | refine aAa fun K g => ?_
  | refine goK (by assumption) ?_
  | (refine aAe ?_; try simp only [aAm, aAg, reduceIte, Nat.reduceEqDiff])
  | ((first
  | refine aAU rfl fun os => ?_
  | refine aB7 ?_
  | refine cxo (c1) ?_
  | refine cxo (c2) ?_
  | refine cxo (c3) ?_
  | refine cxo (c4) ?_
  | simp only [endX, resX, resV, Tryz.results28]) <;> try (simp (disch := omega) only [xq, simprocAttr, dyV, ivV, fxV]))
  | (refine gx (fun c => ?_) (fun c => ?_) <;> first | exact absurd c (by decide) | ((try rw [c]); (try simp only [xn] at c); try (simp (disch := omega) only [xq, simprocAttr, dyV, ivV, fxV])))
  | (simp [*]
     done)
theorem aJn (v : Iv) (p : Int) (h : ib v <= 2000000 /\ ie v <= 600000000000000) (hf : aBb v = true -> 2 * bl v.hi.m + 3 * bl v.lo.m + ae v.hi + ae v.lo <= 800000) (hp : p <= 1000000000000 /\ -1000000000000 <= p) : AC Tryz.prog TabW 61 [ivV v, .lit (.int .i64 p)] (.lit (.bool (aDs v p))) := by
 have hv := aBe v
 have c1 := aGd v (by omega)
 have hr : aDs v p = (aBb v && decide (0 <= p) &&
   (if aAK v.lo != aAK v.hi || aAK v.lo == 0 then aAK v.lo == aAK v.hi else
  (addD v.hi (negD v.lo)).m == 0 || (!decide (196608 < p) && decide (cmpD (aAs (addD v.hi (negD v.lo)) p) (if aAK v.lo < 0 then negD v.hi else v.lo) <= 0)))) := rfl
 have hif : cmpD (aAs (addD v.hi (negD v.lo)) p) (if aAK v.lo < 0 then negD v.hi else v.lo) = if aAK v.lo < 0 then cmpD (aAs (addD v.hi (negD v.lo)) p) (negD v.hi) else cmpD (aAs (addD v.hi (negD v.lo)) p) v.lo := by split <;> rfl
 rw [hr, hif]
 clear hr hif
 have s1 := aEs v.lo (by omega)
 have s2 := aEs v.hi (by omega)
 have n1 := aCF v.hi (by omega)
 have l1 := fun hs => aFO v.hi v.lo (Nat.le_trans (hf hs) (by decide))
 have z1 := fun hs => aFN (addD v.hi (negD v.lo)) (by have := l1 hs; have := hf hs; omega)
 have t1 := fun hs (hp1 : 0 <= p) (hp2 : p <= 196608) => aHF (addD v.hi (negD v.lo)) p (by have := l1 hs; have := hf hs; omega)
 have o1 := fun hs (hp1 : 0 <= p) (hp2 : p <= 196608) => aAI (aAs (addD v.hi (negD v.lo)) p) (negD v.hi) (by have := l1 hs; have := t1 hs hp1 hp2; have := hf hs; omega)
 have o2 := fun hs (hp1 : 0 <= p) (hp2 : p <= 196608) => aAI (aAs (addD v.hi (negD v.lo)) p) v.lo (by have := l1 hs; have := t1 hs hp1 hp2; have := hf hs; omega)
 generalize cmpD (aAs (addD v.hi (negD v.lo)) p) v.lo = k2 at *
 generalize cmpD (aAs (addD v.hi (negD v.lo)) p) (negD v.hi) = k1 at *
 generalize aAs (addD v.hi (negD v.lo)) p = sh at *
 generalize addD v.hi (negD v.lo) = ad at *
 generalize negD v.hi = nh at *
 generalize aBb v = rt at *
 generalize aAK v.lo = s at *
 generalize aAK v.hi = t at *
 refine aAd Tryz.func61 rfl (by kernel_rfl) aAc Tryz.mixed rfl rfl (by kernel_rfl) ?_
 simp only [aAl, Tryz.ntmps61, dyV, ivV, fxV]
 refine aAa fun K1 g1 => ?_
 refine aAb fun os => ?_
 try simp (disch := omega) only [xq, simprocAttr, dyV, ivV, fxV]
 refine g1 _ ?_
 refine aAa fun K2 g2 => ?_
 refine aAa fun K3 g3 => ?_
 refine aAx ?_
 try simp (disch := omega) only [xq, simprocAttr, dyV, ivV, fxV]
 refine cxo (c1) ?_
 try simp (disch := omega) only [xq, simprocAttr, dyV, ivV, fxV]
 refine gx (fun c1 => ?_) (fun c1 => ?_)
 ·rw [c1]
  try simp only [xn] at c1
  try simp (disch := omega) only [xq, simprocAttr, dyV, ivV, fxV]
  refine g3 _ ?_
  refine aAf (by first | rfl | assumption) (fun c2 => ?_) (fun c2 => ?_)
  ·try simp only [xn] at c2
   refine aAa fun K4 g4 => ?_
   refine aAb fun os => ?_
   try simp (disch := omega) only [xq, simprocAttr, dyV, ivV, fxV]
   refine g4 _ ?_
   refine aAe ?_
   simp only [aAm, aAg, reduceIte, Nat.reduceEqDiff]
   simp only [endX, resX, resV, Tryz.results61]
   try simp (disch := omega) only [xq, simprocAttr, dyV, ivV, fxV]
   clear hf hv h n1 l1 z1 t1 o1 o2 s1 s2
   first | (simp_all; done) | (refine congrArg some (congrArg AV.lit (congrArg Value.bool ?_)); rw [Bool.eq_iff_iff]; simp_all <;> first | omega | (intro h; omega))
  ·try simp only [xn] at c2
   refine aAk ?_
   simp only [aAm, aAg, reduceIte, Nat.reduceEqDiff]
   refine g2 _ ?_
   refine aAa fun K5 g5 => ?_
   refine aAB (by kernel_rfl) fun os => ?_
   try simp (disch := omega) only [xq, simprocAttr, dyV, ivV, fxV]
   refine cxd (s1) ?_
   try simp (disch := omega) only [xq, simprocAttr, dyV, ivV, fxV]
   refine cxd (s2) ?_
   try simp (disch := omega) only [xq, simprocAttr, dyV, ivV, fxV]
   refine g5 _ ?_
   refine aAa fun K6 g6 => ?_
   refine aAa fun K7 g7 => ?_
   refine aAx ?_
   try simp (disch := omega) only [xq, simprocAttr, dyV, ivV, fxV]
   refine gx (fun c3 => ?_) (fun c3 => ?_)
   ·rw [c3]
    try simp only [xn] at c3
    try simp (disch := omega) only [xq, simprocAttr, dyV, ivV, fxV]
    refine g7 _ ?_
    refine aAf (by first | rfl | assumption) (fun c4 => ?_) (fun c4 => ?_)
    ·try simp only [xn] at c4
     refine aAa fun K8 g8 => ?_
     refine aAb fun os => ?_
     try simp (disch := omega) only [xq, simprocAttr, dyV, ivV, fxV]
     refine g8 _ ?_
     refine aAe ?_
     simp only [aAm, aAg, reduceIte, Nat.reduceEqDiff]
     simp only [endX, resX, resV, Tryz.results61]
     try simp (disch := omega) only [xq, simprocAttr, dyV, ivV, fxV]
     clear hf hv h n1 l1 z1 t1 o1 o2 s1 s2
     first | (simp_all; done) | (refine congrArg some (congrArg AV.lit (congrArg Value.bool ?_)); rw [Bool.eq_iff_iff]; simp_all <;> first | omega | (intro h; omega))
    ·try simp only [xn] at c4
     refine aAk ?_
     simp only [aAm, aAg, reduceIte, Nat.reduceEqDiff]
     refine g6 _ ?_
     refine aAa fun K9 g9 => ?_
     refine aAb fun os => ?_
     try simp (disch := omega) only [xq, simprocAttr, dyV, ivV, fxV]
     refine g9 _ ?_
     refine aAa fun K10 g10 => ?_
     refine aAa fun K11 g11 => ?_
     refine aAb fun os => ?_
     try simp (disch := omega) only [xq, simprocAttr, dyV, ivV, fxV]
     refine g11 _ ?_
     refine aAf (by first | rfl | assumption) (fun c5 => ?_) (fun c5 => ?_)
     ·try simp only [xn] at c5
      refine aAb fun os => ?_
      try simp (disch := omega) only [xq, simprocAttr, dyV, ivV, fxV]
      refine cxo (n1.1) ?_
      try simp (disch := omega) only [xq, simprocAttr, dyV, ivV, fxV]
      refine g10 _ ?_
      refine aAa fun K12 g12 => ?_
      refine aAb fun os => ?_
      try simp (disch := omega) only [xq, simprocAttr, dyV, ivV, fxV]
      refine cxo ((l1 (by assumption)).1) ?_
      try simp (disch := omega) only [xq, simprocAttr, dyV, ivV, fxV]
      refine g12 _ ?_
      refine aAa fun K13 g13 => ?_
      refine aAa fun K14 g14 => ?_
      refine aAb fun os => ?_
      try simp (disch := omega) only [xq, simprocAttr, dyV, ivV, fxV]
      refine cxo (z1 (by assumption)) ?_
      try simp (disch := omega) only [xq, simprocAttr, dyV, ivV, fxV]
      refine g14 _ ?_
      refine aAf (by first | rfl | assumption) (fun c6 => ?_) (fun c6 => ?_)
      ·try simp only [xn] at c6
       refine aAa fun K15 g15 => ?_
       refine aAb fun os => ?_
       try simp (disch := omega) only [xq, simprocAttr, dyV, ivV, fxV]
       refine g15 _ ?_
       refine aAe ?_
       simp only [aAm, aAg, reduceIte, Nat.reduceEqDiff]
       simp only [endX, resX, resV, Tryz.results61]
       try simp (disch := omega) only [xq, simprocAttr, dyV, ivV, fxV]
       clear hf hv h n1 l1 z1 t1 o1 o2 s1 s2
       first | (simp_all; done) | (refine congrArg some (congrArg AV.lit (congrArg Value.bool ?_)); rw [Bool.eq_iff_iff]; simp_all <;> first | omega | (intro h; omega))
      ·try simp only [xn] at c6
       refine aAk ?_
       simp only [aAm, aAg, reduceIte, Nat.reduceEqDiff]
       refine g13 _ ?_
       refine aAa fun K16 g16 => ?_
       refine aAa fun K17 g17 => ?_
       refine aAb fun os => ?_
       try simp (disch := omega) only [xq, simprocAttr, dyV, ivV, fxV]
       refine g17 _ ?_
       refine aAf (by first | rfl | assumption) (fun c7 => ?_) (fun c7 => ?_)
       ·try simp only [xn] at c7
        refine aAa fun K18 g18 => ?_
        refine aAb fun os => ?_
        try simp (disch := omega) only [xq, simprocAttr, dyV, ivV, fxV]
        refine g18 _ ?_
        refine aAe ?_
        simp only [aAm, aAg, reduceIte, Nat.reduceEqDiff]
        simp only [endX, resX, resV, Tryz.results61]
        try simp (disch := omega) only [xq, simprocAttr, dyV, ivV, fxV]
        clear hf hv h n1 l1 z1 t1 o1 o2 s1 s2
        first | (simp_all; done) | (refine congrArg some (congrArg AV.lit (congrArg Value.bool ?_)); rw [Bool.eq_iff_iff]; simp_all <;> first | omega | (intro h; omega))
       ·try simp only [xn] at c7
        refine aAk ?_
        simp only [aAm, aAg, reduceIte, Nat.reduceEqDiff]
        refine g16 _ ?_
        refine aAa fun K19 g19 => ?_
        refine aAB (by kernel_rfl) fun os => ?_
        try simp (disch := omega) only [xq, simprocAttr, dyV, ivV, fxV]
        refine cxd ((t1 (by assumption) (by omega) (by omega)).1) ?_
        try simp (disch := omega) only [xq, simprocAttr, dyV, ivV, fxV]
        refine cxd (o1 (by assumption) (by omega) (by omega)) ?_
        try simp (disch := omega) only [xq, simprocAttr, dyV, ivV, fxV]
        refine g19 _ ?_
        refine aAe ?_
        simp only [endX, resX, resV, Tryz.results61]
        try simp (disch := omega) only [xq, simprocAttr, dyV, ivV, fxV]
        clear hf hv h n1 l1 z1 t1 o1 o2 s1 s2
        first | (simp_all; done) | (refine congrArg some (congrArg AV.lit (congrArg Value.bool ?_)); rw [Bool.eq_iff_iff]; simp_all <;> first | omega | (intro h; omega))
     ·try simp only [xn] at c5
      refine aAk ?_
      simp only [aAm, aAg, reduceIte, Nat.reduceEqDiff]
      refine g10 _ ?_
      refine aAa fun K20 g20 => ?_
      refine aAb fun os => ?_
      try simp (disch := omega) only [xq, simprocAttr, dyV, ivV, fxV]
      refine cxo ((l1 (by assumption)).1) ?_
      try simp (disch := omega) only [xq, simprocAttr, dyV, ivV, fxV]
      refine g20 _ ?_
      refine aAa fun K21 g21 => ?_
      refine aAa fun K22 g22 => ?_
      refine aAb fun os => ?_
      try simp (disch := omega) only [xq, simprocAttr, dyV, ivV, fxV]
      refine cxo (z1 (by assumption)) ?_
      try simp (disch := omega) only [xq, simprocAttr, dyV, ivV, fxV]
      refine g22 _ ?_
      refine aAf (by first | rfl | assumption) (fun c8 => ?_) (fun c8 => ?_)
      ·try simp only [xn] at c8
       refine aAa fun K23 g23 => ?_
       refine aAb fun os => ?_
       try simp (disch := omega) only [xq, simprocAttr, dyV, ivV, fxV]
       refine g23 _ ?_
       refine aAe ?_
       simp only [aAm, aAg, reduceIte, Nat.reduceEqDiff]
       simp only [endX, resX, resV, Tryz.results61]
       try simp (disch := omega) only [xq, simprocAttr, dyV, ivV, fxV]
       clear hf hv h n1 l1 z1 t1 o1 o2 s1 s2
       first | (simp_all; done) | (refine congrArg some (congrArg AV.lit (congrArg Value.bool ?_)); rw [Bool.eq_iff_iff]; simp_all <;> first | omega | (intro h; omega))
      ·try simp only [xn] at c8
       refine aAk ?_
       simp only [aAm, aAg, reduceIte, Nat.reduceEqDiff]
       refine g21 _ ?_
       refine aAa fun K24 g24 => ?_
       refine aAa fun K25 g25 => ?_
       refine aAb fun os => ?_
       try simp (disch := omega) only [xq, simprocAttr, dyV, ivV, fxV]
       refine g25 _ ?_
       refine aAf (by first | rfl | assumption) (fun c9 => ?_) (fun c9 => ?_)
       ·try simp only [xn] at c9
        refine aAa fun K26 g26 => ?_
        refine aAb fun os => ?_
        try simp (disch := omega) only [xq, simprocAttr, dyV, ivV, fxV]
        refine g26 _ ?_
        refine aAe ?_
        simp only [aAm, aAg, reduceIte, Nat.reduceEqDiff]
        simp only [endX, resX, resV, Tryz.results61]
        try simp (disch := omega) only [xq, simprocAttr, dyV, ivV, fxV]
        clear hf hv h n1 l1 z1 t1 o1 o2 s1 s2
        first | (simp_all; done) | (refine congrArg some (congrArg AV.lit (congrArg Value.bool ?_)); rw [Bool.eq_iff_iff]; simp_all <;> first | omega | (intro h; omega))
       ·try simp only [xn] at c9
        refine aAk ?_
        simp only [aAm, aAg, reduceIte, Nat.reduceEqDiff]
        refine g24 _ ?_
        refine aAa fun K27 g27 => ?_
        refine aAB (by kernel_rfl) fun os => ?_
        try simp (disch := omega) only [xq, simprocAttr, dyV, ivV, fxV]
        refine cxd ((t1 (by assumption) (by omega) (by omega)).1) ?_
        try simp (disch := omega) only [xq, simprocAttr, dyV, ivV, fxV]
        refine cxd (o2 (by assumption) (by omega) (by omega)) ?_
        try simp (disch := omega) only [xq, simprocAttr, dyV, ivV, fxV]
        refine g27 _ ?_
        refine aAe ?_
        simp only [endX, resX, resV, Tryz.results61]
        try simp (disch := omega) only [xq, simprocAttr, dyV, ivV, fxV]
        clear hf hv h n1 l1 z1 t1 o1 o2 s1 s2
        first | (simp_all; done) | (refine congrArg some (congrArg AV.lit (congrArg Value.bool ?_)); rw [Bool.eq_iff_iff]; simp_all <;> first | omega | (intro h; omega))
   ·rw [c3]
    try simp only [xn] at c3
    try simp (disch := omega) only [xq, simprocAttr, dyV, ivV, fxV]
    refine g7 _ ?_
    refine aAf (by first | rfl | assumption) (fun c10 => ?_) (fun c10 => ?_)
    ·try simp only [xn] at c10
     refine aAa fun K28 g28 => ?_
     refine aAb fun os => ?_
     try simp (disch := omega) only [xq, simprocAttr, dyV, ivV, fxV]
     refine g28 _ ?_
     refine aAe ?_
     simp only [aAm, aAg, reduceIte, Nat.reduceEqDiff]
     simp only [endX, resX, resV, Tryz.results61]
     try simp (disch := omega) only [xq, simprocAttr, dyV, ivV, fxV]
     clear hf hv h n1 l1 z1 t1 o1 o2 s1 s2
     first | (simp_all; done) | (refine congrArg some (congrArg AV.lit (congrArg Value.bool ?_)); rw [Bool.eq_iff_iff]; simp_all <;> first | omega | (intro h; omega))
    ·exact absurd c10 (by decide)
 ·rw [c1]
  try simp only [xn] at c1
  try simp (disch := omega) only [xq, simprocAttr, dyV, ivV, fxV]
  refine g3 _ ?_
  refine aAf (by first | rfl | assumption) (fun c11 => ?_) (fun c11 => ?_)
  ·try simp only [xn] at c11
   refine aAa fun K29 g29 => ?_
   refine aAb fun os => ?_
   try simp (disch := omega) only [xq, simprocAttr, dyV, ivV, fxV]
   refine g29 _ ?_
   refine aAe ?_
   simp only [aAm, aAg, reduceIte, Nat.reduceEqDiff]
   simp only [endX, resX, resV, Tryz.results61]
   try simp (disch := omega) only [xq, simprocAttr, dyV, ivV, fxV]
   clear hf hv h n1 l1 z1 t1 o1 o2 s1 s2
   first | (simp_all; done) | (refine congrArg some (congrArg AV.lit (congrArg Value.bool ?_)); rw [Bool.eq_iff_iff]; simp_all <;> first | omega | (intro h; omega))
  ·exact absurd c11 (by decide)
end
section
def LogI (n : Nat) (l : Iv) : Prop := l.lo.v <= l.hi.v /\ (if n = 0 then l.lo.v = 1 /\ l.hi.v = 1 else LnI l n)
def aDz (less : Bool) : Rat := if less then 1 else 0
def aDx (n : Nat) (less : Bool) (t : D) (p : Nat) (V : Iv) : Prop :=
 (∃ u l : Iv, LogI n l /\ (∀ c, l.has c -> u.has (t.v * c)) /\ expL u.lo.v (V.lo.v + aDz less) /\ expH u.hi.v (V.hi.v + aDz less)) /\
 V.lo.canon /\ V.hi.canon /\ aBb V = true /\ (less = false -> 0 < V.lo.v /\ V.hi.v <= V.lo.v * (1 + p2 (-(p : Int))))
theorem aRg : LogI 0 (aAn (intD 1)) := by
 obtain ⟨a, b⟩ := aCZ
 exact ⟨by rw [a, b]; exact Rat.le_refl, by rw [if_pos rfl]; exact ⟨a, b⟩⟩
theorem aJX {n : Nat} (hn : n = 0 \/ n = 2 \/ n = 10) (t : D) {w : Nat} (hw : 1 <= w) (hw2 : w <= 10000) : ∃ l : Iv, LogI n l /\ ∀ c, l.has c -> (aAt n t w).has (t.v * c) := by
 unfold aAt
 by_cases h : n = 0
 · subst h
   refine ⟨_, aRg, fun c hc => ?_⟩
   obtain ⟨a, b⟩ := aCZ
   have : c = 1 := by have h1 := hc.1; have h2 := hc.2; rw [a] at h1; rw [b] at h2; grind
   rw [if_pos rfl, this, Rat.mul_one]
   exact aGQ (by omega) (aCx t)
 · rw [if_neg h]
   have hn2 : n = 2 \/ n = 10 := by omega
   have hr : (0 : Rat) < (n : Rat) := by rcases hn2 with rfl | rfl <;> decide +kernel
   have l1 := aJ2 (w := w) hn2 (by omega)
   exact ⟨lnV n w, ⟨aFF hr l1.1 l1.2, by rw [if_neg h]; exact l1⟩, fun c hc => aFr (by omega) (aGQ (by omega) (aCx t)) hc⟩
theorem aWK : expL (7 / 10) 2 := aAV (aCv (t := 7 / 10) (by decide +kernel) 6) Rat.le_refl (by decide +kernel)
theorem aRy {p : Nat} (hp : p <= 4096) : expH (-7700) (p2 (-(p : Int) - 4)) := by
 have h := aG8 (by decide) aWK 11000
 rw [<- aL3] at h
 have h2 := aDS (aAz _) h
 have e : -(((11000 : Nat) : Rat) * (7 / 10)) = -7700 := by decide +kernel
 rw [e] at h2
 refine aBs h2 Rat.le_refl ?_
 have h3 := aAz 11000
 have h4 := aDA 11000
 have h5 := aA7 (show (-11000 : Int) <= -(p : Int) - 4 by omega)
 have h6 : 1 / p2 ((11000 : Nat) : Int) = p2 (-11000) := by
   have : p2 ((11000 : Nat) : Int) = p2 11000 := rfl
   rw [this]
   grind
 rw [h6]; exact h5
theorem aMv {n p : Nat} {t : D} (hn : n = 0 \/ n = 2 \/ n = 10) (hp8 : 8 <= p) (hp : p <= 4096) (hsm : t.m = 0 \/ p2 (-16898) <= t.av) (less : Bool) (hok : (aA1 n less t p).2 = 0) :
   aDx n less t p (aA1 n less t p).1 /\ (less = false -> -(aAo n : Rat) <= t.v) /\ t.v <= (aAo n : Rat) := by
 have hag := aGc (p := p) (t := t) hn hp8 hp hsm less
 obtain ⟨c1, c2, c3, c4, _, _⟩ := hag.2.2 hok
 have hbe := aGN n t
 have hre := aFw n t
 have hr0 : (0 : Rat) <= (aAo n : Rat) := Rat.natCast_nonneg
 suffices hmain : (∃ u l : Iv, LogI n l /\ (∀ c, l.has c -> u.has (t.v * c)) /\ expL u.lo.v ((aA1 n less t p).1.lo.v + aDz less) /\ expH u.hi.v ((aA1 n less t p).1.hi.v + aDz less)) /\
     (less = false -> 0 < (aA1 n less t p).1.lo.v /\ (aA1 n less t p).1.hi.v <= (aA1 n less t p).1.lo.v * (1 + p2 (-(p : Int)))) /\ (less = false -> -(aAo n : Rat) <= t.v) /\ t.v <= (aAo n : Rat) from
   ⟨⟨hmain.1, c1, c2, c3, hmain.2.1⟩, hmain.2.2⟩
 clear c1 c2 c3 c4 hag
 unfold aA1 inB at hok ⊢
 by_cases hb : t.v < -(aAo n : Rat)
 · have h1 : aAR n t = true := by rw [hbe]; exact decide_eq_true hb
   rw [h1] at hok ⊢
   cases less with
   | false =>
     exfalso
     simp only [Bool.and_false, Bool.false_eq_true, if_false, Bool.not_true, Bool.false_and, Bool.not_false, if_true] at hok
     cases hok
   | true =>
     simp only [Bool.and_true, if_true]
     refine ⟨?_, fun h => (by cases h), fun h => (by cases h), by grind⟩
     obtain ⟨v1, v0⟩ := aJt p 4
     have hl : ∃ l : Iv, LogI n l /\ 77 / 160 <= l.lo.v /\ (n = 0 -> 1 <= l.lo.v) /\ (n = 10 -> 1605 / 1000 <= l.lo.v) := by
       by_cases h : n = 0
       · subst h
         obtain ⟨a, b⟩ := aCZ
         exact ⟨_, aRg, by rw [a]; decide +kernel, fun _ => by rw [a]; exact Rat.le_refl, fun h => by cases h⟩
       · have hn2 : n = 2 \/ n = 10 := by omega
         have hr : (0 : Rat) < (n : Rat) := by rcases hn2 with rfl | rfl <;> decide +kernel
         have l1 := aJ2 (w := p + 64) hn2 (by omega)
         obtain ⟨f1, _⟩ := aI1 hn2 (w := p + 64) (by omega) (by omega)
         have e := aA7 (show -((p + 64 : Nat) : Int) - 4 <= -((10 : Nat) : Int) by omega)
         have k := (aCi 10 (k := 1024) rfl).2
         have k2 : ((1024 : Nat) : Rat) = 1024 := rfl
         rw [k2] at k
         have hA : lnA n = 1 / 2 \/ lnA n = 2 := by unfold lnA; split <;> first | exact .inl rfl | exact .inr rfl
         refine ⟨_, ⟨aFF hr l1.1 l1.2, by rw [if_neg h]; exact l1⟩, ?_, fun h2 => absurd h2 h, fun h2 => ?_⟩
         · rcases hA with hA | hA <;> rw [hA] at f1 <;> grind
         · have : lnA n = 2 := by subst h2; rfl
           rw [this] at f1; grind
     obtain ⟨l, l1, l2, l3, l4⟩ := hl
     refine ⟨⟨mulD t l.hi, intD (-7700)⟩, l, l1, fun c hc => ⟨?_, ?_⟩, ?_, ?_⟩
     · show (mulD t l.hi).v <= _
       rw [aGA]
       have := Rat.mul_le_mul_of_nonneg_left hc.2 (show 0 <= -t.v by grind)
       grind
     · show _ <= (intD (-7700)).v
       rw [aEw]
       have e : ((-7700 : Int) : Rat) = -7700 := rfl
       rw [e]
       have g1 := Rat.mul_le_mul_of_nonneg_left hc.1 (show 0 <= -t.v by grind)
       rcases hn with rfl | rfl | rfl
       · have r : ((aAo 0 : Nat) : Rat) = 11000 := rfl
         rw [r] at hb
         have := aAO (show (11000 : Rat) <= -t.v by grind) (l3 rfl) (by decide) (by grind)
         grind
       · have r : ((aAo 2 : Nat) : Rat) = 16000 := rfl
         rw [r] at hb
         have := aAO (show (16000 : Rat) <= -t.v by grind) l2 (by decide +kernel) (by grind)
         grind
       · have r : ((aAo 10 : Nat) : Rat) = 4800 := rfl
         rw [r] at hb
         have := aAO (show (4800 : Rat) <= -t.v by grind) (l4 rfl) (by decide +kernel) (by grind)
         grind
     · show expL (mulD t l.hi).v ((intD (-1)).v + 1)
       rw [v0]
       intro _ m Y hY
       have := aC1 hY
       have e : (-1 : Rat) + 1 = 0 := by decide +kernel
       rw [e]; grind
     · show expH (intD (-7700)).v ((addD (intD (-1)) ⟨false, 1, -(p : Int) - (4 : Nat)⟩).v + 1)
       rw [v1, aEw]
       have e : ((-7700 : Int) : Rat) = -7700 := rfl
       rw [e, show -1 + p2 (-(p : Int) - (4 : Nat)) + 1 = p2 (-(p : Int) - (4 : Nat)) by grind]
       exact aRy hp
 have h1 : aAR n t = false := by rw [hbe]; exact decide_eq_false hb
 rw [h1] at hok ⊢
 simp only [Bool.false_and, Bool.false_eq_true, if_false, Bool.not_false, Bool.true_and] at hok ⊢
 by_cases ha : (aAo n : Rat) < t.v
 · have h2 : decide (cmpD t (intD (aAo n : Int)) <= 0) = false := decide_eq_false (by rw [hre]; grind)
   rw [h2] at hok
   simp only [Bool.not_false, if_true] at hok
   cases hok
 have h2 : decide (cmpD t (intD (aAo n : Int)) <= 0) = true := decide_eq_true (by rw [hre]; grind)
 rw [h2] at hok ⊢
 simp only [Bool.not_true, Bool.false_eq_true, if_false] at hok ⊢
 by_cases hm : t.m = 0
 · have hv : t.v = 0 := aBL.2 hm
   have hm0 : (t.m == 0) = true := by rw [hm]; rfl
   rw [hm0]
   obtain ⟨l, l1, _⟩ := aJX hn t (w := 64) (by omega) (by omega)
   have hz : ∀ c, l.has c -> aAp.has (t.v * c) := fun c _ => by
     rw [hv, Rat.zero_mul]; exact ⟨by rw [aFp.1]; exact Rat.le_refl, by rw [aFp.2]; exact Rat.le_refl⟩
   cases less with
   | true =>
     simp only [Bool.and_true, if_true]
     refine ⟨⟨aAp, l, l1, hz, ?_, ?_⟩, fun h => (by cases h), fun h => (by cases h), by grind⟩
     · rw [aFp.1]; have e : (0 : Rat) + aDz true = 1 := by decide +kernel
       rw [e]; exact aDu
     · rw [aFp.2]; have e : (0 : Rat) + aDz true = 1 := by decide +kernel
       rw [e]; exact aC0
   | false =>
     simp only [Bool.and_false, Bool.false_eq_true, if_false, if_true]
     obtain ⟨o1, o2⟩ := aCZ
     have e : (1 : Rat) + aDz false = 1 := by decide +kernel
     refine ⟨⟨aAp, l, l1, hz, ?_, ?_⟩, fun _ => ⟨by rw [o1]; decide, ?_⟩, fun _ => by grind, by grind⟩
     · rw [aFp.1, o1, e]; exact aDu
     · rw [aFp.2, o2, e]; exact aC0
     · rw [o1, o2]; have := aAz (-(p : Int)); grind
 · have hm0 : (t.m == 0) = false := beq_eq_false_iff_ne.2 hm
   rw [hm0]
   simp only [Bool.false_and, Bool.false_eq_true, if_false]
   have hvn : t.v ≠ 0 := fun h => hm (aBL.1 h)
   obtain ⟨e1, e2, e3, e4, e5, e6⟩ := aIJ hn hp8 hp hm (by rw [aBh]; split <;> grind) (hsm.resolve_left hm)
   obtain ⟨l, l1, l2⟩ := aJX hn t (w := p + 64) (by omega) (by omega)
   cases less with
   | true =>
     obtain ⟨out, o1, o2, o3, o4, o5, o6, o7⟩ := aMt e1 (by omega) (by omega) e2 hvn e3 e4 e5
     rw [o1]
     exact ⟨⟨_, l, l1, l2, o5, o6⟩, fun h => (by cases h), fun h => (by cases h), by grind⟩
   | false =>
     obtain ⟨out, o1, o2, o3, o4, o5, o6, o7, o8⟩ := aLl e1 (by omega) (by omega) e2 e6
     rw [o1]
     have hp2 := aA7 (show 5 - ((p + 24 : Nat) : Int) <= -(p : Int) by omega)
     have := Rat.mul_le_mul_of_nonneg_left hp2 (Rat.le_of_lt o5)
     have ez : aDz false = 0 := rfl
     refine ⟨⟨_, l, l1, l2, by rw [ez, Rat.add_zero]; exact o6, by rw [ez, Rat.add_zero]; exact o7⟩, fun _ => ⟨o5, by grind⟩, fun _ => by grind, by grind⟩
end
section
theorem aIy {n p : Nat} {t : D} {less : Bool} {A : Iv} {k : Nat} (hn : n = 2 \/ n = 10) (ha : aDx n less t p A) :
   (t.v = (k : Rat) -> A.lo.v <= (n : Rat) ^ k - aDz less /\ (n : Rat) ^ k - aDz less <= A.hi.v) /\
   (t.v = -(k : Rat) -> A.lo.v <= 1 / (n : Rat) ^ k - aDz less /\ 1 / (n : Rat) ^ k - aDz less <= A.hi.v) := by
 obtain ⟨⟨u, l, l1, l2, l3, l4⟩, _⟩ := ha
 have hr : (0 : Rat) < (n : Rat) := by rcases hn with rfl | rfl <;> decide +kernel
 have h1 := l1.2; rw [if_neg (by omega)] at h1
 have hH := aG9 h1.1 k
 have hL := aG8 (Rat.le_of_lt hr) h1.2 k
 have hp := Rat.pow_pos (n := k) hr
 have glo := l2 l.lo.v ⟨Rat.le_refl, l1.1⟩
 have ghi := l2 l.hi.v ⟨l1.1, Rat.le_refl⟩
 constructor
 · intro ht
   rw [ht] at glo ghi
   have a1 := aAM l3 hH glo.1
   have a2 := aAM hL l4 ghi.2
   constructor <;> grind
 · intro ht
   rw [ht] at glo ghi
   have a1 := aAM l3 (aDS hp hL) (by have := ghi.1; grind)
   have a2 := aAM (aFh hH) l4 (by have := glo.2; grind)
   constructor <;> grind
end
section
def fE (x : Nat) : Nat := x / 4503599627370496 % 2048
def fF (x : Nat) : Nat := x % 4503599627370496
def fM (x : Nat) : Nat := if fE x = 0 then fF x else fF x + 4503599627370496
def fX (x : Nat) : Int := (if fE x = 0 then 1 else ((fE x : Nat) : Int)) - 1075
def fN (x : Nat) : Bool := x / 9223372036854775808 == 1
def fD (x : Nat) : D := aAL (fN x) (fM x) (fX x)
def fA (x : Nat) : Rat := (fM x : Rat) * p2 (fX x)
theorem fD_v (x : Nat) : (fD x).v = if fN x then -fA x else fA x := by
 unfold fD fA
 rw [aCy]
 unfold sg
 split <;> grind
theorem aTR (x : Nat) : 0 <= fA x := Rat.mul_nonneg Rat.natCast_nonneg (Rat.le_of_lt (aAz _))
theorem aXC (x : Nat) : (fD x).av = fA x := by
 have h := fD_v x
 have h0 := aTR x
 rw [aBh]
 split <;> split at h <;> grind
theorem aXB (x : Nat) : fE x < 2048 := Nat.mod_lt _ (by decide)
theorem aWN : ((4503599627370496 : Nat) : Rat) = p2 52 := (aCi 52 (k := 4503599627370496) rfl).1.symm
theorem aWZ (x : Nat) : -1074 <= fX x /\ fX x <= 972 := by
 have := aXB x
 unfold fX; split <;> omega
theorem aUJ {x : Nat} (h : fE x ≠ 0) : p2 ((fE x : Int) - 1023) <= fA x := by
 unfold fA fM fX
 rw [if_neg h, if_neg h, Rat.natCast_add, aWN]
 have e : p2 ((fE x : Int) - 1023) = p2 52 * p2 ((fE x : Int) - 1075) := by rw [<- aA9]; congr 1; omega
 rw [e]
 refine Rat.mul_le_mul_of_nonneg_right ?_ (Rat.le_of_lt (aAz _))
 have : (0 : Rat) <= (fF x : Rat) := Rat.natCast_nonneg
 grind
theorem aUI {x : Nat} (h : 0 < x % 9223372036854775808) : p2 (-1074) <= fA x := by
 have hm : 1 <= fM x := by unfold fM fE fF; split <;> omega
 have h1 : (1 : Rat) <= (fM x : Rat) := Rat.natCast_le_natCast.2 hm
 have h2 := aA7 (aWZ x).1
 have h3 := aAz (fX x)
 have h4 := Rat.mul_le_mul_of_nonneg_right h1 (Rat.le_of_lt h3)
 unfold fA
 grind
theorem aLg (x : Nat) : (fD x).m = 0 \/ p2 (-16898) <= (fD x).av := by
 by_cases h : 0 < x % 9223372036854775808
 · right
   rw [aXC]
   exact Rat.le_trans (aA7 (by omega)) (aUI h)
 · left
   have h0 : x % 9223372036854775808 = 0 := by omega
   have : fA x = 0 := by
     have : fM x = 0 := by unfold fM fE fF; split <;> omega
     unfold fA; rw [this]; exact Rat.zero_mul _
   have hv : (fD x).v = 0 := by rw [fD_v, this]; split <;> decide +kernel
   exact aBL.1 hv
end
end Go.Proofs.YtgdkokgeldnliaaGreatDoor
