/- Contracts of functions and plain lemmas that the laws of this seat lean on. -/
import Derived.Test.YtgdkokgeldnliaaGreatDoorKEfaa
import Derived.Test.YtgdkokgeldnliaaGreatDoorKEfab
import Derived.Test.YtgdkokgeldnliaaGreatDoorKEfac
import Derived.Test.YtgdkokgeldnliaaGreatDoorKEfad
import Derived.Test.YtgdkokgeldnliaaGreatDoorKEfae
import Derived.Test.YtgdkokgeldnliaaGreatDoorKEfaf
import Derived.Test.YtgdkokgeldnliaaGreatDoorKEfag
import Derived.Test.YtgdkokgeldnliaaGreatDoorKEfah
import Derived.Test.YtgdkokgeldnliaaGreatDoorKEfai
import Derived.Test.YtgdkokgeldnliaaGreatDoorKEfaj
import Derived.Test.YtgdkokgeldnliaaGreatDoorKEfal
import Derived.Test.YtgdkokgeldnliaaGreatDoorKEfan
import Derived.Test.YtgdkokgeldnliaaGreatDoorRows
import Derived.WalkKit
import Derived.WalkSpells
import Derived.WalkLawsBesides
import Derived.Lib.Hide
import Derived.Deep.QuietTactic
import Derived.BigQuiet
import Derived.Test.YtgdkokgeldnliaaGreatDoorShelf
import Derived.Lib.BitFns
import Derived.Lib.ItoaNum
import Derived.Lib.TrailingZeros
import Derived.Deep.DeepCutAuto
import Derived.Deep.CutBlock
import Derived.Laws.AppendOwn
import Derived.Laws.AppendOwnNone
import Derived.Laws.CopyOwn
import Derived.RegionTactic
import Derived.StillTail
import Derived.Below
import Derived.Deep.MidRow
import Derived.Laws.Tables
import Derived.Laws.CopyRow
import Derived.IntWalk
namespace Go.Proofs.YtgdkokgeldnliaaGreatDoor
set_option linter.unusedSimpArgs false
set_option linter.unusedVariables false
set_option linter.unusedSectionVars false
set_option linter.constructorNameAsVariable false
set_option linter.unnecessarySimpa false
section
theorem aVu {t : D} : (oneD t).m = 0 <-> t.m = 0 := by rw [<- aBL, <- aBL, aC6]
theorem aQW (t : D) : (oneD t).av = t.av := by rw [aBh, aBh, aC6]
end
section
set_option maxRecDepth 100000
set_option maxHeartbeats 1000000
open Go.RowKit
def aUo (w : World) (q r : Nat) (e : Ending) (w' : World) : Prop := ∃ v1 v2, e = .returned (.tuple #[v1, v2]) /\ Num w.heap.size w' v1 q /\ Num w.heap.size w' v2 r /\ Below w.heap.size w w'
theorem aQZ {lo n : Nat} {w w' : World} {v : Value} {row : Option Nat} (h : Num lo w v n) (hg : w.grownBy w' row) (hr : ∀ k, row = some k -> k < lo) : Num lo w' v n := by
 obtain ⟨x, cap, h1, h2, h3, h4, h5⟩ := h
 refine ⟨x, cap, h1, h2, h3, h4, fun i hi => ?_⟩
 obtain ⟨b, off, e, hl, hc⟩ := h5 i hi
 exact ⟨b, off, e, hl, hg.cell hc (fun e => by have := hr b e.symm; omega)⟩
theorem aQX {lo n g o : Nat} {w : World} {v x : Value} (h : Num lo w v n) (hg : g < lo) : Num lo (w.setCell ⟨g, o, none⟩ x) v n :=
 aQZ h (aFm w g o none x) (fun k e => by injection e with e; omega)
theorem aPD {A B n : Nat} (hB : B ≠ 0) (hn : bl A = bl B + n) : A < B * 2 ^ (n + 1) := by
 have h1 := aDO A
 have h2 := aHJ hB
 have h3 := aD6 hB
 rw [hn] at h1
 have h4 : 2 ^ (bl B + n) = 2 ^ (bl B - 1) * 2 ^ (n + 1) := by rw [<- Nat.pow_add]; congr 1; omega
 have h5 : 2 ^ (bl B - 1) * 2 ^ (n + 1) <= B * 2 ^ (n + 1) := Nat.mul_le_mul_right _ h2
 omega
theorem aOB {v B e K : Nat} (hv : v <= B * 2 ^ e) (h : bl B + e <= 64 * K) : (limbsOf v).length <= K := by
 refine aA4 ?_
 rw [aDo]
 refine Nat.lt_of_le_of_lt hv (Nat.lt_of_lt_of_le (Nat.mul_lt_mul_of_pos_right (aDO B) (Nat.two_pow_pos e)) ?_)
 rw [<- Nat.pow_add]
 exact Nat.pow_le_pow_right (by decide) h
theorem aE3 {p : Nat} (h : p < 18446744073709551616) : IntKind.u64.wrap ((p : Nat) : Int) = ((p : Nat) : Int) := by rw [IntKind.wrap_u64]; omega
theorem aUK {B t : Nat} : B * 2 ^ (t + 1) / 2 = B * 2 ^ t := by
 rw [Nat.pow_succ, <- Nat.mul_assoc, Nat.mul_div_cancel _ (by decide)]
theorem aRO {z : List Nat} {i : Nat} (hz : okW z) (hd : valN z % 2 ^ (i + 1) = 0) : gw z (i / 64) + 2 ^ (i % 64) < 18446744073709551616 := by
 obtain ⟨m, hm⟩ := Nat.dvd_of_mod_eq_zero hd
 have hk : i % 64 + 1 <= 64 := by omega
 have e : 2 ^ (i + 1) = pw (i / 64) * 2 ^ (i % 64 + 1) := by rw [aDo, <- Nat.pow_add]; congr 1; omega
 have hc := aMV z (i / 64)
 have hT := aJE hz (i / 64)
 rw [hm, e, Nat.mul_assoc] at hc
 have hT0 : vt z (i / 64) = 0 := by
   have h1 : (vt z (i / 64) + pw (i / 64) * valN (z.drop (i / 64))) % pw (i / 64) = (pw (i / 64) * (2 ^ (i % 64 + 1) * m)) % pw (i / 64) := by rw [<- hc]
   rw [Nat.add_mul_mod_self_left, Nat.mul_mod_right, Nat.mod_eq_of_lt hT] at h1
   exact h1
 rw [hT0, Nat.zero_add] at hc
 have hV := Nat.eq_of_mul_eq_mul_left (aHP _) hc
 have hl := aRb (y := z.drop (i / 64)) hk
 rw [<- hV, Nat.mul_mod_right, aI7, Nat.add_zero] at hl
 have hg := aA3 hz (i / 64)
 obtain ⟨u, hu⟩ := Nat.dvd_of_mod_eq_zero hl.symm
 have h64 := aJF hk
 have hp := Nat.two_pow_pos (i % 64)
 rw [Nat.pow_succ] at hu h64
 generalize 2 ^ (64 - (i % 64 + 1)) = L at *
 generalize 2 ^ (i % 64) = P at *
 rw [hu] at hg ⊢
 have h1 : P * 2 * u < P * 2 * L := by rw [Nat.mul_comm (P * 2) L, <- h64]; exact hg
 have h2 := Nat.lt_of_mul_lt_mul_left h1
 have h3 : P * 2 * (u + 1) <= P * 2 * L := Nat.mul_le_mul_left _ h2
 rw [Nat.mul_add, Nat.mul_one, Nat.mul_comm (P * 2) L, <- h64] at h3
 omega
theorem aT1 {z : List Nat} {i : Nat} (hi : i / 64 < z.length) : valN (z.set (i / 64) (gw z (i / 64) + 2 ^ (i % 64))) = valN z + 2 ^ i := by
 have h := aIB z (i / 64) (gw z (i / 64) + 2 ^ (i % 64)) hi z.length hi
 rw [aBn _ _ (by rw [List.length_set]; omega), aN3] at h
 have e : 2 ^ i = 2 ^ (i % 64) * pw (i / 64) := by rw [aDo, <- Nat.pow_add]; congr 1; omega
 rw [e]
 rw [Nat.add_mul] at h
 omega
theorem aT2 {Z i : Nat} (h : Z % 2 ^ (i + 1) = 0) : Z % 2 ^ i = 0 /\ (Z + 2 ^ i) % 2 ^ i = 0 := by
 obtain ⟨m, hm⟩ := Nat.dvd_of_mod_eq_zero h
 have e : Z = 2 ^ i * (2 * m) := by rw [hm, Nat.pow_succ, Nat.mul_assoc]
 rw [e]
 refine ⟨Nat.mul_mod_right _ _, ?_⟩
 rw [Nat.add_mod, Nat.mul_mod_right, Nat.mod_self]
 simp
theorem aSB (lo : Nat) (a b : Value) (x y : List Nat) (w : World) (ha : aAE lo w a x) (hb : aAE lo w b y) (hla : x.length <= 1000000) (hlb : y.length <= 1000000) (hB : valN y ≠ 0) :
   Calls Tryz.prog 192 #[a, b] w (aUo w (valN x / valN y) (valN x % valN y)) := by
 have hxl : bl (valN x) <= 64 * x.length := aC8 (by rw [<- aDo]; exact aBr ha.ok)
 have hyl : bl (valN y) <= 64 * y.length := aC8 (by rw [<- aDo]; exact aBr hb.ok)
 have hLa := fun w ha => aFV lo a x w ha (by omega)
 have hLb := fun w hb => aFV lo b y w hb (by omega)
 have hNa := fun w ha => aBN lo a x w ha (by omega)
 have hSb := fun n w hb hn => aMN lo b y n w hb (by omega) hn
 obtain ⟨A, hA⟩ : ∃ A, valN x = A := ⟨_, rfl⟩
 obtain ⟨B, hBB⟩ : ∃ B, valN y = B := ⟨_, rfl⟩
 rw [hA] at hLa hNa hxl ⊢
 rw [hBB] at hLb hSb hB hyl ⊢
 have HLA := Lib.hid hLa
 have HLB := Lib.hid hLb
 have HNA := Lib.hid hNa
 have HSB := Lib.hid hSb
 clear hLa hLb hNa hSb hA hBB
 by_cases hn : bl A < bl B
 · have hlt : A < B := by
     apply Nat.lt_of_not_le
     intro h
     have := aFR h
     omega
   have e1 : A / B = 0 := Nat.div_eq_of_lt hlt
   have e2 : A % B = A := Nat.mod_eq_of_lt hlt
   rw [e1, e2]
   clear hlt e1 e2 HSB hB
   generalize bl A = p at *
   generalize bl B = q at *
   go_enter Tryz.func192, Tryz.ntmps192
   go_wp2_with fail
   refine (HLA.out _ ha).mono ?_
   rintro e w1 ⟨rfl, hb1⟩
   go_wp2_with fail
   refine (HLB.out _ (hb.call hb1)).mono ?_
   rintro e w2 ⟨rfl, hb2⟩
   have hb12 := hb1.trans (hb2.mono hb1.size)
   go_wp2_with fail
   refine (HNA.out _ (ha.call hb12)).mono ?_
   rintro e w3 ⟨v3, rfl, hv3, hb3⟩
   go_wp2_with fail
   go_ret2
   exact ⟨_, _, rfl, Num.zero _ _ _ _ (by decide), hv3.mono hb12.size, hb12.trans (hb3.mono hb12.size)⟩
 · obtain ⟨n, hn2⟩ : ∃ n, bl A = bl B + n := ⟨bl A - bl B, by omega⟩
   have hst := aPD hB hn2
   have hni : ((bl A : Nat) : Int) - ((bl B : Nat) : Int) = ((n : Nat) : Int) := by omega
   have hnl : n <= 64000000 := by omega
   have hBpos : 0 < B := by omega
   have HBB := Lib.hid (show bl B <= 64000000 by omega)
   generalize hgA : bl A = p at hni hn hn2 hxl HLA
   generalize hgB : bl B = q at hni hn hn2 hyl HLB
   have HST := Lib.hid hst
   obtain ⟨nq, hnq⟩ : ∃ nq, n / 64 = nq := ⟨_, rfl⟩
   have hnqi : ((n : Nat) : Int) / 64 = ((nq : Nat) : Int) := by omega
   have hmk := aBW 25 Tryz.underlying25 (nq + 1) (by omega)
   have hmk' : ∀ w : World, (Instr.makeSlice 25 (.int .i64 (((nq : Nat) : Int) + 1)) (.int .i64 (((nq : Nat) : Int) + 1))).run Tryz.prog w = .ok (.slice (some ⟨w.heap.size, 0, none⟩) (nq + 1) (nq + 1)) (w.alloc (.cells (wArr (List.replicate (nq + 1) 0)) 23)) := fun w => by
     rw [show ((nq : Nat) : Int) + 1 = ((nq + 1 : Nat) : Int) by omega]; exact hmk w
   have hsb := HSB.out n
   have HSB2 := Lib.hid (fun w hb => hsb w hb (by omega))
   clear hmk hst hn hn2 hsb HSB hxl hyl hB hgA hgB
   go_enter Tryz.func192, Tryz.ntmps192
   go_wp2_with fail
   refine (HLA.out _ ha).mono ?_
   rintro e w1 ⟨rfl, hb1⟩
   go_wp2_with fail
   refine (HLB.out _ (hb.call hb1)).mono ?_
   rintro e w2 ⟨rfl, hb2⟩
   have hb12 := hb1.trans (hb2.mono hb1.size)
   have hb13 := hb12.alloc hb12.size (.cells (wArr (List.replicate (nq + 1) 0)) 23)
   have hk3 := Blk.new w2 (wArr (List.replicate (nq + 1) 0)) 23
   have hg0 := hb12.size
   go_upto_region 5 with fail
   clear hmk'
   generalize hW3 : w2.alloc (.cells (wArr (List.replicate (nq + 1) 0)) 23) = w3 at *
   have hsz3 : w2.heap.size < w3.heap.size := by rw [<- hW3]; simp
   generalize w2.heap.size = g at *
   clear hW3 hb1 hb2 hb12
   go_wp2_with fail
   refine (HNA.out _ (ha.call hb13)).mono ?_
   rintro e w4 ⟨v4, rfl, hv4, hb4⟩
   have hb14 := hb13.trans (hb4.mono hb13.size)
   go_wp2_with fail
   refine (HSB2.out _ (hb.call hb14)).mono ?_
   rintro e w5 ⟨v5, rfl, hv5, hb5⟩
   have hb15 := hb14.trans (hb5.mono hb14.size)
   have hk5 := (hk3.call hb4).call hb5
   have hr5 : Num (g + 1) w5 v4 A := (hv4.call hb5).mono hsz3
   have hd5 : Num (g + 1) w5 v5 (B * 2 ^ (n + 1) / 2) := by
     rw [aUK]
     exact hv5.mono (by have := hb4.size; omega)
   clear hv4 hv5 hb13 hb14 hb4 hb5 hk3 HLA HLB HNA HSB2 ha hb
   go_wp2_with fail
   go_loopw [8, 9, 10] (fun u8 u9 u10 wr => ∃ (t r : Nat) (z : List Nat), t <= n + 1 /\ u10 = .int .i64 (((t : Nat) : Int) - 1) /\ Num (g + 1) wr u8 r /\ Num (g + 1) wr u9 (B * 2 ^ t / 2) /\ Hid (r < B * 2 ^ t) /\ Hid (A = r + B * valN z /\ valN z % 2 ^ t = 0) /\ okW z /\ Hid (z.length = nq + 1) /\ Blk wr g (wArr z) 23 /\ Below w.heap.size w wr) (fun _ _ u10 _ => (intOf u10 + 1).toNat)
   case atStart => exact ⟨n + 1, A, List.replicate (nq + 1) 0, Nat.le_refl _, by go_num, hr5, hd5, HST.out, ⟨by rw [aCX]; simp, by rw [aCX]; simp⟩, aBi _, by show _ = _; simp, hk5, hb15⟩
   case round =>
     clear hr5 hd5 hk5 hb15
     obtain ⟨t, r, z, ht, rfl, hr, hd, HR, HA, hzo, HZ, hkb, hbw⟩ := hrel
     obtain ⟨x8, c8, rfl⟩ : ∃ x c, u8 = .slice x (limbsOf r).length c := by
       obtain ⟨xx, cc, e, _⟩ := hr
       exact ⟨xx, cc, e⟩
     obtain ⟨x9, c9, rfl⟩ : ∃ x c, u9 = .slice x (limbsOf (B * 2 ^ t / 2)).length c := by
       obtain ⟨xx, cc, e, _⟩ := hd
       exact ⟨xx, cc, e⟩
     by_cases h0 : t = 0
     · subst h0
       have hq : valN z = A / B /\ r = A % B := by
         have h1 := HA.out.1
         have h2 := HR.out
         rw [Nat.pow_zero, Nat.mul_one] at h2
         rw [h1]
         refine ⟨?_, ?_⟩
         · rw [Nat.add_mul_div_left _ _ hBpos, Nat.div_eq_of_lt h2, Nat.zero_add]
         · rw [Nat.add_mul_mod_self_left, Nat.mod_eq_of_lt h2]
       have hw2 := aAE.ofBlk_all (lo := g) hkb (Nat.le_refl _) hzo (by have := HZ.out; omega)
       have hN := aBN g _ z wr hw2 (by have := HZ.out; omega)
       rw [HZ.out, hq.1] at hN
       rw [hq.2] at hr
       have HN := Lib.hid hN
       have HQ := Lib.hid hq.2
       clear hq hN hw2 HR HA hd
       go_wp2_with fail
       refine HN.out.mono ?_
       rintro e w6 ⟨v6, rfl, hv6, hb6⟩
       go_wp2_with fail
       go_ret2
       refine ⟨_, _, rfl, hv6.mono hbw.size, ?_, hbw.trans (hb6.mono hbw.size)⟩
       rw [<- HQ.out] at hr ⊢
       exact (hr.call hb6).mono (by omega)
     · obtain ⟨i, rfl⟩ : ∃ i, t = i + 1 := ⟨t - 1, by omega⟩
       have hcast : (((i + 1 : Nat) : Int) - 1) = ((i : Nat) : Int) := by omega
       rw [hcast]
       have hdd : B * 2 ^ (i + 1) / 2 = B * 2 ^ i := aUK
       have hhalf : B * 2 ^ i / 2 ^ 1 = B * 2 ^ i / 2 := by rw [Nat.pow_one]
       have hR2 := HR.out
       rw [Nat.pow_succ, <- Nat.mul_assoc] at hR2
       have hA2 := HA.out
       obtain ⟨m1, m2⟩ := aT2 hA2.2
       rw [hdd] at hd ⊢
       have hrl : (limbsOf r).length <= 3000000 := aOB (Nat.le_of_lt HR.out) (by have := HBB.out; omega)
       have hdl : (limbsOf (B * 2 ^ i)).length <= 3000000 := aOB (Nat.le_refl _) (by have := HBB.out; omega)
       have hcm := aMR (g + 1) _ _ _ _ wr hr.words hd.words
       have hsub := fun h => aMJ (g + 1) _ _ _ _ wr hr.words hd.words (by omega) (by omega) h
       have hshr := fun w hd => aJz (g + 1) (.slice x9 (limbsOf (B * 2 ^ i)).length c9) (limbsOf (B * 2 ^ i)) 1 w hd (by omega) (by decide)
       rw [aAi, aAi] at hcm hsub
       rw [aAi, hhalf] at hshr
       obtain ⟨iq, hiq⟩ : ∃ iq, i / 64 = iq := ⟨_, rfl⟩
       obtain ⟨ik, hik⟩ : ∃ ik, i % 64 = ik := ⟨_, rfl⟩
       have hword := aRO (i := i) hzo hA2.2
       have hset := aT1 (z := z) (i := i) (by have := HZ.out; omega)
       have hzc := hkb.cell (i / 64) _ (aBK z (i / 64) (by have := HZ.out; omega))
       rw [hiq, hik] at hword hset
       rw [hiq] at hzc
       have hiqi : ((i : Nat) : Int) / 64 = ((iq : Nat) : Int) := by omega
       have hiki : ((i : Nat) : Int) % 64 = ((ik : Nat) : Int) := by omega
       have hik64 : ik < 64 := by omega
       have hiql : iq < nq + 1 := by omega
       have hpi : IntKind.u64.wrap (2 ^ ik) = ((2 ^ ik : Nat) : Int) := by
         have e : (2 : Int) ^ ik = ((2 ^ ik : Nat) : Int) := by simp
         rw [e]
         exact aE3 (by omega)
       have hp0 := Nat.two_pow_pos ik
       obtain ⟨D, hD⟩ : ∃ D, B * 2 ^ i = D := ⟨_, rfl⟩
       rw [hD] at hR2 hcm hsub hshr hd hhalf ⊢
       have HD := Lib.hid hD
       have hA3 := hA2.1
       by_cases hc : r < D
       · have hcv : cmpN r D = -1 := by unfold cmpN; rw [if_pos hc]
         rw [hcv] at hcm
         have HCM := Lib.hid hcm
         have HSH := Lib.hid (hshr wr hd.words)
         have HFR := Lib.hid (show r < B * 2 ^ i by rw [hD]; exact hc)
         have HFA := Lib.hid (And.intro hA3 m1)
         clear hcm hsub hshr hcv hR2 hA2 hA3 m1 m2 hword hset hpi hp0 hD hc HR HA hhalf hzc hiqi hiki
         go_wp2_with fail
         refine HCM.out.mono ?_
         rintro e w6 ⟨rfl, hw⟩
         subst hw
         go_wp2_with fail
         refine HSH.out.mono ?_
         rintro e w7 ⟨v7, rfl, hv7, hb7⟩
         go_wp2_with fail
         go_roundw
         case rel =>
           refine ⟨i, r, z, by omega, rfl, hr.call hb7, ?_, HFR.out, HFA.out, hzo, HZ.out, hkb.call hb7, hbw.trans (hb7.mono hbw.size)⟩
           rw [HD.out]
           exact hv7.mono (by have := hkb.lt; omega)
         case measure => simp [intOf]
       · obtain ⟨cv, hcv⟩ : ∃ cv, cmpN r D = cv := ⟨_, rfl⟩
         have hcv0 : 0 <= cv := by rw [<- hcv]; unfold cmpN; rw [if_neg hc]; split <;> omega
         rw [hcv] at hcm
         have HCM := Lib.hid hcm
         have HSU := Lib.hid (hsub (by omega))
         have HSH := Lib.hid hshr
         have hval : valN (z.set iq (gw z iq + 2 ^ ik)) = valN z + 2 ^ i := hset
         have HFA := Lib.hid (show A = (r - D) + B * (valN z + 2 ^ i) /\ (valN z + 2 ^ i) % 2 ^ i = 0 from ⟨by rw [Nat.mul_add, hD]; omega, m2⟩)
         have HFR := Lib.hid (show r - D < B * 2 ^ i by rw [hD]; omega)
         have HVA := Lib.hid hval
         have hko : okW (z.set iq (gw z iq + 2 ^ ik)) := aCk hzo _ _ hword
         have HKO := Lib.hid hko
         have hsi : IntKind.u64.wrap (((gw z iq : Nat) : Int) + ((2 ^ ik : Nat) : Int)) = ((gw z iq + 2 ^ ik : Nat) : Int) := by rw [IntKind.wrap_u64]; omega
         generalize gw z iq + 2 ^ ik = s at *
         generalize 2 ^ ik = p at *
         generalize gw z iq = gz at *
         clear hcm hsub hshr hcv hR2 hA2 hA3 m1 m2 hword hset hp0 hD hc HR HA hhalf hval hko
         go_wp2_with fail
         refine HCM.out.mono ?_
         rintro e w6 ⟨rfl, hw⟩
         subst hw
         go_wp2_with fail
         refine HSU.out.mono ?_
         rintro e w7 ⟨v7, rfl, hv7, hb7⟩
         have hkb7 := hkb.call hb7
         have hd7 := hd.call hb7
         have hbw7 := hbw.trans (hb7.mono hbw.size)
         have hv7' : Num (g + 1) w7 v7 (r - D) := hv7.mono (by have := hkb.lt; omega)
         have hzc7 := (hb7.cell (World.block_lt_of_cell? wr _ hzc)).trans hzc
         have hzf := hkb7.free iq
         have hkb8 := aB6 hkb7 iq s
         have hd8 := aQX (g := g) (o := iq) (x := .int .u64 ((s : Nat) : Int)) hd7 (by omega)
         have hv8 := aQX (g := g) (o := iq) (x := .int .u64 ((s : Nat) : Int)) hv7' (by omega)
         have hbw8 := hbw7.setCell (show w.heap.size <= (⟨g, iq, none⟩ : Addr).block from hg0) (.int .u64 ((s : Nat) : Int))
         clear hzc hkb hd hbw hr hv7
         go_wp2_with fail
         refine (HSH.out _ hd8.words).mono ?_
         rintro e w9 ⟨v9, rfl, hv9, hb9⟩
         have hlt9 := hkb8.lt
         go_wp2_with fail
         go_roundw
         case rel =>
           refine ⟨i, r - D, z.set iq s, by omega, rfl, hv8.call hb9, ?_, HFR.out, ?_, HKO.out, ?_, hkb8.call hb9, hbw8.trans (hb9.mono hbw8.size)⟩
           · rw [HD.out]
             exact hv9.mono (by omega)
           · show _ /\ _
             rw [HVA.out]
             exact HFA.out
           · show _ = _
             rw [List.length_set]
             exact HZ.out
         case measure => simp [intOf]
end
section
set_option maxRecDepth 100000
set_option maxHeartbeats 1000000
open Go.RowKit
theorem aJ8 {r g d a1 a0 high hq hm low : Nat} (hd : 0 < d) (h1 : g = a1 * 4294967296 + a0) (h2 : high = r * 4294967296 + a1) (h3 : high = d * hq + hm) (h4 : low = hm * 4294967296 + a0) :
   hq * 4294967296 + low / d = (r * 18446744073709551616 + g) / d /\ low % d = (r * 18446744073709551616 + g) % d := by
 have e : r * 18446744073709551616 + g = d * (hq * 4294967296) + low := by
   have : d * (hq * 4294967296) = d * hq * 4294967296 := by rw [Nat.mul_assoc]
   omega
 rw [e]
 constructor
 · rw [Nat.mul_add_div hd]
 · rw [Nat.mul_add_mod]
theorem aM0 (lo : Nat) (a : Value) (l : List Nat) (d : Nat) (w : World) (ha : aAE lo w a l) (hl : l.length <= 1000000000) (h0 : 0 < d) (hd : d < 4294967296) :
   Calls Tryz.prog 201 #[a, .int .u64 ((d : Nat) : Int)] w (aMM w (valN l / d) (valN l % d)) := by
 have hok := ha.ok
 obtain ⟨x, cap, rfl, hcap, hcm, _, hx⟩ := ha
 have HX := Lib.hid hx
 clear hx
 have hmk := aBW 25 Tryz.underlying25 l.length (by omega)
 go_enter Tryz.func201, Tryz.ntmps201
 go_wp2_with fail
 clear hmk
 go_loopw [7, 8, 9, 10] (fun u7 u8 _ _ wr => aIs w.heap.size w l d u8 u7 wr) (fun _ u8 _ _ _ => (intOf u8 + 1).toNat)
 case atStart => exact ⟨l.length, 0, List.replicate l.length 0, Nat.le_refl _, rfl, rfl, h0, by simp, aBi _, by rw [aJR l _ (Nat.le_refl _), aJR _ _ (by simp)]; simp, Blk.new _ _ _, (Below.refl _ _).alloc (Nat.le_refl _) _⟩
 case round =>
   obtain ⟨k, r, z, hk, rfl, rfl, hr, hzl, hzo, hv, hz, hbl⟩ := hrel
   have HV := Lib.hid hv
   have HZ := Lib.hid hzl
   clear hv hzl
   by_cases hk0 : k = 0
   · subst hk0
     have hw2 := aAE.ofBlk_all (lo := w.heap.size) hz (Nat.le_refl _) hzo (by have := HZ.out; omega)
     rw [HZ.out] at hw2
     have hq : valN z = valN l / d := by
       have := HV.out
       rw [aEh, aEh, Nat.mul_comm] at this
       rw [this, Nat.mul_add_div h0, Nat.div_eq_of_lt hr, Nat.add_zero]
     have hr' : valN l % d = r := by
       have := HV.out
       rw [aEh, aEh, Nat.mul_comm] at this
       rw [this, Nat.mul_add_mod, Nat.mod_eq_of_lt hr]
     have hN := aBN w.heap.size _ z wr hw2 (by have := HZ.out; omega)
     rw [hq] at hN
     have HN := Lib.hid hN
     have HR := Lib.hid hr'
     clear hq hr' hN
     go_wp2_with fail
     refine HN.out.mono ?_
     rintro e w3 ⟨v, rfl, hvv, hb3⟩
     go_wp2_with fail
     go_ret2
     exact ⟨_, by rw [HR.out]; rfl, hvv.mono hbl.size, hbl.trans (hb3.mono hbl.size)⟩
   · obtain ⟨m, rfl⟩ : ∃ m, k = m + 1 := ⟨k - 1, by omega⟩
     have hcast : (((m + 1 : Nat) : Int) - 1) = ((m : Nat) : Int) := by omega
     rw [hcast]
     clear hcast
     obtain ⟨b1, o1, rfl, _, hcx⟩ := HX.out m (by omega)
     have hcx' := (hbl.cell (World.block_lt_of_cell? w _ hcx)).trans hcx
     have hxi := aA3 hok m
     have zc := hz.cell m _ (aBK z m (by have := HZ.out; omega))
     have zf := hz.free m
     have hcl : ∀ q r' : Nat, q = (r * 18446744073709551616 + gw l m) / d -> r' = (r * 18446744073709551616 + gw l m) % d -> ∀ (wr2 : World) (e : Int), e = ((m : Nat) : Int) - 1 -> Blk wr2 w.heap.size (wArr (z.set m q)) 23 -> Below w.heap.size w wr2 -> aIs w.heap.size w l d (.int .i64 e) (.int .u64 ((r' : Nat) : Int)) wr2 :=
       fun q r' h1 h2 wr2 e he h3 h4 => aII (by omega) he hr (by omega) hok h1 h2 HZ.out hzo HV.out h3 h4
     have HCL := Lib.hid hcl
     clear hcx hcl
     have hmz : m < l.length := by omega
     generalize gw l m = g at *
     obtain ⟨a1, ha1⟩ : ∃ v, g / 4294967296 = v := ⟨_, rfl⟩
     obtain ⟨a0, ha0⟩ : ∃ v, g % 4294967296 = v := ⟨_, rfl⟩
     obtain ⟨t0, ht0⟩ : ∃ v, r * 4294967296 = v := ⟨_, rfl⟩
     obtain ⟨high, hhigh⟩ : ∃ v, t0 + a1 = v := ⟨_, rfl⟩
     obtain ⟨hq, hhq⟩ : ∃ v, high / d = v := ⟨_, rfl⟩
     obtain ⟨hm, hhm⟩ : ∃ v, high % d = v := ⟨_, rfl⟩
     obtain ⟨t1, ht1⟩ : ∃ v, hm * 4294967296 = v := ⟨_, rfl⟩
     obtain ⟨low, hlow⟩ : ∃ v, t1 + a0 = v := ⟨_, rfl⟩
     obtain ⟨lq, hlq⟩ : ∃ v, low / d = v := ⟨_, rfl⟩
     obtain ⟨lr, hlr⟩ : ∃ v, low % d = v := ⟨_, rfl⟩
     obtain ⟨t2, ht2⟩ : ∃ v, hq * 4294967296 = v := ⟨_, rfl⟩
     obtain ⟨qv, hqv⟩ : ∃ v, t2 + lq = v := ⟨_, rfl⟩
     have hdm := Nat.div_add_mod high d
     have hmd := Nat.mod_lt high h0
     have hld := Nat.mod_lt low h0
     rw [hhq, hhm] at hdm
     rw [hhm] at hmd
     rw [hlr] at hld
     have hhqb : hq < 4294967296 := by
       rw [<- hhq, Nat.div_lt_iff_lt_mul h0, Nat.mul_comm]
       have : (r + 1) * 4294967296 <= d * 4294967296 := Nat.mul_le_mul_right _ hr
       omega
     have hlqb : lq < 4294967296 := by
       rw [<- hlq, Nat.div_lt_iff_lt_mul h0, Nat.mul_comm]
       have : (hm + 1) * 4294967296 <= d * 4294967296 := Nat.mul_le_mul_right _ hmd
       omega
     obtain ⟨hd1, hd2⟩ := aJ8 (r := r) (g := g) (a1 := a1) (a0 := a0) (high := high) h0 (by omega) (by omega) hdm.symm (by omega : low = hm * 4294967296 + a0)
     rw [hlq, ht2, hqv] at hd1
     rw [hlr] at hd2
     have HF := Lib.hid (fun wr2 e he h3 h4 => HCL.out qv lr hd1 hd2 wr2 e he h3 h4)
     have i1 : ((g : Nat) : Int) / 4294967296 = ((a1 : Nat) : Int) := by omega
     have i2 : ((g : Nat) : Int) % 4294967296 = ((a0 : Nat) : Int) := by omega
     have i3 : ((high : Nat) : Int) / ((d : Nat) : Int) = ((hq : Nat) : Int) := by rw [<- hhq]; simp
     have i4 : ((high : Nat) : Int) % ((d : Nat) : Int) = ((hm : Nat) : Int) := by rw [<- hhm]; simp
     have i5 : ((low : Nat) : Int) / ((d : Nat) : Int) = ((lq : Nat) : Int) := by rw [<- hlq]; simp
     have i6 : ((low : Nat) : Int) % ((d : Nat) : Int) = ((lr : Nat) : Int) := by rw [<- hlr]; simp
     have w1 : IntKind.u64.wrap (((r : Nat) : Int) * 4294967296) = ((t0 : Nat) : Int) := by rw [IntKind.wrap_u64]; omega
     have w2 : IntKind.u64.wrap ((a1 : Nat) : Int) = ((a1 : Nat) : Int) := aE3 (by omega)
     have w3 : IntKind.u64.wrap (((t0 : Nat) : Int) + ((a1 : Nat) : Int)) = ((high : Nat) : Int) := by rw [IntKind.wrap_u64]; omega
     have w4 : IntKind.u64.wrap (((hm : Nat) : Int) * 4294967296) = ((t1 : Nat) : Int) := by rw [IntKind.wrap_u64]; omega
     have w5 : IntKind.u64.wrap (((t1 : Nat) : Int) + ((a0 : Nat) : Int)) = ((low : Nat) : Int) := by rw [IntKind.wrap_u64]; omega
     have w6 : IntKind.u64.wrap ((hq : Nat) : Int) = ((hq : Nat) : Int) := aE3 (by omega)
     have w7 : IntKind.u64.wrap (((hq : Nat) : Int) * 4294967296) = ((t2 : Nat) : Int) := by rw [IntKind.wrap_u64]; omega
     have w8 : IntKind.u64.wrap ((lq : Nat) : Int) = ((lq : Nat) : Int) := aE3 (by omega)
     have w9 : IntKind.u64.wrap (((t2 : Nat) : Int) + ((lq : Nat) : Int)) = ((qv : Nat) : Int) := by rw [IntKind.wrap_u64]; omega
     clear HCL ha1 ha0 ht0 hhigh hhq hhm ht1 hlow hlq hlr ht2 hqv hdm hmd hld hhqb hlqb hd1 hd2
     have hdi : (0 : Int) < ((d : Nat) : Int) := by omega
     go_wp2_with fail
     go_quiet (fail)
     go_wp2_with fail
     go_region
     all_goals (go_wp2_with fail)
     rw [i6]
     exact ⟨HF.out _ _ rfl (aB6 (hz.drewN _) _ _) ((hbl.trans (aBQ _ _ _)).setCell (Nat.le_refl _) _), by simp [intOf]⟩
end
section
open Go.RowKit
theorem aTn (a b : Nat) (ha : Sr a) (hb : Sr b) (h0 : b ≠ 0) : AC Tryz.prog TabW 192 [.num a, .num b] (.tup [.num (a / b), .num (a % b)]) := by
 refine ⟨by kernel_rfl, fun S β w vs hI hS h => ?_⟩
 simp only [RepL, Rep] at h
 obtain ⟨va, _, rfl, h1, vb, _, rfl, h2, rfl⟩ := h
 have := aSB 0 va vb _ _ w h1.1 h2.1 (aDl ha) (aDl hb) (by rw [aAi]; exact h0)
 rw [aAi, aAi] at this
 refine this.mono fun e w' h => ?_
 obtain ⟨v, u, h2, h3, h4, h5⟩ := h
 refine ⟨_, h2, ?_, h5⟩
 have hr := aFE (β := β) hS h3
 have hs := aFE (β := β) hS h4
 simp only [Rep, RepL] at hr hs ⊢
 exact ⟨[_, _], rfl, _, _, rfl, hr, _, _, rfl, hs, rfl⟩
theorem aPl (a d : Nat) (ha : Sr a) (h0 : 0 < d) (hd : d < 4294967296) : AC Tryz.prog TabW 201 [.num a, .lit (.int .u64 ((d : Nat) : Int))] (.tup [.num (a / d), .lit (.int .u64 ((a % d : Nat) : Int))]) := by
 refine ⟨by kernel_rfl, fun S β w vs hI hS h => ?_⟩
 simp only [RepL, Rep] at h
 obtain ⟨va, _, rfl, h1, _, _, rfl, rfl, rfl⟩ := h
 have := aM0 0 va _ d w h1.1 (by have := aDl ha; omega) h0 hd
 rw [aAi] at this
 refine this.mono fun e w' h => ?_
 obtain ⟨v, h2, h3, h4⟩ := h
 refine ⟨_, h2, ?_, h4⟩
 have hr := aFE (β := β) hS h3
 simp only [Rep, RepL] at hr ⊢
 exact ⟨[_, _], rfl, _, _, rfl, hr, _, _, rfl, rfl, rfl⟩
end
section
set_option maxRecDepth 10000
set_option maxHeartbeats 1000000
open Go.RowKit
theorem aPm (a d : Nat) (ha : Sr a) (h0 : 0 < d) (hd : d < 4294967296) : AC Tryz.prog TabW 199 [.num a, .lit (.int .u64 ((d : Nat) : Int))] (.num (a / d)) := by
 refine aAd Tryz.func199 rfl (by kernel_rfl) aAc Tryz.mixed rfl rfl (by kernel_rfl) ?_
 simp only [aAl, Tryz.ntmps199, dyV, ivV, fxV]
 refine aAa fun K1 g1 => ?_
 refine aAb fun os => ?_
 try simp (disch := omega) only [xq, simprocAttr, dyV, ivV, fxV]
 refine g1 _ ?_
 refine aAa fun K2 g2 => ?_
 refine aAb fun os => ?_
 try simp (disch := omega) only [xq, simprocAttr, dyV, ivV, fxV]
 refine cxo (aPl _ _ ha h0 hd) ?_
 try simp (disch := omega) only [xq, simprocAttr, dyV, ivV, fxV]
 refine g2 _ ?_
 refine aAa fun K3 g3 => ?_
 refine aAb fun os => ?_
 try simp (disch := omega) only [xq, simprocAttr, dyV, ivV, fxV]
 refine g3 _ ?_
 refine aAe ?_
 simp only [endX, resX, resV, Tryz.results199]
 try simp (disch := omega) only [xq, simprocAttr, dyV, ivV, fxV]
 first | done | rfl
end
section
set_option maxRecDepth 10000
set_option maxHeartbeats 1000000
open Go.RowKit
def oneI (v : Iv) : Iv := ⟨oneD v.lo, oneD v.hi⟩
theorem aVv (v : Iv) : ib (oneI v) <= ib v /\ ie (oneI v) <= ie v + ib v := by
 have h1 := aBO v.lo
 have h2 := aBO v.hi
 have h3 := aBe v
 have h4 := mk_b (a := oneD v.lo) (b := oneD v.hi) (B := ib v) (E := ie v + ib v) (by omega) (by omega)
 exact h4
theorem aT3 (v : Iv) (h : ib v <= 2000000 /\ ie v <= 600000000000000) : AC Tryz.prog TabW 105 [ivV v] (ivV (oneI v)) /\ (ib (oneI v) <= ib v /\ ie (oneI v) <= ie v + ib v) := by
 refine ⟨?_, aVv v⟩
 have hr : oneI v = ⟨oneD v.lo, oneD v.hi⟩ := rfl
 rw [hr]
 clear hr
 have hv := aBe v
 refine aAd Tryz.func105 rfl (by kernel_rfl) aAc Tryz.mixed rfl rfl (by kernel_rfl) ?_
 simp only [aAl, Tryz.ntmps105, dyV, ivV, fxV]
 refine aAa fun K1 g1 => ?_
 refine aAb fun os => ?_
 try simp (disch := omega) only [xq, simprocAttr, dyV, ivV, fxV]
 refine g1 _ ?_
 refine aAa fun K2 g2 => ?_
 refine aAB (by kernel_rfl) fun os => ?_
 try simp (disch := omega) only [xq, simprocAttr, dyV, ivV, fxV]
 refine cxdz (aCw _ (by omega)) (fun z1 => ?_)
 try simp (disch := omega) only [xq, simprocAttr, dyV, ivV, fxV]
 refine cxdz (aCw _ (by omega)) (fun z2 => ?_)
 try simp (disch := omega) only [xq, simprocAttr, dyV, ivV, fxV]
 refine g2 _ ?_
 refine aAe ?_
 simp only [endX, resX, resV, Tryz.results105]
 try simp (disch := omega) only [xq, simprocAttr, dyV, ivV, fxV]
 first | done | rfl
theorem aEZ (d : D) (h : bl d.m <= 2000000 /\ ae d <= 600000000000000) : AC Tryz.prog TabW 135 [dyV d] (ivV (aAn d)) /\ (ib (aAn d) <= bl d.m /\ ie (aAn d) <= ae d + bl d.m) := by
 refine ⟨?_, aEj d⟩
 have hr : aAn d = ⟨oneD d, oneD d⟩ := rfl
 rw [hr]
 clear hr
 refine aAd Tryz.func135 rfl (by kernel_rfl) aAc Tryz.mixed rfl rfl (by kernel_rfl) ?_
 simp only [aAl, Tryz.ntmps135, dyV, ivV, fxV]
 refine aAa fun K1 g1 => ?_
 refine aAb fun os => ?_
 try simp (disch := omega) only [xq, simprocAttr, dyV, ivV, fxV]
 refine g1 _ ?_
 refine aAa fun K2 g2 => ?_
 refine aAb fun os => ?_
 try simp (disch := omega) only [xq, simprocAttr, dyV, ivV, fxV]
 refine cxoz (aCw _ (by omega)) (fun z1 => ?_)
 try simp (disch := omega) only [xq, simprocAttr, dyV, ivV, fxV]
 refine g2 _ ?_
 refine aAa fun K3 g3 => ?_
 refine aAb fun os => ?_
 try simp (disch := omega) only [xq, simprocAttr, dyV, ivV, fxV]
 refine g3 _ ?_
 refine aAe ?_
 simp only [endX, resX, resV, Tryz.results135]
 try simp (disch := omega) only [xq, simprocAttr, dyV, ivV, fxV]
 first | done | rfl
end
section
set_option maxRecDepth 10000
set_option maxHeartbeats 4000000
open Go.RowKit
theorem aRd (a : Nat) (k : Int) : aMg a k = if 0 <= k then false else aEL a (-k).toNat := by unfold aMg aEL; rfl
theorem aWb (m : Nat) (k : Int) (h : k <= 100000000) : bl (aEv m k) <= bl m + k.toNat := by
 unfold aEv
 split
 · exact aD2 _ _
 · have := aHX m (-k).toNat; omega
theorem aMA (a : Nat) (k : Int) (h : bl a <= 20000000 /\ -20000000 <= k /\ k <= 20000000) : AC Tryz.prog TabW 172 [.num (a), .lit (.int .i64 k)] (.tup [.num (aEv a k), .lit (.bool (aMg a k))]) := by
 rw [aRd]
 unfold aEv
 refine aAd Tryz.func172 rfl (by kernel_rfl) aAc Tryz.mixed rfl rfl (by kernel_rfl) ?_
 simp only [aAl, Tryz.ntmps172, dyV, ivV, fxV]
 repeat' first
  | refine aAa fun K g => ?_
  | refine goK (by assumption) ?_
  | ((first | refine aAk ?_ | refine aAe ?_) <;> try simp only [aAm, aAg, reduceIte, Nat.reduceEqDiff])
  | ((first
  | refine aAU rfl fun os => ?_
  | refine cxo (aED _ _ (aBf (by omega)) (by omega) (by omega)) ?_
  | refine cxo (aKZ _ _ (aBf (by omega)) (by omega) (by omega)) ?_
  | simp only [endX, resX, resV, Tryz.results172]) <;> try (simp (disch := omega) only [xq, simprocAttr, dyV, ivV, fxV, Int.zero_sub]))
  | (refine aAf (by first | rfl | assumption) (fun c => ?_) (fun c => ?_) <;> first | exact absurd c (by decide) | ((try rw [c]); try simp only [xn] at c))
  | (repeat (first | rw [if_pos (by first | assumption | omega)] | rw [if_neg (by first | assumption | omega)])
     first | done | rfl
     done)
theorem aD0 (a b : D) (p : Int) (up : Bool) (hb : b.m ≠ 0) (h : bl a.m <= 5000000 /\ bl b.m <= 5000000 /\ ae a <= 100000000000000 /\ ae b <= 100000000000000 /\ 0 <= p /\ p <= 5000000) : AC Tryz.prog TabW 173 [dyV a, dyV b, .lit (.int .i64 p), .lit (.bool up)] (dyV (aCu a b p up)) /\ (((bl (aCu a b p up).m : Nat) : Int) <= max p 0 + 1 /\ ae (aCu a b p up) <= ae a + ae b + 12 * bl a.m + 12 * bl b.m + 6 * p.natAbs + 30) := by
 have hr : aCu a b p up = if (oneD a).m = 0 then ⟨false, 0, 0⟩ else
   cutD (aAL ((oneD a).neg != (oneD b).neg)
   (stk (aEv (oneD a).m (p + 2 + ((bl (oneD b).m : Nat) : Int) - ((bl (oneD a).m : Nat) : Int)) / (oneD b).m)
     (aEv (oneD a).m (p + 2 + ((bl (oneD b).m : Nat) : Int) - ((bl (oneD a).m : Nat) : Int)) % (oneD b).m != 0 || aMg (oneD a).m (p + 2 + ((bl (oneD b).m : Nat) : Int) - ((bl (oneD a).m : Nat) : Int))))
   ((oneD a).e - (oneD b).e - (p + 2 + ((bl (oneD b).m : Nat) : Int) - ((bl (oneD a).m : Nat) : Int)) - 1)) p up := rfl
 rw [hr]
 clear hr
 have h1 := aCw a (by omega)
 have h2 := aCw b (by omega)
 have nb : (oneD b).m ≠ 0 := fun e => hb ((aGY b).1 e)
 generalize oneD a = x at *
 generalize oneD b = y at *
 have ex : ae x = x.e.natAbs := rfl
 have ey : ae y = y.e.natAbs := rfl
 generalize hk : p + 2 + ((bl y.m : Nat) : Int) - ((bl x.m : Nat) : Int) = k at *
 have cl1 := aMA x.m k (by omega)
 have b1 := aWb x.m k (by omega)
 generalize aEv x.m k = lf at *
 generalize aMg x.m k = ll at *
 have b2 := aJq lf y.m
 have b3 := aTn lf y.m (aBf (by omega)) (aBf (by omega)) nb
 generalize lf / y.m = Q at *
 generalize lf % y.m = Rm at *
 have b4 := aD2 Q 1
 have b5 := aCr (Q * 2 ^ 1) 1
 have b6 := aQk Q (Rm != 0 || ll)
 have b7 : bl 1 = 1 := by decide
 have e1 : (1 : Int).toNat = 1 := rfl
 have zx := aAG (n := x.m)
 have f1 := aBZ (x.neg != y.neg) (stk Q (Rm != 0 || ll)) (x.e - y.e - k - 1) (aBf (by omega)) (aD4 (by omega))
 have f2 := aBp (x.neg != y.neg) (stk Q (Rm != 0 || ll)) (x.e - y.e - k - 1)
 have f3 := (aJo (aAL (x.neg != y.neg) (stk Q (Rm != 0 || ll)) (x.e - y.e - k - 1)) p up (by omega)).1
 have f4 := aHG (aAL (x.neg != y.neg) (stk Q (Rm != 0 || ll)) (x.e - y.e - k - 1)) p up
 have s1 : (Rm != 0 || ll) = true -> stk Q (Rm != 0 || ll) = Q * 2 ^ 1 + 1 := fun e => by rw [e]; rfl
 have s2 : (Rm != 0 || ll) = false -> stk Q (Rm != 0 || ll) = Q * 2 ^ 1 := fun e => by rw [e]; rfl
 have s3 : (Rm != 0) = false -> (Rm != 0 || ll) = ll := fun e => by rw [e]; rfl
 have s4 : (Rm != 0) = true -> (Rm != 0 || ll) = true := fun e => by rw [e]; rfl
 generalize (Rm != 0 || ll) = more at *
 generalize hst : stk Q more = St at *
 refine ⟨?_, by
   split
   · exact ⟨by show ((bl 0 : Nat) : Int) <= _; have : bl 0 = 0 := rfl; omega, by show (0 : Int).natAbs <= _; omega⟩
   · omega⟩
 clear f2 f4
 refine aAd Tryz.func173 rfl (by kernel_rfl) aAc Tryz.mixed rfl rfl (by kernel_rfl) ?_
 simp only [aAl, Tryz.ntmps173, dyV, ivV, fxV]
 refine aAa fun K1 g1 => ?_
 refine aAb fun os => ?_
 try simp (disch := omega) only [xq, simprocAttr, dyV, ivV, fxV, lenE, aA2, hk, e1, -Nat.reducePow]
 refine g1 _ ?_
 refine aAa fun K2 g2 => ?_
 refine aAB (by kernel_rfl) fun os => ?_
 try simp (disch := omega) only [xq, simprocAttr, dyV, ivV, fxV, lenE, aA2, hk, e1, -Nat.reducePow]
 refine cxd (h1.1) ?_
 try simp (disch := omega) only [xq, simprocAttr, dyV, ivV, fxV, lenE, aA2, hk, e1, -Nat.reducePow]
 refine cxd (h2.1) ?_
 try simp (disch := omega) only [xq, simprocAttr, dyV, ivV, fxV, lenE, aA2, hk, e1, -Nat.reducePow]
 refine g2 _ ?_
 refine aAa fun K3 g3 => ?_
 refine aAa fun K4 g4 => ?_
 refine aAb fun os => ?_
 try simp (disch := omega) only [xq, simprocAttr, dyV, ivV, fxV, lenE, aA2, hk, e1, -Nat.reducePow]
 refine g4 _ ?_
 refine aAf (by first | rfl | assumption) (fun c1 => ?_) (fun c1 => ?_)
 ·try simp only [xn] at c1
  refine aAa fun K5 g5 => ?_
  refine aAb fun os => ?_
  try simp (disch := omega) only [xq, simprocAttr, dyV, ivV, fxV, lenE, aA2, hk, e1, -Nat.reducePow]
  refine g5 _ ?_
  refine aAe ?_
  simp only [aAm, aAg, reduceIte, Nat.reduceEqDiff]
  simp only [endX, resX, resV, Tryz.results173]
  try simp (disch := omega) only [xq, simprocAttr, dyV, ivV, fxV, lenE, aA2, hk, e1, -Nat.reducePow]
  first | (rw [if_pos (by first | assumption | omega)]; done) | (rw [if_neg (by first | assumption | omega)]; done) | (rw [if_pos (by first | assumption | omega)]; rfl) | (rw [if_neg (by first | assumption | omega)]; rfl)
 ·try simp only [xn] at c1
  refine aAk ?_
  simp only [aAm, aAg, reduceIte, Nat.reduceEqDiff]
  refine g3 _ ?_
  refine aAa fun K6 g6 => ?_
  refine aAB (by kernel_rfl) fun os => ?_
  try simp (disch := omega) only [xq, simprocAttr, dyV, ivV, fxV, lenE, aA2, hk, e1, -Nat.reducePow]
  refine cxd (aG1 _ (aBf (by omega))) ?_
  try simp (disch := omega) only [xq, simprocAttr, dyV, ivV, fxV, lenE, aA2, hk, e1, -Nat.reducePow]
  refine cxd (aG1 _ (aBf (by omega))) ?_
  try simp (disch := omega) only [xq, simprocAttr, dyV, ivV, fxV, lenE, aA2, hk, e1, -Nat.reducePow]
  refine g6 _ ?_
  refine aAa fun K7 g7 => ?_
  refine aAb fun os => ?_
  try simp (disch := omega) only [xq, simprocAttr, dyV, ivV, fxV, lenE, aA2, hk, e1, -Nat.reducePow]
  refine cxo (cl1) ?_
  try simp (disch := omega) only [xq, simprocAttr, dyV, ivV, fxV, lenE, aA2, hk, e1, -Nat.reducePow]
  refine g7 _ ?_
  refine aAa fun K8 g8 => ?_
  refine aAb fun os => ?_
  try simp (disch := omega) only [xq, simprocAttr, dyV, ivV, fxV, lenE, aA2, hk, e1, -Nat.reducePow]
  refine cxo (b3) ?_
  try simp (disch := omega) only [xq, simprocAttr, dyV, ivV, fxV, lenE, aA2, hk, e1, -Nat.reducePow]
  refine g8 _ ?_
  refine aAa fun K9 g9 => ?_
  refine aAb fun os => ?_
  try simp (disch := omega) only [xq, simprocAttr, dyV, ivV, fxV, lenE, aA2, hk, e1, -Nat.reducePow]
  refine cxo (aED _ _ (aBf (by omega)) (by omega) (by omega)) ?_
  try simp (disch := omega) only [xq, simprocAttr, dyV, ivV, fxV, lenE, aA2, hk, e1, -Nat.reducePow]
  refine g9 _ ?_
  refine aAa fun K10 g10 => ?_
  refine aAa fun K11 g11 => ?_
  refine aAx ?_
  try simp (disch := omega) only [xq, simprocAttr, dyV, ivV, fxV, lenE, aA2, hk, e1, -Nat.reducePow]
  refine gx (fun c2 => ?_) (fun c2 => ?_)
  ·rw [c2]
   try simp only [xn] at c2
   try simp (disch := omega) only [xq, simprocAttr, dyV, ivV, fxV, lenE, aA2, hk, e1, -Nat.reducePow]
   refine g11 _ ?_
   refine aAf (by first | rfl | assumption) (fun c3 => ?_) (fun c3 => ?_)
   ·try simp only [xn] at c3
    refine aAb fun os => ?_
    try simp (disch := omega) only [xq, simprocAttr, dyV, ivV, fxV, lenE, aA2, hk, e1, -Nat.reducePow]
    refine cxo (aDE _ (by omega) (by omega)) ?_
    try simp (disch := omega) only [xq, simprocAttr, dyV, ivV, fxV, lenE, aA2, hk, e1, -Nat.reducePow]
    refine cxo (aD9 _ _ (aBf (by omega)) (aBf (by omega))) ?_
    try simp (disch := omega) only [xq, simprocAttr, dyV, ivV, fxV, lenE, aA2, hk, e1, -Nat.reducePow]
    refine g10 _ ?_
    refine aAa fun K12 g12 => ?_
    refine aAb fun os => ?_
    try simp (disch := omega) only [xq, simprocAttr, dyV, ivV, fxV, lenE, aA2, hk, e1, -Nat.reducePow]
    first | rw [<- s1 (by simp_all)] | rw [<- s2 (by simp_all)]
    refine cxo (f1) ?_
    try simp (disch := omega) only [xq, simprocAttr, dyV, ivV, fxV, lenE, aA2, hk, e1, -Nat.reducePow]
    refine cxo (f3) ?_
    try simp (disch := omega) only [xq, simprocAttr, dyV, ivV, fxV, lenE, aA2, hk, e1, -Nat.reducePow]
    refine g12 _ ?_
    refine aAe ?_
    simp only [endX, resX, resV, Tryz.results173]
    try simp (disch := omega) only [xq, simprocAttr, dyV, ivV, fxV, lenE, aA2, hk, e1, -Nat.reducePow]
    first | (rw [if_pos (by first | assumption | omega)]; done) | (rw [if_neg (by first | assumption | omega)]; done) | (rw [if_pos (by first | assumption | omega)]; rfl) | (rw [if_neg (by first | assumption | omega)]; rfl)
   ·try simp only [xn] at c3
    refine aAk ?_
    simp only [aAm, aAg, reduceIte, Nat.reduceEqDiff]
    refine g10 _ ?_
    refine aAa fun K13 g13 => ?_
    refine aAb fun os => ?_
    try simp (disch := omega) only [xq, simprocAttr, dyV, ivV, fxV, lenE, aA2, hk, e1, -Nat.reducePow]
    first | rw [<- s1 (by simp_all)] | rw [<- s2 (by simp_all)]
    refine cxo (f1) ?_
    try simp (disch := omega) only [xq, simprocAttr, dyV, ivV, fxV, lenE, aA2, hk, e1, -Nat.reducePow]
    refine cxo (f3) ?_
    try simp (disch := omega) only [xq, simprocAttr, dyV, ivV, fxV, lenE, aA2, hk, e1, -Nat.reducePow]
    refine g13 _ ?_
    refine aAe ?_
    simp only [endX, resX, resV, Tryz.results173]
    try simp (disch := omega) only [xq, simprocAttr, dyV, ivV, fxV, lenE, aA2, hk, e1, -Nat.reducePow]
    first | (rw [if_pos (by first | assumption | omega)]; done) | (rw [if_neg (by first | assumption | omega)]; done) | (rw [if_pos (by first | assumption | omega)]; rfl) | (rw [if_neg (by first | assumption | omega)]; rfl)
  ·rw [c2]
   try simp only [xn] at c2
   try simp (disch := omega) only [xq, simprocAttr, dyV, ivV, fxV, lenE, aA2, hk, e1, -Nat.reducePow]
   refine g11 _ ?_
   refine aAf (by first | rfl | assumption) (fun c4 => ?_) (fun c4 => ?_)
   ·try simp only [xn] at c4
    refine aAb fun os => ?_
    try simp (disch := omega) only [xq, simprocAttr, dyV, ivV, fxV, lenE, aA2, hk, e1, -Nat.reducePow]
    refine cxo (aDE _ (by omega) (by omega)) ?_
    try simp (disch := omega) only [xq, simprocAttr, dyV, ivV, fxV, lenE, aA2, hk, e1, -Nat.reducePow]
    refine cxo (aD9 _ _ (aBf (by omega)) (aBf (by omega))) ?_
    try simp (disch := omega) only [xq, simprocAttr, dyV, ivV, fxV, lenE, aA2, hk, e1, -Nat.reducePow]
    refine g10 _ ?_
    refine aAa fun K14 g14 => ?_
    refine aAb fun os => ?_
    try simp (disch := omega) only [xq, simprocAttr, dyV, ivV, fxV, lenE, aA2, hk, e1, -Nat.reducePow]
    first | rw [<- s1 (by simp_all)] | rw [<- s2 (by simp_all)]
    refine cxo (f1) ?_
    try simp (disch := omega) only [xq, simprocAttr, dyV, ivV, fxV, lenE, aA2, hk, e1, -Nat.reducePow]
    refine cxo (f3) ?_
    try simp (disch := omega) only [xq, simprocAttr, dyV, ivV, fxV, lenE, aA2, hk, e1, -Nat.reducePow]
    refine g14 _ ?_
    refine aAe ?_
    simp only [endX, resX, resV, Tryz.results173]
    try simp (disch := omega) only [xq, simprocAttr, dyV, ivV, fxV, lenE, aA2, hk, e1, -Nat.reducePow]
    first | (rw [if_pos (by first | assumption | omega)]; done) | (rw [if_neg (by first | assumption | omega)]; done) | (rw [if_pos (by first | assumption | omega)]; rfl) | (rw [if_neg (by first | assumption | omega)]; rfl)
   ·exact absurd c4 (by decide)
theorem aOD (a b : Iv) (p : Int) (hl : b.lo.m ≠ 0) (hh : b.hi.m ≠ 0) (h : ib a + ib b <= 1000000 /\ ie a + ie b <= 90000000000000 /\ 0 <= p /\ p <= 1000000) : AC Tryz.prog TabW 145 [ivV a, ivV b, .lit (.int .i64 p)] (ivV (divR a b p)) /\ (((ib (divR a b p) : Nat) : Int) <= max p 0 + 1 /\ ie (divR a b p) <= ie a + ie b + 12 * ib a + 12 * ib b + 6 * p.natAbs + 30) := by
 have ha := aBe a
 have hb := aBe b
 have hr : divR a b p = ⟨lo4 (aCu a.lo b.lo p false) (aCu a.lo b.hi p false) (aCu a.hi b.lo p false) (aCu a.hi b.hi p false), hi4 (aCu a.lo b.lo p true) (aCu a.lo b.hi p true) (aCu a.hi b.lo p true) (aCu a.hi b.hi p true)⟩ := rfl
 have d1 := aD0 a.lo b.lo p false hl (by omega)
 have d2 := aD0 a.lo b.hi p false hh (by omega)
 have d3 := aD0 a.hi b.lo p false hl (by omega)
 have d4 := aD0 a.hi b.hi p false hh (by omega)
 have d5 := aNJ (aCu a.lo b.lo p false) (aCu a.lo b.hi p false) (aCu a.hi b.lo p false) (aCu a.hi b.hi p false) (ds4R (by omega) (by omega) (by omega) (by omega))
 have u1 := aD0 a.lo b.lo p true hl (by omega)
 have u2 := aD0 a.lo b.hi p true hh (by omega)
 have u3 := aD0 a.hi b.lo p true hl (by omega)
 have u4 := aD0 a.hi b.hi p true hh (by omega)
 have u5 := aNJ (aCu a.lo b.lo p true) (aCu a.lo b.hi p true) (aCu a.hi b.lo p true) (aCu a.hi b.hi p true) (ds4R (by omega) (by omega) (by omega) (by omega))
 have hz : ((ib (divR a b p) : Nat) : Int) <= max p 0 + 1 /\ ie (divR a b p) <= ie a + ie b + 12 * ib a + 12 * ib b + 6 * p.natAbs + 30 := by
   rw [hr]
   have e : max p 0 = p := by omega
   rw [e]
   have e1 : p + 1 = ((p.toNat + 1 : Nat) : Int) := by omega
   rw [e] at d1 d2 d3 d4 u1 u2 u3 u4
   have g1 := (aHl (a := aCu a.lo b.lo p false) (b := aCu a.lo b.hi p false) (c := aCu a.hi b.lo p false) (d := aCu a.hi b.hi p false) (B := p.toNat + 1) (E := ie a + ie b + 12 * ib a + 12 * ib b + 6 * p.natAbs + 30) ⟨by have := d1.2.1; omega, by have := d1.2.2; omega⟩ ⟨by have := d2.2.1; omega, by have := d2.2.2; omega⟩ ⟨by have := d3.2.1; omega, by have := d3.2.2; omega⟩ ⟨by have := d4.2.1; omega, by have := d4.2.2; omega⟩).1
   have g2 := (aHl (a := aCu a.lo b.lo p true) (b := aCu a.lo b.hi p true) (c := aCu a.hi b.lo p true) (d := aCu a.hi b.hi p true) (B := p.toNat + 1) (E := ie a + ie b + 12 * ib a + 12 * ib b + 6 * p.natAbs + 30) ⟨by have := u1.2.1; omega, by have := u1.2.2; omega⟩ ⟨by have := u2.2.1; omega, by have := u2.2.2; omega⟩ ⟨by have := u3.2.1; omega, by have := u3.2.2; omega⟩ ⟨by have := u4.2.1; omega, by have := u4.2.2; omega⟩).2
   have g3 := mk_b g1 g2
   refine ⟨?_, g3.2⟩
   rw [e1]
   exact Int.ofNat_le.2 g3.1
 refine ⟨?_, hz⟩
 clear hz
 rw [hr]
 clear hr
 replace d1 := d1.1
 replace d2 := d2.1
 replace d3 := d3.1
 replace d4 := d4.1
 replace u1 := u1.1
 replace u2 := u2.1
 replace u3 := u3.1
 replace u4 := u4.1
 generalize aCu a.lo b.lo p false = D0 at *
 generalize aCu a.lo b.hi p false = D1 at *
 generalize aCu a.hi b.lo p false = D2 at *
 generalize aCu a.hi b.hi p false = D3 at *
 generalize aCu a.lo b.lo p true = U0 at *
 generalize aCu a.lo b.hi p true = U1 at *
 generalize aCu a.hi b.lo p true = U2 at *
 generalize aCu a.hi b.hi p true = U3 at *
 refine aAd Tryz.func145 rfl (by kernel_rfl) aAc Tryz.mixed rfl rfl (by kernel_rfl) ?_
 simp only [aAl, Tryz.ntmps145, dyV, ivV, fxV]
 repeat' first
  | refine aAa fun K g => ?_
  | refine goK (by assumption) ?_
  | (refine aAe ?_; try simp only [aAm, aAg, reduceIte, Nat.reduceEqDiff])
  | ((first
  | refine aAU rfl fun os => ?_
  | refine aCR rfl (by kernel_rfl) fun os => ?_
  | refine cxd (d1) ?_
  | refine cxd (d2) ?_
  | refine cxd (d3) ?_
  | refine cxd (d4) ?_
  | refine cxd (u1) ?_
  | refine cxd (u2) ?_
  | refine cxd (u3) ?_
  | refine cxd (u4) ?_
  | refine cxo (d5) ?_
  | refine cxo (u5) ?_
  | simp only [endX, resX, resV, Tryz.results145]) <;> try (simp (disch := omega) only [xq, simprocAttr, dyV, ivV, fxV]))
  | (first | done | rfl
     done)
end
section
set_option maxRecDepth 10000
set_option maxHeartbeats 1000000
open Go.RowKit
theorem aBD (a : Nat) : IntKind.u64.wrap (((a : Nat) : Int) + 4) = (((a + 4) % W64 : Nat) : Int) := by rw [aCn]; unfold W64; omega
theorem aTT (q : Nat) (h : q <= 10000000) : AC Tryz.prog TabW 190 [.lit (.int .i64 ((q : Nat) : Int))] (fxV (oneF q)) /\ (bl (oneF q).a <= q + 1 /\ (oneF q).e < 18446744073709551616) := by
 have h1 := aD2 1 q
 have h2 : bl 1 = 1 := by decide
 refine ⟨?_, ⟨by show bl (2 ^ q) <= _; rw [Nat.one_mul] at h1; omega, by show 0 < _; decide⟩⟩
 refine aAd Tryz.func190 rfl (by kernel_rfl) aAc Tryz.mixed rfl rfl (by kernel_rfl) ?_
 simp only [aAl, Tryz.ntmps190, dyV, ivV, fxV, fxV]
 refine aAa fun K1 g1 => ?_
 refine aAb fun os => ?_
 try simp (disch := omega) only [xq, simprocAttr, dyV, ivV, fxV, fxV, oneF, Nat.one_mul]
 refine g1 _ ?_
 refine aAa fun K2 g2 => ?_
 refine aAb fun os => ?_
 try simp (disch := omega) only [xq, simprocAttr, dyV, ivV, fxV, fxV, oneF, Nat.one_mul]
 refine cxo (aDE _ (by omega) (by omega)) ?_
 try simp (disch := omega) only [xq, simprocAttr, dyV, ivV, fxV, fxV, oneF, Nat.one_mul]
 refine cxo (aED _ _ (aBf (by omega)) (by omega) (by omega)) ?_
 try simp (disch := omega) only [xq, simprocAttr, dyV, ivV, fxV, fxV, oneF, Nat.one_mul]
 refine g2 _ ?_
 refine aAe ?_
 simp only [endX, resX, resV, Tryz.results190]
 try simp (disch := omega) only [xq, simprocAttr, dyV, ivV, fxV, fxV, oneF, Nat.one_mul]
 first | done | (simp; done) | rfl
theorem aRG (x : Fx) (h : bl x.a <= 40000000 /\ x.e < 18446744073709551616) : AC Tryz.prog TabW 166 [fxV x] (.num (x.a + x.e)) /\ (bl (x.a + x.e) <= max (bl x.a) 64 + 1) := by
 have h1 := aCr x.a x.e
 have h2 := aE0 x.e 64 (by omega)
 refine ⟨?_, by omega⟩
 refine aAd Tryz.func166 rfl (by kernel_rfl) aAc Tryz.mixed rfl rfl (by kernel_rfl) ?_
 simp only [aAl, Tryz.ntmps166, dyV, ivV, fxV, fxV]
 refine aAa fun K1 g1 => ?_
 refine aAb fun os => ?_
 try simp (disch := omega) only [xq, simprocAttr, dyV, ivV, fxV, fxV]
 refine g1 _ ?_
 refine aAa fun K2 g2 => ?_
 refine aAB (by kernel_rfl) fun os => ?_
 try simp (disch := omega) only [xq, simprocAttr, dyV, ivV, fxV, fxV]
 refine cxd (aDE _ (by omega) (by omega)) ?_
 try simp (disch := omega) only [xq, simprocAttr, dyV, ivV, fxV, fxV]
 refine cxd (aD9 _ _ (aBf (by omega)) (aBf (by omega))) ?_
 try simp (disch := omega) only [xq, simprocAttr, dyV, ivV, fxV, fxV]
 refine g2 _ ?_
 refine aAe ?_
 simp only [endX, resX, resV, Tryz.results166]
 try simp (disch := omega) only [xq, simprocAttr, dyV, ivV, fxV, fxV]
 first | done | rfl
theorem aOx (x y : Fx) (h : bl x.a <= 40000000 /\ bl y.a <= 40000000) : AC Tryz.prog TabW 169 [fxV x, fxV y] (fxV (addF x y)) /\ (bl (addF x y).a <= max (bl x.a) (bl y.a) + 1 /\ (addF x y).e < 18446744073709551616) := by
 refine ⟨?_, aCr x.a y.a, e_lt _⟩
 refine aAd Tryz.func169 rfl (by kernel_rfl) aAc Tryz.mixed rfl rfl (by kernel_rfl) ?_
 simp only [aAl, Tryz.ntmps169, dyV, ivV, fxV, fxV]
 refine aAa fun K1 g1 => ?_
 refine aAb fun os => ?_
 try simp (disch := omega) only [xq, simprocAttr, dyV, ivV, fxV, fxV, addE, mulE, aAh, aBD, addF]
 refine g1 _ ?_
 refine aAa fun K2 g2 => ?_
 refine aAB (by kernel_rfl) fun os => ?_
 try simp (disch := omega) only [xq, simprocAttr, dyV, ivV, fxV, fxV, addE, mulE, aAh, aBD, addF]
 refine cxd (aD9 _ _ (aBf (by omega)) (aBf (by omega))) ?_
 try simp (disch := omega) only [xq, simprocAttr, dyV, ivV, fxV, fxV, addE, mulE, aAh, aBD, addF]
 refine g2 _ ?_
 refine aAe ?_
 simp only [endX, resX, resV, Tryz.results169]
 try simp (disch := omega) only [xq, simprocAttr, dyV, ivV, fxV, fxV, addE, mulE, aAh, aBD, addF]
 first | done | rfl
theorem aTS (x y : Fx) (h : bl x.a <= 40000000 /\ bl y.a <= 40000000 /\ y.e < 18446744073709551616) (hs : y.a + y.e <= x.a) : AC Tryz.prog TabW 191 [fxV x, fxV y] (fxV (subF x y)) /\ (bl (subF x y).a <= bl x.a /\ (subF x y).e < 18446744073709551616) := by
 have h1 := aCr y.a y.e
 have h2 := aE0 y.e 64 (by omega)
 refine ⟨?_, aFP _ _, e_lt _⟩
 refine aAd Tryz.func191 rfl (by kernel_rfl) aAc Tryz.mixed rfl rfl (by kernel_rfl) ?_
 simp only [aAl, Tryz.ntmps191, dyV, ivV, fxV, fxV]
 refine aAa fun K1 g1 => ?_
 refine aAb fun os => ?_
 try simp (disch := omega) only [xq, simprocAttr, dyV, ivV, fxV, fxV, addE, mulE, aAh, aBD, subF]
 refine g1 _ ?_
 refine aAa fun K2 g2 => ?_
 refine aAB (by kernel_rfl) fun os => ?_
 try simp (disch := omega) only [xq, simprocAttr, dyV, ivV, fxV, fxV, addE, mulE, aAh, aBD, subF]
 refine cxd (aDE _ (by omega) (by omega)) ?_
 try simp (disch := omega) only [xq, simprocAttr, dyV, ivV, fxV, fxV, addE, mulE, aAh, aBD, subF]
 refine cxd (aD9 _ _ (aBf (by omega)) (aBf (by omega))) ?_
 try simp (disch := omega) only [xq, simprocAttr, dyV, ivV, fxV, fxV, addE, mulE, aAh, aBD, subF]
 refine cxd (aKY _ _ (aBf (by omega)) (aBf (by omega)) (by omega)) ?_
 try simp (disch := omega) only [xq, simprocAttr, dyV, ivV, fxV, fxV, addE, mulE, aAh, aBD, subF]
 refine g2 _ ?_
 refine aAe ?_
 simp only [endX, resX, resV, Tryz.results191]
 try simp (disch := omega) only [xq, simprocAttr, dyV, ivV, fxV, fxV, addE, mulE, aAh, aBD, subF]
 first | done | rfl
theorem aPA (x : Fx) (d : Nat) (h : bl x.a <= 40000000) (hd : 0 < d /\ d < 4294967296) : AC Tryz.prog TabW 189 [fxV x, .lit (.int .u64 ((d : Nat) : Int))] (fxV (aBx x d)) /\ (bl (aBx x d).a <= bl x.a /\ (aBx x d).e < 18446744073709551616) := by
 refine ⟨?_, aJq _ _, e_lt _⟩
 have hd0 : ((d : Nat) : Int) ≠ 0 := by omega
 refine aAd Tryz.func189 rfl (by kernel_rfl) aAc Tryz.mixed rfl rfl (by kernel_rfl) ?_
 simp only [aAl, Tryz.ntmps189, dyV, ivV, fxV, fxV]
 refine aAa fun K1 g1 => ?_
 refine aAb fun os => ?_
 try simp (disch := omega) only [xq, simprocAttr, dyV, ivV, fxV, fxV, addE, mulE, aAh, aBD, aBx, hd0, ne_eq, not_false_eq_true]
 refine g1 _ ?_
 refine aAa fun K2 g2 => ?_
 refine aAB (by kernel_rfl) fun os => ?_
 try simp (disch := omega) only [xq, simprocAttr, dyV, ivV, fxV, fxV, addE, mulE, aAh, aBD, aBx, hd0, ne_eq, not_false_eq_true]
 refine cxd (aPm _ _ (aBf (by omega)) (by omega) (by omega)) ?_
 try simp (disch := omega) only [xq, simprocAttr, dyV, ivV, fxV, fxV, addE, mulE, aAh, aBD, aBx, hd0, ne_eq, not_false_eq_true]
 refine g2 _ ?_
 refine aAe ?_
 simp only [endX, resX, resV, Tryz.results189]
 try simp (disch := omega) only [xq, simprocAttr, dyV, ivV, fxV, fxV, addE, mulE, aAh, aBD, aBx, hd0, ne_eq, not_false_eq_true]
 first | done | rfl
theorem aHE (x : Fx) (n : Nat) (h : bl x.a <= 40000000 /\ n < 18446744073709551616) : AC Tryz.prog TabW 167 [fxV x, .lit (.int .u64 ((n : Nat) : Int))] (fxV (aDU x n)) /\ (bl (aDU x n).a <= bl x.a + 64 /\ (aDU x n).e < 18446744073709551616) := by
 have h1 := aHY x.a n
 have h2 := aE0 n 64 (by omega)
 refine ⟨?_, by show bl (x.a * n) <= _; omega, e_lt _⟩
 refine aAd Tryz.func167 rfl (by kernel_rfl) aAc Tryz.mixed rfl rfl (by kernel_rfl) ?_
 simp only [aAl, Tryz.ntmps167, dyV, ivV, fxV, fxV]
 refine aAa fun K1 g1 => ?_
 refine aAb fun os => ?_
 try simp (disch := omega) only [xq, simprocAttr, dyV, ivV, fxV, fxV, addE, mulE, aAh, aBD, aDU]
 refine g1 _ ?_
 refine aAa fun K2 g2 => ?_
 refine aAB (by kernel_rfl) fun os => ?_
 try simp (disch := omega) only [xq, simprocAttr, dyV, ivV, fxV, fxV, addE, mulE, aAh, aBD, aDU]
 refine cxd (aDE _ (by omega) (by omega)) ?_
 try simp (disch := omega) only [xq, simprocAttr, dyV, ivV, fxV, fxV, addE, mulE, aAh, aBD, aDU]
 refine cxd (aIj _ _ (aBf (by omega)) (aBf (by omega))) ?_
 try simp (disch := omega) only [xq, simprocAttr, dyV, ivV, fxV, fxV, addE, mulE, aAh, aBD, aDU]
 refine g2 _ ?_
 refine aAe ?_
 simp only [endX, resX, resV, Tryz.results167]
 try simp (disch := omega) only [xq, simprocAttr, dyV, ivV, fxV, fxV, addE, mulE, aAh, aBD, aDU]
 first | done | rfl
theorem aG5 (x : Fx) (q : Nat) (h : bl x.a <= 40000000 /\ x.e < 18446744073709551616 /\ q <= 100000000) : AC Tryz.prog TabW 136 [fxV x, .lit (.int .i64 ((q : Nat) : Int))] (ivV (aBt x q)) /\ (ib (aBt x q) <= max (bl x.a) 64 + 1 /\ ie (aBt x q) <= q + max (bl x.a) 64 + 1) := by
 have hs := aIl x q h.2.1
 have g1 := aCr x.a x.e
 have g2 := aE0 x.e 64 (by omega)
 refine ⟨?_, by omega⟩
 have hr : aBt x q = ⟨aAL false x.a (-(q : Int)), aAL false (x.a + x.e) (-(q : Int))⟩ := rfl
 rw [hr]
 clear hr hs
 refine aAd Tryz.func136 rfl (by kernel_rfl) aAc Tryz.mixed rfl rfl (by kernel_rfl) ?_
 simp only [aAl, Tryz.ntmps136, dyV, ivV, fxV, fxV]
 refine aAa fun K1 g1 => ?_
 refine aAb fun os => ?_
 try simp (disch := omega) only [xq, simprocAttr, dyV, ivV, fxV, fxV, Int.zero_sub]
 refine g1 _ ?_
 refine aAa fun K2 g2 => ?_
 refine aAB (by kernel_rfl) fun os => ?_
 try simp (disch := omega) only [xq, simprocAttr, dyV, ivV, fxV, fxV, Int.zero_sub]
 refine cxd (aBZ _ _ _ (aBf (by omega)) (aD4 (by omega))) ?_
 try simp (disch := omega) only [xq, simprocAttr, dyV, ivV, fxV, fxV, Int.zero_sub]
 refine cxdz (aRG _ (by omega)) (fun z1 => ?_)
 try simp (disch := omega) only [xq, simprocAttr, dyV, ivV, fxV, fxV, Int.zero_sub]
 refine cxd (aBZ _ _ _ (aBf (by omega)) (aD4 (by omega))) ?_
 try simp (disch := omega) only [xq, simprocAttr, dyV, ivV, fxV, fxV, Int.zero_sub]
 refine g2 _ ?_
 refine aAe ?_
 simp only [endX, resX, resV, Tryz.results136]
 try simp (disch := omega) only [xq, simprocAttr, dyV, ivV, fxV, fxV, Int.zero_sub]
 first | done | rfl
end
section
set_option maxRecDepth 10000
set_option maxHeartbeats 4000000
open Go.RowKit
theorem aNu {n w : Nat} (hn : 3 <= n) (k : Nat) : bl (invQ n w k).a <= w + 1 /\ (invQ n w k).e <= 3 :=
 ⟨aHe (aDF hn k).2.1, (aDF (w := w) hn k).2.2⟩
theorem aQM {n w : Nat} (hn : 3 <= n) : ∀ k, bl (plQ n w k).a <= w + 1 + k /\ (plQ n w k).e < 18446744073709551616
 | 0 => by have := aNu (w := w) hn 0; simp only [plQ]; omega
 | k + 1 => by
   have h1 := aQM (w := w) hn k
   have h2 := aNu (w := w) hn (k + 1)
   have h3 := aJq (invQ n w (k + 1)).a (2 * k + 3)
   have h4 := aCr (plQ n w k).a ((invQ n w (k + 1)).a / (2 * k + 3))
   exact ⟨by show bl ((plQ n w k).a + (invQ n w (k + 1)).a / (2 * k + 3)) <= _; omega, e_lt _⟩
def aXQ (n w : Nat) (c0 : List AV) (ms : Nat) (σ : St) : Prop := ∃ (t : List (Nat × AV)) (rest : AMem) (k : Nat) (p s : Fx), σ = ⟨t, 57, (136, c0) :: (136, [.num p.a, .lit (.int .u64 ((p.e : Nat) : Int))]) :: (136, [.num s.a, .lit (.int .u64 ((s.e : Nat) : Int))]) :: (136, [.num 0, .lit (.int .u64 0)]) :: rest⟩ /\ getT t 0 = .lit (.int .u64 ((n : Nat) : Int)) /\ getT t 1 = .lit (.bool false) /\ getT t 6 = .ptr 0 0 /\ getT t 7 = .ptr 1 0 /\ getT t 8 = .ptr 2 0 /\ getT t 9 = .ptr 3 0 /\ getT t 10 = .lit (.int .u64 ((2 * k + 3 : Nat) : Int)) /\ (k <= aDe n w) /\ (p = invQ n w k) /\ (s = plQ n w k) /\ ms = aDe n w - k
theorem aHU (n w : Nat) (hn : 3 <= n /\ n <= 16) (hw : 6 <= w /\ w <= 1000000) : AC Tryz.prog TabW 168 [.lit (.int .u64 ((n : Nat) : Int)), .lit (.bool false), .lit (.int .i64 ((w : Nat) : Int))] (fxV (aBT n w)) /\ (bl (aBT n w).a <= 2 * w + 2 /\ (aBT n w).e < 18446744073709551616) := by
 have hp0 : 2 ^ 6 <= 2 ^ w := Nat.pow_le_pow_right (by decide) hw.1
 have hz : bl (aBT n w).a <= 2 * w + 2 /\ (aBT n w).e < 18446744073709551616 := by
   have h1 := aQM (w := w) hn.1 (aDe n w)
   have h2 := (aGC (w := w) hn.1).2.1
   have h3 := aFP (plQ n w (aDe n w)).a (0 + 4 % W64)
   exact ⟨by show bl ((plQ n w (aDe n w)).a - (0 + 4 % W64)) <= _; omega, e_lt _⟩
 refine ⟨?_, hz⟩
 clear hz
 obtain ⟨kf1, kf2, kf3⟩ := aGC (w := w) hn.1
 have isz := fun k => aNu (w := w) hn.1 k
 have psz := fun k => aQM (w := w) hn.1 k
 have hn2 : 0 < n /\ n < 4294967296 := by omega
 have k2 : ∀ k : Nat, IntKind.u64.wrap (((2 * k + 3 : Nat) : Int) + 2) = (((2 * k + 5) % W64 : Nat) : Int) := fun k => by rw [aCn]; unfold W64; omega
 refine aAd Tryz.func168 rfl (by kernel_rfl) aAc Tryz.mixed rfl rfl (by kernel_rfl) ?_
 simp only [aAl, Tryz.ntmps168, dyV, ivV, fxV, fxV]
 repeat' first
  | (refine aDg (aXQ n w _) _ ⟨_, [], 0, _, _, rfl, (by first | rfl | assumption | (simp (disch := omega) only [xq, simprocAttr, dyV, ivV, fxV, fxV, addE, mulE, aAh, aBD] <;> rfl)), (by first | rfl | assumption | (simp (disch := omega) only [xq, simprocAttr, dyV, ivV, fxV, fxV, addE, mulE, aAh, aBD] <;> rfl)), (by first | rfl | assumption | (simp (disch := omega) only [xq, simprocAttr, dyV, ivV, fxV, fxV, addE, mulE, aAh, aBD] <;> rfl)), (by first | rfl | assumption | (simp (disch := omega) only [xq, simprocAttr, dyV, ivV, fxV, fxV, addE, mulE, aAh, aBD] <;> rfl)), (by first | rfl | assumption | (simp (disch := omega) only [xq, simprocAttr, dyV, ivV, fxV, fxV, addE, mulE, aAh, aBD] <;> rfl)), (by first | rfl | assumption | (simp (disch := omega) only [xq, simprocAttr, dyV, ivV, fxV, fxV, addE, mulE, aAh, aBD] <;> rfl)), (by first | rfl | assumption | (simp (disch := omega) only [xq, simprocAttr, dyV, ivV, fxV, fxV, addE, mulE, aAh, aBD] <;> rfl)), (Nat.zero_le _), rfl, rfl, rfl⟩ ?_; rintro ms _ ⟨t, rest, k, p, s, rfl, InvQR_t0, InvQR_t1, InvQR_t6, InvQR_t7, InvQR_t8, InvQR_t9, InvQR_t10, hk, hp, hs, rfl⟩)
  | refine aAa fun K g => ?_
  | refine goK (by assumption) ?_
  | refine aAv ?_
  | ((first | refine aAk ?_ | refine aDh ?_ | refine aAe ?_) <;> try simp only [aAm, aAg, reduceIte, Nat.reduceEqDiff])
  | exact ⟨_, (by omega), ⟨_, _, (k + 1), _, _, rfl, (by first | rfl | assumption | (simp (disch := omega) only [xq, simprocAttr, dyV, ivV, fxV, fxV, addE, mulE, aAh, aBD, InvQR_t0, InvQR_t1, InvQR_t6, InvQR_t7, InvQR_t8, InvQR_t9, InvQR_t10] <;> rfl)), (by first | rfl | assumption | (simp (disch := omega) only [xq, simprocAttr, dyV, ivV, fxV, fxV, addE, mulE, aAh, aBD, InvQR_t0, InvQR_t1, InvQR_t6, InvQR_t7, InvQR_t8, InvQR_t9, InvQR_t10] <;> rfl)), (by first | rfl | assumption | (simp (disch := omega) only [xq, simprocAttr, dyV, ivV, fxV, fxV, addE, mulE, aAh, aBD, InvQR_t0, InvQR_t1, InvQR_t6, InvQR_t7, InvQR_t8, InvQR_t9, InvQR_t10] <;> rfl)), (by first | rfl | assumption | (simp (disch := omega) only [xq, simprocAttr, dyV, ivV, fxV, fxV, addE, mulE, aAh, aBD, InvQR_t0, InvQR_t1, InvQR_t6, InvQR_t7, InvQR_t8, InvQR_t9, InvQR_t10] <;> rfl)), (by first | rfl | assumption | (simp (disch := omega) only [xq, simprocAttr, dyV, ivV, fxV, fxV, addE, mulE, aAh, aBD, InvQR_t0, InvQR_t1, InvQR_t6, InvQR_t7, InvQR_t8, InvQR_t9, InvQR_t10] <;> rfl)), (by first | rfl | assumption | (simp (disch := omega) only [xq, simprocAttr, dyV, ivV, fxV, fxV, addE, mulE, aAh, aBD, InvQR_t0, InvQR_t1, InvQR_t6, InvQR_t7, InvQR_t8, InvQR_t9, InvQR_t10] <;> rfl)), (by first | rfl | assumption | (simp (disch := omega) only [xq, simprocAttr, dyV, ivV, fxV, fxV, addE, mulE, aAh, aBD, InvQR_t0, InvQR_t1, InvQR_t6, InvQR_t7, InvQR_t8, InvQR_t9, InvQR_t10] <;> rfl)), (by omega), (by rw [hp]; rfl), (by rw [hs, hp]; rfl), rfl⟩⟩
  | (refine aAU (id := 5) rfl fun os => ?_
     have i1 := isz k
     have i2 := isz (k + 1)
     have v1 := psz k
     have hne : (invQ n w k).a ≠ 0 := by
       rw [<- hp]
       exact (len0 _).1 (by omega)
     have hlt : k < aDe n w := Nat.lt_of_le_of_ne hk (fun e => hne (by rw [e]; exact kf1))
     have hkk : 0 < 2 * k + 3 /\ 2 * k + 3 < 4294967296 := by omega
     rw [<- hp] at i1
     rw [<- hs] at v1
     have k3 : IntKind.u64.wrap (((2 * k + 3 : Nat) : Int) + 2) = ((2 * (k + 1) + 3 : Nat) : Int) := by rw [aCn]; omega
     simp (disch := omega) only [xq, simprocAttr, dyV, ivV, fxV, fxV, addE, mulE, aAh, aBD, InvQR_t0, InvQR_t1, InvQR_t6, InvQR_t7, InvQR_t8, InvQR_t9, InvQR_t10, k3])
  | (refine aAU (id := 11) rfl fun os => ?_
     have hkz : k = aDe n w := by
       rcases Nat.lt_or_ge k (aDe n w) with h | h
       · exact absurd ((len0 p.a).2 (by rw [hp]; exact kf3 k h)) (by omega)
       · omega
     have v1 := psz k
     rw [<- hs] at v1
     have hge := aQN n w k
     rw [<- hs] at hge
     have h64 : 4 <= 2 ^ w / n := (Nat.le_div_iff_mul_le (by omega)).2 (by omega)
     have hsub1 : bl (aBJ s 4).a <= 40000000 /\ bl (aBJ ⟨0, 0⟩ 4).a <= 40000000 /\ (aBJ ⟨0, 0⟩ 4).e < 18446744073709551616 := ⟨by show bl s.a <= _; omega, by decide, by decide⟩
     have hsub2 : (aBJ ⟨0, 0⟩ 4).a + (aBJ ⟨0, 0⟩ 4).e <= (aBJ s 4).a := by
                                                                                   show 0 + 4 % W64 <= s.a; have : 0 + 4 % W64 = 4 := by decide
                                                                                   omega
     simp (disch := omega) only [xq, simprocAttr, dyV, ivV, fxV, fxV, addE, mulE, aAh, aBD, InvQR_t0, InvQR_t1, InvQR_t6, InvQR_t7, InvQR_t8, InvQR_t9, InvQR_t10])
  | ((first
  | refine aAU rfl fun os => ?_
  | refine aB7 ?_
  | refine cxoz (aTT _ (by omega)) (fun z => ?_)
  | refine cxoz (aPA _ _ (by omega) (by omega)) (fun z => ?_)
  | refine cxoz (aOx _ _ (by omega)) (fun z => ?_)
  | refine cxoz (aTS (aBJ s 4) (aBJ ⟨0, 0⟩ 4) hsub1 hsub2) (fun z => ?_)
  | simp only [endX, resX, resV, Tryz.results168]) <;> try (first | simp (disch := omega) only [xq, simprocAttr, dyV, ivV, fxV, fxV, addE, mulE, aAh, aBD, InvQR_t0, InvQR_t1, InvQR_t6, InvQR_t7, InvQR_t8, InvQR_t9, InvQR_t10] | simp (disch := omega) only [xq, simprocAttr, dyV, ivV, fxV, fxV, addE, mulE, aAh, aBD]))
  | (refine gx (fun c => ?_) (fun c => ?_) <;> first | exact absurd c (by decide) | ((try rw [c]); (try simp only [xn] at c); try (first | simp (disch := omega) only [xq, simprocAttr, dyV, ivV, fxV, fxV, addE, mulE, aAh, aBD, InvQR_t0, InvQR_t1, InvQR_t6, InvQR_t7, InvQR_t8, InvQR_t9, InvQR_t10] | simp (disch := omega) only [xq, simprocAttr, dyV, ivV, fxV, fxV, addE, mulE, aAh, aBD])))
  | (refine aAf (by first | rfl | assumption) (fun c => ?_) (fun c => ?_) <;> first | exact absurd c (by decide) | ((try rw [c]); try simp only [xn] at c))
  | (rw [hs, hkz]
     rfl)
theorem aLi (w : Nat) (hw : 6 <= w /\ w <= 1000000) : AC Tryz.prog TabW 137 [.lit (.int .i64 ((w : Nat) : Int))] (fxV (ln2Q w)) /\ (bl (ln2Q w).a <= 2 * w + 66 /\ (ln2Q w).e < 18446744073709551616) := by
 have c1 := aHU 3 w (by decide) hw
 have c2 := aHE (aBT 3 w) 2 (by omega)
 have hr : ln2Q w = aDU (aBT 3 w) 2 := rfl
 rw [hr]
 refine ⟨?_, by omega⟩
 refine aAd Tryz.func137 rfl (by kernel_rfl) aAc Tryz.mixed rfl rfl (by kernel_rfl) ?_
 simp only [aAl, Tryz.ntmps137, dyV, ivV, fxV, fxV]
 refine aAa fun K1 g1 => ?_
 refine aAb fun os => ?_
 try simp (disch := omega) only [xq, simprocAttr, dyV, ivV, fxV, fxV]
 refine g1 _ ?_
 refine aAa fun K2 g2 => ?_
 refine aAb fun os => ?_
 try simp (disch := omega) only [xq, simprocAttr, dyV, ivV, fxV, fxV]
 refine cxo (c1.1) ?_
 try simp (disch := omega) only [xq, simprocAttr, dyV, ivV, fxV, fxV]
 refine cxo (c2.1) ?_
 try simp (disch := omega) only [xq, simprocAttr, dyV, ivV, fxV, fxV]
 refine g2 _ ?_
 refine aAe ?_
 simp only [endX, resX, resV, Tryz.results137]
 try simp (disch := omega) only [xq, simprocAttr, dyV, ivV, fxV, fxV]
 first | done | rfl
theorem aMo (w : Nat) (hw : 6 <= w /\ w <= 1000000) : AC Tryz.prog TabW 138 [.lit (.int .i64 ((w : Nat) : Int))] (fxV (aFG w)) /\ (bl (aFG w).a <= 2 * w + 132 /\ (aFG w).e < 18446744073709551616) := by
 have c0 := aLi w hw
 have c1 := aHU 9 w (by decide) hw
 have c2 := aHE (aBT 9 w) 2 (by omega)
 have c3 := aHE (ln2Q w) 3 (by omega)
 have c4 := aOx (aDU (ln2Q w) 3) (aDU (aBT 9 w) 2) (by omega)
 have hr : aFG w = addF (aDU (ln2Q w) 3) (aDU (aBT 9 w) 2) := rfl
 rw [hr]
 refine ⟨?_, by omega⟩
 refine aAd Tryz.func138 rfl (by kernel_rfl) aAc Tryz.mixed rfl rfl (by kernel_rfl) ?_
 simp only [aAl, Tryz.ntmps138, dyV, ivV, fxV, fxV]
 refine aAa fun K1 g1 => ?_
 refine aAb fun os => ?_
 try simp (disch := omega) only [xq, simprocAttr, dyV, ivV, fxV, fxV]
 refine g1 _ ?_
 refine aAa fun K2 g2 => ?_
 refine aAb fun os => ?_
 try simp (disch := omega) only [xq, simprocAttr, dyV, ivV, fxV, fxV]
 refine cxo (c0.1) ?_
 try simp (disch := omega) only [xq, simprocAttr, dyV, ivV, fxV, fxV]
 refine cxo (c3.1) ?_
 try simp (disch := omega) only [xq, simprocAttr, dyV, ivV, fxV, fxV]
 refine cxo (c1.1) ?_
 try simp (disch := omega) only [xq, simprocAttr, dyV, ivV, fxV, fxV]
 refine cxo (c2.1) ?_
 try simp (disch := omega) only [xq, simprocAttr, dyV, ivV, fxV, fxV]
 refine cxo (c4.1) ?_
 try simp (disch := omega) only [xq, simprocAttr, dyV, ivV, fxV, fxV]
 refine g2 _ ?_
 refine aAe ?_
 simp only [endX, resX, resV, Tryz.results138]
 try simp (disch := omega) only [xq, simprocAttr, dyV, ivV, fxV, fxV]
 first | done | rfl
end
section
set_option maxRecDepth 100000
set_option maxHeartbeats 1000000
open Go.RowKit
theorem aKv {w w0 : World} {ops : Array Oper} {rest : List Oper} {o : Oper} {a : Act} {Q : Exit -> Act -> World -> Prop} (hgd : o.guard = none) (s x : Operand) (t : TypeId)
   (ho : o.op = .call { callee := .builtin .append, args := #[s, x], argTypes := #[t, t] }) (ht : Tryz.prog.underlying t = some (.slice 23))
   (g : Nat) (hs : a.eval s = .slice (some ⟨g, 0, none⟩) 0 0) (hg : w.heap[g]? = some (.cells #[] 23 (0, 0))) (hBg : w0.heap.size <= g) (hb : Below w0.heap.size w0 w) (lo : Nat) (l : List Nat) (hx : aAE lo w (a.eval x) l) (hl : l.length <= 17592186044416)
   (h : ∀ v' w', w'.ownsRow w0.heap.size 23 1 v' l.length (aC5 l) -> Below w0.heap.size w0 w' -> wpList Tryz.prog ops Q rest (a.put o.dst v') w') : wpList Tryz.prog ops Q (o :: rest) a w := by
 obtain ⟨i0, hi, hz0, hz1, hz2⟩ := info_parts Tryz.infoW
 obtain ⟨p, cap, hxe, hcap, hcm, ⟨hok, hnil⟩, hc⟩ := hx
 have hown : w.ownsRow w0.heap.size 23 1 (.slice (some ⟨g, 0, none⟩) 0 0) 0 [] := ⟨rfl, .inr ⟨g, 0, #[], rfl, hBg, hg, Nat.le_refl _, Nat.zero_le _, rfl, rfl⟩⟩
 refine wpList_plain hgd fun K hK => ?_
 cases p with
 | none =>
   obtain rfl := hnil rfl
   obtain rfl : l = [] := List.eq_nil_of_length_eq_zero (by omega)
   have hr := run_append_owned_none (P := Tryz.prog) (w := w) w0.heap.size t o.type 23 i0 1 ht hi _ 0 [] hown
   unfold Oper.wp execOp
   simp only [ho, resolve, invoke, builtin, Sem.run_bind, Sem.run_pure, Result.andThen_ok, List.map_toArray, List.map_cons, List.map_nil, hs, hxe, List.length_nil, hr]
   exact hK _ _ (h _ _ hown hb)
 | some ad =>
   have hcell : ∀ j u, (aC5 l)[j]? = some u -> w.cell? (ad.add j) = some u := by
     intro j u hu
     obtain ⟨hj, rfl⟩ := aIA hu
     obtain ⟨b, off, e, _, hcc⟩ := hc j hj
     have e := Option.some.inj e
     subst e
     rw [aLv]; exact hcc
   have hml : 0 + l.length <= maxLen := by simp only [maxLen]; omega
   obtain ⟨v', w', hr, h2, h3, _⟩ := run_append_own (P := Tryz.prog) w w0.heap.size t o.type 23 i0 (.int .u64 0) 1 8 ht hi hz0 hz1 hz2 rfl (by decide) _ 0 [] hown ad l.length cap (aC5 l) (by rw [aDi, Nat.mul_one]) hcell aIz
     hml (by omega) hb.size
   unfold Oper.wp execOp
   simp only [ho, resolve, invoke, builtin, Sem.run_bind, Sem.run_pure, Result.andThen_ok, List.map_toArray, List.map_cons, List.map_nil, hs, hxe, hr]
   rw [List.nil_append, Nat.zero_add] at h2
   refine hK _ _ (h v' w' h2 (hb.trans ⟨h3.os, h3.tape, h3.output, h3.size, fun k hk => h3.block k (Nat.lt_of_lt_of_le hk hb.size) (by simp [Value.ownBlock]; omega)⟩))
def aWo (g : Nat) (w : World) (x : List Nat) (d : Nat) (R : Array Value) (u7 u6 : Value) (wr : World) : Prop :=
 ∃ (k r : Nat) (z : List Nat), k <= x.length /\ u7 = .int .i64 (((k : Nat) : Int) - 1) /\ u6 = .int .u64 ((r : Nat) : Int) /\ r < d /\ z.length = x.length /\ okW z /\ vd x k = vd z k * d + r /\ (∀ i, i < k -> gw z i = gw x i) /\ Blk wr g (wArr z ++ R) 23 /\ Below w.heap.size w wr
theorem aT7 {g : Nat} {w wr : World} {x z : List Nat} {R : Array Value} {d m r q r' : Nat} {e : Int} (hm : m < x.length) (he : e = ((m : Nat) : Int) - 1) (hd : r < d) (hdd : d < 18446744073709551616) (hok : okW x) (hq : q = (r * 18446744073709551616 + gw x m) / d) (hr : r' = (r * 18446744073709551616 + gw x m) % d)
   (hzl : z.length = x.length) (hzo : okW z) (hv : vd x (m + 1) = vd z (m + 1) * d + r) (hs : ∀ i, i < m + 1 -> gw z i = gw x i) (hz : Blk wr g (wArr (z.set m q) ++ R) 23) (hb : Below w.heap.size w wr) : aWo g w x d R (.int .i64 e) (.int .u64 ((r' : Nat) : Int)) wr := by
 have hx := aA3 hok m
 have hqlt : q < 18446744073709551616 := by
   rw [hq, Nat.div_lt_iff_lt_mul (by omega)]
   have : (r + 1) * 18446744073709551616 <= d * 18446744073709551616 := Nat.mul_le_mul_right _ hd
   rw [Nat.mul_comm d] at this
   omega
 refine ⟨m, r', z.set m q, by omega, by rw [he], rfl, by rw [hr]; exact Nat.mod_lt _ (by omega), by rw [List.length_set]; exact hzl, aCk hzo _ _ hqlt, ?_, fun i hi => by rw [aBH _ _ _ _ (by omega)]; exact hs i (by omega), hz, hb⟩
 have h1 := Nat.div_add_mod (r * 18446744073709551616 + gw x m) d
 rw [<- hq, <- hr] at h1
 rw [aIC x m hm, aIC (z.set m q) m (by rw [List.length_set]; omega), aP0, aBa _ _ _ (by omega), hv]
 clear hq hr hz hb hs
 generalize vd z (m + 1) = V at *
 generalize gw x m = t at *
 grind
theorem aT8 {w : World} {g : Nat} {z : List Nat} {R : Array Value} {e : TypeId} (h : Blk w g (wArr z ++ R) e) (i x : Nat) (hi : i < z.length) : Blk (w.setCell ⟨g, i, none⟩ (.int .u64 ((x : Nat) : Int))) g (wArr (z.set i x) ++ R) e := by
 have := h.set i (.int .u64 ((x : Nat) : Int))
 rwa [Array.setIfInBounds_append_left (by simp [wArr]; exact hi), aN1 z i x _ rfl] at this
theorem aLH (z : List Nat) (R : Array Value) (i : Nat) (h : i < z.length) : (wArr z ++ R)[i]? = some (.int .u64 ((gw z i : Nat) : Int)) := by
 rw [Array.getElem?_append_left (by simp [wArr]; exact h), aBK z i h]
theorem aPW {lo : Nat} {w : World} {g cap : Nat} {z : List Nat} {R : Array Value} {e : TypeId} (h : Blk w g (wArr z ++ R) e) (hlo : lo <= g) (hz : okW z) (hc : z.length <= cap) (hm : cap <= 9223372036854775807) : aAE lo w (.slice (some ⟨g, 0, none⟩) z.length cap) z :=
 ⟨_, cap, rfl, hc, hm, ⟨hz, fun e => by cases e⟩, fun i hi => ⟨g, 0, rfl, hlo, by rw [Nat.zero_add]; exact h.cell i _ (aLH z R i hi)⟩⟩
theorem aUq (lo : Nat) (a : Value) (l : List Nat) (d : Nat) (w : World) (ha : aAE lo w a l) (hl : l.length <= 1000000000) (h0 : 0 < d) (hd : d < 4294967296) :
   Calls Tryz.prog 171 #[a, .int .u64 ((d : Nat) : Int)] w (aCW w w.heap.size (valN l / d)) := by
 have hok := ha.ok
 have hal := ha.call ((Below.refl w.heap.size w).alloc (Nat.le_refl _) (.cells #[] 23))
 have HA := Lib.hid hal
 clear ha hal
 go_enter Tryz.func171, Tryz.ntmps171
 go_wp2_with (at_builtin; refine aKv rfl _ _ _ rfl Tryz.underlying25 w.heap.size rfl (heap_alloc_new w _) (Nat.le_refl _) ((Below.refl _ _).alloc (Nat.le_refl _) _) lo _ HA.out (by omega) ?_; intro v' w' hv' hb'; obtain ⟨x', c', rfl⟩ := aFu hv'; replace hv' := Lib.hid hv')
 by_cases hz : l.length = 0
 · obtain rfl : l = [] := List.eq_nil_of_length_eq_zero hz
   have HW := Lib.hid (aAE.ofRow hv'.out (Nat.le_refl _) hok)
   clear hv'
   go_loopw [6, 7, 8, 9, 10] (fun _ u7 _ _ _ wr => u7 = .int .i64 (-1) /\ Hid (aAE w.heap.size wr (.slice x' 0 c') []) /\ Below w.heap.size w wr) (fun _ _ _ _ _ _ => 0)
   case atStart => exact ⟨rfl, HW, hb'⟩
   case round =>
     obtain ⟨rfl, hW, hbl⟩ := hrel
     have hN := aBN w.heap.size _ [] wr hW.out (by decide)
     have hq : valN [] = valN [] / d := by simp [valN]
     rw [hq] at hN
     have HN := Lib.hid hN
     clear hN hq
     go_wp2_with fail
     refine HN.out.mono ?_
     rintro e w3 ⟨v, rfl, hvv, hb3⟩
     go_wp2_with fail
     go_ret
     exact ⟨_, rfl, hvv.mono hbl.size, hbl.trans (hb3.mono hbl.size)⟩
 · obtain ⟨g, R, hx', hBg, hblk, hcn, hcm⟩ : ∃ g R, x' = some ⟨g, 0, none⟩ /\ w.heap.size <= g /\ Blk w' g (wArr l ++ R) 23 /\ l.length <= c' /\ c' <= 9223372036854775807 := by
     obtain ⟨_, h | ⟨g, cap, cur, e, h1, h2, h3, h4, h5, h6⟩⟩ := hv'.out
     · exact absurd h.2 hz
     · injection e with e1 e2 e3
       refine ⟨g, (cur.toList.drop l.length).toArray, e1, h1, ?_, by omega, by unfold maxLen at h4; omega⟩
       have : cur = wArr l ++ (cur.toList.drop l.length).toArray := by
         rw [Nat.mul_one] at h6
         rw [<- aLG, <- h6, List.append_toArray, List.take_append_drop]
       unfold Blk
       rw [<- this]; exact h2
   subst hx'
   have HB := Lib.hid hblk
   clear hv' hblk
   go_loopw [6, 7, 8, 9, 10] (fun u6 u7 _ _ _ wr => aWo g w l d R u7 u6 wr) (fun _ u7 _ _ _ _ => (intOf u7 + 1).toNat)
   case atStart => exact ⟨l.length, 0, l, Nat.le_refl _, rfl, rfl, h0, rfl, hok, by rw [aJR l _ (Nat.le_refl _)]; simp, fun _ _ => rfl, HB.out, hb'⟩
   case round =>
     obtain ⟨k, r, z, hk, rfl, rfl, hr, hzl, hzo, hv, hsm, hz, hbl⟩ := hrel
     have HV := Lib.hid hv
     have HZ := Lib.hid hzl
     have HS := Lib.hid hsm
     clear hv hzl hsm
     by_cases hk0 : k = 0
     · subst hk0
       have hw2 := aPW (lo := w.heap.size) (cap := c') hz hBg hzo (by have := HZ.out; omega) hcm
       rw [HZ.out] at hw2
       have hq : valN z = valN l / d := by
         have := HV.out
         rw [aEh, aEh, Nat.mul_comm] at this
         rw [this, Nat.mul_add_div h0, Nat.div_eq_of_lt hr, Nat.add_zero]
       have hN := aBN w.heap.size _ z wr hw2 (by have := HZ.out; omega)
       rw [hq] at hN
       have HN := Lib.hid hN
       clear hq hN
       go_wp2_with fail
       refine HN.out.mono ?_
       rintro e w3 ⟨v, rfl, hvv, hb3⟩
       go_wp2_with fail
       go_ret
       exact ⟨_, rfl, hvv.mono hbl.size, hbl.trans (hb3.mono hbl.size)⟩
     · obtain ⟨m, rfl⟩ : ∃ m, k = m + 1 := ⟨k - 1, by omega⟩
       have hcast : (((m + 1 : Nat) : Int) - 1) = ((m : Nat) : Int) := by omega
       rw [hcast]
       clear hcast
       have hxi := aA3 hok m
       have hmz : m < z.length := by have := HZ.out; omega
       have zc := hz.cell m _ (aLH z R m hmz)
       rw [HS.out m (by omega)] at zc
       have zf := hz.free m
       have hcl : ∀ q r' : Nat, q = (r * 18446744073709551616 + gw l m) / d -> r' = (r * 18446744073709551616 + gw l m) % d -> ∀ (wr2 : World) (e : Int), e = ((m : Nat) : Int) - 1 -> Blk wr2 g (wArr (z.set m q) ++ R) 23 -> Below w.heap.size w wr2 -> aWo g w l d R (.int .i64 e) (.int .u64 ((r' : Nat) : Int)) wr2 :=
         fun q r' h1 h2 wr2 e he h3 h4 => aT7 (by omega) he hr (by omega) hok h1 h2 HZ.out hzo HV.out HS.out h3 h4
       have HCL := Lib.hid hcl
       clear hcl
       have hml : m < l.length := by omega
       generalize gw l m = g' at *
       obtain ⟨a1, ha1⟩ : ∃ v, g' / 4294967296 = v := ⟨_, rfl⟩
       obtain ⟨a0, ha0⟩ : ∃ v, g' % 4294967296 = v := ⟨_, rfl⟩
       obtain ⟨t0, ht0⟩ : ∃ v, r * 4294967296 = v := ⟨_, rfl⟩
       obtain ⟨high, hhigh⟩ : ∃ v, t0 + a1 = v := ⟨_, rfl⟩
       obtain ⟨hq, hhq⟩ : ∃ v, high / d = v := ⟨_, rfl⟩
       obtain ⟨hm, hhm⟩ : ∃ v, high % d = v := ⟨_, rfl⟩
       obtain ⟨t1, ht1⟩ : ∃ v, hm * 4294967296 = v := ⟨_, rfl⟩
       obtain ⟨low, hlow⟩ : ∃ v, t1 + a0 = v := ⟨_, rfl⟩
       obtain ⟨lq, hlq⟩ : ∃ v, low / d = v := ⟨_, rfl⟩
       obtain ⟨lr, hlr⟩ : ∃ v, low % d = v := ⟨_, rfl⟩
       obtain ⟨t2, ht2⟩ : ∃ v, hq * 4294967296 = v := ⟨_, rfl⟩
       obtain ⟨qv, hqv⟩ : ∃ v, t2 + lq = v := ⟨_, rfl⟩
       have hdm := Nat.div_add_mod high d
       have hmd := Nat.mod_lt high h0
       have hld := Nat.mod_lt low h0
       rw [hhq, hhm] at hdm
       rw [hhm] at hmd
       rw [hlr] at hld
       have hhqb : hq < 4294967296 := by
         rw [<- hhq, Nat.div_lt_iff_lt_mul h0, Nat.mul_comm]
         have : (r + 1) * 4294967296 <= d * 4294967296 := Nat.mul_le_mul_right _ hr
         omega
       have hlqb : lq < 4294967296 := by
         rw [<- hlq, Nat.div_lt_iff_lt_mul h0, Nat.mul_comm]
         have : (hm + 1) * 4294967296 <= d * 4294967296 := Nat.mul_le_mul_right _ hmd
         omega
       obtain ⟨hd1, hd2⟩ := aJ8 (r := r) (g := g') (a1 := a1) (a0 := a0) (high := high) h0 (by omega) (by omega) hdm.symm (by omega : low = hm * 4294967296 + a0)
       rw [hlq, ht2, hqv] at hd1
       rw [hlr] at hd2
       have HF := Lib.hid (fun wr2 e he h3 h4 => HCL.out qv lr hd1 hd2 wr2 e he h3 h4)
       have i1 : ((g' : Nat) : Int) / 4294967296 = ((a1 : Nat) : Int) := by omega
       have i2 : ((g' : Nat) : Int) % 4294967296 = ((a0 : Nat) : Int) := by omega
       have i3 : ((high : Nat) : Int) / ((d : Nat) : Int) = ((hq : Nat) : Int) := by rw [<- hhq]; simp
       have i4 : ((high : Nat) : Int) % ((d : Nat) : Int) = ((hm : Nat) : Int) := by rw [<- hhm]; simp
       have i5 : ((low : Nat) : Int) / ((d : Nat) : Int) = ((lq : Nat) : Int) := by rw [<- hlq]; simp
       have i6 : ((low : Nat) : Int) % ((d : Nat) : Int) = ((lr : Nat) : Int) := by rw [<- hlr]; simp
       have w1 : IntKind.u64.wrap (((r : Nat) : Int) * 4294967296) = ((t0 : Nat) : Int) := by rw [IntKind.wrap_u64]; omega
       have w2 : IntKind.u64.wrap ((a1 : Nat) : Int) = ((a1 : Nat) : Int) := aE3 (by omega)
       have w3 : IntKind.u64.wrap (((t0 : Nat) : Int) + ((a1 : Nat) : Int)) = ((high : Nat) : Int) := by rw [IntKind.wrap_u64]; omega
       have w4 : IntKind.u64.wrap (((hm : Nat) : Int) * 4294967296) = ((t1 : Nat) : Int) := by rw [IntKind.wrap_u64]; omega
       have w5 : IntKind.u64.wrap (((t1 : Nat) : Int) + ((a0 : Nat) : Int)) = ((low : Nat) : Int) := by rw [IntKind.wrap_u64]; omega
       have w6 : IntKind.u64.wrap ((hq : Nat) : Int) = ((hq : Nat) : Int) := aE3 (by omega)
       have w7 : IntKind.u64.wrap (((hq : Nat) : Int) * 4294967296) = ((t2 : Nat) : Int) := by rw [IntKind.wrap_u64]; omega
       have w8 : IntKind.u64.wrap ((lq : Nat) : Int) = ((lq : Nat) : Int) := aE3 (by omega)
       have w9 : IntKind.u64.wrap (((t2 : Nat) : Int) + ((lq : Nat) : Int)) = ((qv : Nat) : Int) := by rw [IntKind.wrap_u64]; omega
       clear HCL ha1 ha0 ht0 hhigh hhq hhm ht1 hlow hlq hlr ht2 hqv hdm hmd hld hhqb hlqb hd1 hd2
       have hdi : (0 : Int) < ((d : Nat) : Int) := by omega
       go_wp2_with fail
       go_quiet (fail)
       go_wp2_with fail
       rw [i6]
       exact ⟨HF.out _ _ rfl (aT8 (hz.drewN _) _ _ hmz) ((hbl.trans (aBQ _ _ _)).setCell hBg _), by simp [intOf]⟩
end
section
set_option maxRecDepth 10000
set_option maxHeartbeats 4000000
open Go.RowKit
theorem aTi (a d : Nat) (ha : Sr a) (h0 : 0 < d) (hd : d < 4294967296) : AC Tryz.prog TabW 171 [.num a, .lit (.int .u64 ((d : Nat) : Int))] (.num (a / d)) := by
 refine ⟨by kernel_rfl, fun S β w vs hI hS h => ?_⟩
 simp only [RepL, Rep] at h
 obtain ⟨va, _, rfl, h1, _, _, rfl, rfl, rfl⟩ := h
 have := aUq 0 va _ d w h1.1 (by have := aDl ha; omega) h0 hd
 rw [aAi] at this
 exact this.mono fun e w' h => aCC hS h
theorem aLc {d : D} {w : Nat} (h0 : 0 <= d.v) (h8 : d.v * 256 <= 1) : aBc d w * 256 <= 2 ^ w := by
 obtain ⟨f1, _⟩ := aNx (w := w) h0
 apply Rat.natCast_le_natCast.1
 rw [Rat.natCast_mul]
 have := Rat.mul_le_mul_of_nonneg_right h8 (Rat.le_of_lt (aCS w))
 have e : ((256 : Nat) : Rat) = 256 := rfl
 rw [e]; grind
theorem tQ_b {r w more : Nat} (hr : r * 256 <= 2 ^ w) : ∀ k, tQ r w more k * 2 ^ k <= 2 ^ w
 | 0 => by simp [tQ]
 | k + 1 => by
   have ih := tQ_b (more := more) hr k
   have h1 := Nat.div_mul_le_self (tQ r w more k * r) (2 ^ w)
   have hp : 0 < 2 ^ w := Nat.pow_pos (by decide)
   simp only [tQ]
   generalize tQ r w more k = T at *
   have h2 : T * r / 2 ^ w * 256 <= T := by
     refine Nat.le_of_mul_le_mul_right ?_ hp
     calc T * r / 2 ^ w * 256 * 2 ^ w = T * r / 2 ^ w * 2 ^ w * 256 := by rw [Nat.mul_right_comm]
       _ <= T * r * 256 := Nat.mul_le_mul_right _ h1
       _ = T * (r * 256) := by rw [Nat.mul_assoc]
       _ <= T * 2 ^ w := Nat.mul_le_mul_left _ hr
   have h3 : T * r / 2 ^ w / (k + 1 + more) <= T * r / 2 ^ w := Nat.div_le_self _ _
   generalize T * r / 2 ^ w = q at *
   generalize q / (k + 1 + more) = q' at *
   have h4 : q * 256 * 2 ^ k <= T * 2 ^ k := Nat.mul_le_mul_right _ h2
   have h5 : q' * 2 ^ (k + 1) <= q * 2 ^ (k + 1) := Nat.mul_le_mul_right _ h3
   have h6 : q * 2 ^ (k + 1) <= q * 256 * 2 ^ k := by rw [Nat.pow_succ, Nat.mul_assoc, Nat.mul_comm (2 ^ k) 2]; exact Nat.mul_le_mul_left _ (Nat.mul_le_mul_right _ (by decide))
   omega
theorem aWw {r w more : Nat} (hr : r * 256 <= 2 ^ w) (k : Nat) : bl (tQ r w more k) <= w + 1 := aHe (tQ_b hr k)
theorem aVd {r w more : Nat} (hr : r * 256 <= 2 ^ w) : ∀ k, bl (sQ r w more k) <= w + 1 + k
 | 0 => by have := aE0 (2 ^ w) (w + 1) (Nat.pow_lt_pow_right (by decide) (by omega)); simpa only [sQ] using this
 | k + 1 => by
   have h1 := aVd (more := more) hr k
   have h2 := aWw (more := more) hr (k + 1)
   have h3 := aCr (sQ r w more k) (tQ r w more (k + 1))
   simp only [sQ]; omega
theorem nQ_z {r w more : Nat} (hr : r * 256 <= 2 ^ w) : tQ r w more (nQ r w more) = 0 /\ nQ r w more <= w + 1 /\ ∀ j, j < nQ r w more -> tQ r w more j ≠ 0 := by
 obtain ⟨a, _, b, c⟩ := aDH (tQ r w more) (aGx (tQ_b (more := more) hr (w + 1))) (w + 1) 0 (by omega) (by omega)
 exact ⟨a, b, fun j hj => c j (by omega) hj⟩
theorem aGz (d : D) (w : Nat) (h : bl d.m <= 9000000 /\ ae d <= 9000000 /\ w <= 1000000) : AC Tryz.prog TabW 142 [dyV d, .lit (.int .i64 ((w : Nat) : Int))] (.num (aBc d w)) := by
 have hr : aBc d w = aEv (oneD d).m ((oneD d).e + (w : Int)) := rfl
 rw [hr]
 clear hr
 have o1 := aCw d (by omega)
 generalize oneD d = x at *
 have ex : ae x = x.e.natAbs := rfl
 have ed : ae d = d.e.natAbs := rfl
 refine aAd Tryz.func142 rfl (by kernel_rfl) aAc Tryz.mixed rfl rfl (by kernel_rfl) ?_
 simp only [aAl, Tryz.ntmps142, dyV, ivV, fxV, fxV]
 refine aAa fun K1 g1 => ?_
 refine aAb fun os => ?_
 try simp (disch := omega) only [xq, simprocAttr, dyV, ivV, fxV, fxV]
 refine g1 _ ?_
 refine aAa fun K2 g2 => ?_
 refine aAb fun os => ?_
 try simp (disch := omega) only [xq, simprocAttr, dyV, ivV, fxV, fxV]
 refine cxo (o1.1) ?_
 try simp (disch := omega) only [xq, simprocAttr, dyV, ivV, fxV, fxV]
 refine g2 _ ?_
 refine aAa fun K3 g3 => ?_
 refine aAb fun os => ?_
 try simp (disch := omega) only [xq, simprocAttr, dyV, ivV, fxV, fxV]
 refine cxo (aMA _ _ (by omega)) ?_
 try simp (disch := omega) only [xq, simprocAttr, dyV, ivV, fxV, fxV]
 refine g3 _ ?_
 refine aAa fun K4 g4 => ?_
 refine aAb fun os => ?_
 try simp (disch := omega) only [xq, simprocAttr, dyV, ivV, fxV, fxV]
 refine g4 _ ?_
 refine aAe ?_
 simp only [endX, resX, resV, Tryz.results142]
 try simp (disch := omega) only [xq, simprocAttr, dyV, ivV, fxV, fxV]
 first | done | rfl
def aWh (r w more : Nat) (ms : Nat) (σ : St) : Prop := ∃ (t : List (Nat × AV)) (rest : AMem) (k : Nat), σ = ⟨t, 45, rest⟩ /\ getT t 0 = .num r /\ getT t 1 = .lit (.int .i64 ((w : Nat) : Int)) /\ getT t 2 = .lit (.int .u64 ((more : Nat) : Int)) /\ getT t 8 = .num (tQ r w more k) /\ getT t 9 = .num (sQ r w more k) /\ getT t 10 = .lit (.int .u64 ((k : Nat) : Int)) /\ (k <= nQ r w more) /\ ms = nQ r w more - k
theorem aGy (r w more : Nat) (hr : r * 256 <= 2 ^ w) (hw : w <= 1000000) (hm : more <= 100) : AC Tryz.prog TabW 141 [.num (r), .lit (.int .i64 ((w : Nat) : Int)), .lit (.int .u64 ((more : Nat) : Int))] (.tup [.num (sQ r w more (nQ r w more)), .num (sQ r w more (nQ r w more) + (2 * nQ r w more + 8))]) /\ (bl (sQ r w more (nQ r w more)) <= 2 * w + 2 /\ bl (sQ r w more (nQ r w more) + (2 * nQ r w more + 8)) <= 2 * w + 70) := by
 obtain ⟨n1, n2, n3⟩ := nQ_z (more := more) hr
 have tsz := fun k => aWw (more := more) hr k
 have ssz := fun k => aVd (more := more) hr k
 have hrb : bl r <= w := aC8 (by have : 0 < 2 ^ w := Nat.pow_pos (by decide); omega)
 have b1 : bl 1 = 1 := by decide
 have e1 : (1 : Int).toNat = 1 := rfl
 have z1 := ssz (nQ r w more)
 have z2 := aE0 (2 * nQ r w more + 8) 64 (by omega)
 have z3 := aCr (sQ r w more (nQ r w more)) (2 * nQ r w more + 8)
 refine ⟨?_, by omega⟩
 clear z3
 refine aAd Tryz.func141 rfl (by kernel_rfl) aAc Tryz.mixed rfl rfl (by kernel_rfl) ?_
 simp only [aAl, Tryz.ntmps141, dyV, ivV, fxV, fxV]
 repeat' first
  | (refine aDg (aWh r w more) _ ⟨_, [], 0, rfl, (by first | rfl | assumption | (simp (disch := omega) only [xq, simprocAttr, dyV, ivV, fxV, fxV, addE, mulE, aAh, aBD, e1, Nat.one_mul, tQ, sQ, Nat.one_mul] <;> rfl)), (by first | rfl | assumption | (simp (disch := omega) only [xq, simprocAttr, dyV, ivV, fxV, fxV, addE, mulE, aAh, aBD, e1, Nat.one_mul, tQ, sQ, Nat.one_mul] <;> rfl)), (by first | rfl | assumption | (simp (disch := omega) only [xq, simprocAttr, dyV, ivV, fxV, fxV, addE, mulE, aAh, aBD, e1, Nat.one_mul, tQ, sQ, Nat.one_mul] <;> rfl)), (by first | rfl | assumption | (simp (disch := omega) only [xq, simprocAttr, dyV, ivV, fxV, fxV, addE, mulE, aAh, aBD, e1, Nat.one_mul, tQ, sQ, Nat.one_mul] <;> rfl)), (by first | rfl | assumption | (simp (disch := omega) only [xq, simprocAttr, dyV, ivV, fxV, fxV, addE, mulE, aAh, aBD, e1, Nat.one_mul, tQ, sQ, Nat.one_mul] <;> rfl)), (by first | rfl | assumption | (simp (disch := omega) only [xq, simprocAttr, dyV, ivV, fxV, fxV, addE, mulE, aAh, aBD, e1, Nat.one_mul, tQ, sQ, Nat.one_mul] <;> rfl)), (Nat.zero_le _), rfl⟩ ?_; rintro ms _ ⟨t, rest, k, rfl, SmallQR_t0, SmallQR_t1, SmallQR_t2, SmallQR_t8, SmallQR_t9, SmallQR_t10, hk, rfl⟩)
  | refine aAa fun K g => ?_
  | refine goK (by assumption) ?_
  | refine aAv ?_
  | ((first | refine aAk ?_ | refine aDh ?_ | refine aAe ?_) <;> try simp only [aAm, aAg, reduceIte, Nat.reduceEqDiff])
  | exact ⟨_, (by omega), ⟨_, _, (k + 1), rfl, (by first | rfl | assumption | (simp (disch := omega) only [xq, simprocAttr, dyV, ivV, fxV, fxV, addE, mulE, aAh, aBD, e1, Nat.one_mul, SmallQR_t0, SmallQR_t1, SmallQR_t2, SmallQR_t8, SmallQR_t9, SmallQR_t10, tQ, sQ, hk1] <;> rfl)), (by first | rfl | assumption | (simp (disch := omega) only [xq, simprocAttr, dyV, ivV, fxV, fxV, addE, mulE, aAh, aBD, e1, Nat.one_mul, SmallQR_t0, SmallQR_t1, SmallQR_t2, SmallQR_t8, SmallQR_t9, SmallQR_t10, tQ, sQ, hk1] <;> rfl)), (by first | rfl | assumption | (simp (disch := omega) only [xq, simprocAttr, dyV, ivV, fxV, fxV, addE, mulE, aAh, aBD, e1, Nat.one_mul, SmallQR_t0, SmallQR_t1, SmallQR_t2, SmallQR_t8, SmallQR_t9, SmallQR_t10, tQ, sQ, hk1] <;> rfl)), (by first | rfl | assumption | (simp (disch := omega) only [xq, simprocAttr, dyV, ivV, fxV, fxV, addE, mulE, aAh, aBD, e1, Nat.one_mul, SmallQR_t0, SmallQR_t1, SmallQR_t2, SmallQR_t8, SmallQR_t9, SmallQR_t10, tQ, sQ, hk1] <;> rfl)), (by first | rfl | assumption | (simp (disch := omega) only [xq, simprocAttr, dyV, ivV, fxV, fxV, addE, mulE, aAh, aBD, e1, Nat.one_mul, SmallQR_t0, SmallQR_t1, SmallQR_t2, SmallQR_t8, SmallQR_t9, SmallQR_t10, tQ, sQ, hk1] <;> rfl)), (by first | rfl | assumption | (simp (disch := omega) only [xq, simprocAttr, dyV, ivV, fxV, fxV, addE, mulE, aAh, aBD, e1, Nat.one_mul, SmallQR_t0, SmallQR_t1, SmallQR_t2, SmallQR_t8, SmallQR_t9, SmallQR_t10, tQ, sQ, hk1] <;> rfl)), (by omega), rfl⟩⟩
  | (refine aAU (id := 5) rfl fun os => ?_
     have i1 := tsz k
     have v1 := ssz k
     have i2 := tsz (k + 1)
     have hne : tQ r w more k ≠ 0 := (len0 _).1 (by omega)
     have hlt : k < nQ r w more := Nat.lt_of_le_of_ne hk (fun e => hne (by rw [e]; exact n1))
     have m1 := aHY (tQ r w more k) r
     have m2 := aHX (tQ r w more k * r) w
     have hk1 : IntKind.u64.wrap (((k : Nat) : Int) + 1) = ((k + 1 : Nat) : Int) := by rw [aCn]; omega
     have hk2 : IntKind.u64.wrap (((k + 1 : Nat) : Int) + ((more : Nat) : Int)) = ((k + 1 + more : Nat) : Int) := by rw [aCn]; omega
     have eT : tQ r w more (k + 1) = tQ r w more k * r / 2 ^ w / (k + 1 + more) := rfl
     rw [eT] at i2
     simp (disch := omega) only [xq, simprocAttr, dyV, ivV, fxV, fxV, addE, mulE, aAh, aBD, e1, Nat.one_mul, SmallQR_t0, SmallQR_t1, SmallQR_t2, SmallQR_t8, SmallQR_t9, SmallQR_t10, hk1, hk2])
  | (refine aAU (id := 9) rfl fun os => ?_
     have hkz : k = nQ r w more := by
       rcases Nat.lt_or_ge k (nQ r w more) with h | h
       · exact absurd ((len0 _).2 (n3 k h)) (by omega)
       · omega
     have v1 := ssz k
     have hk3 : IntKind.u64.wrap (IntKind.u64.wrap (2 * ((k : Nat) : Int)) + 8) = ((2 * k + 8 : Nat) : Int) := by rw [aCn, aCn]; omega
     have hk4 : ((2 * k + 8 : Nat) : Int).toNat = 2 * k + 8 := rfl
     have hk5 : bl (2 * k + 8) <= 64 := aC8 (by omega)
     simp (disch := omega) only [xq, simprocAttr, dyV, ivV, fxV, fxV, addE, mulE, aAh, aBD, e1, Nat.one_mul, SmallQR_t0, SmallQR_t1, SmallQR_t2, SmallQR_t8, SmallQR_t9, SmallQR_t10, hk3, hk4])
  | ((first
  | refine aAU rfl fun os => ?_
  | refine cxo (aDE _ (by omega) (by omega)) ?_
  | refine cxo (aED _ _ (aBf (by omega)) (by omega) (by omega)) ?_
  | refine cxo (aIj _ _ (aBf (by omega)) (aBf (by omega))) ?_
  | refine cxo (aKZ _ _ (aBf (by omega)) (by omega) (by omega)) ?_
  | refine cxo (aTi _ _ (aBf (by omega)) (by omega) (by omega)) ?_
  | refine cxo (aD9 _ _ (aBf (by omega)) (aBf (by omega))) ?_
  | simp only [endX, resX, resV, Tryz.results141]) <;> try (first | simp (disch := omega) only [xq, simprocAttr, dyV, ivV, fxV, fxV, addE, mulE, aAh, aBD, e1, Nat.one_mul, SmallQR_t0, SmallQR_t1, SmallQR_t2, SmallQR_t8, SmallQR_t9, SmallQR_t10] | simp (disch := omega) only [xq, simprocAttr, dyV, ivV, fxV, fxV, addE, mulE, aAh, aBD, e1, Nat.one_mul]))
  | (refine aAf (by first | rfl | assumption) (fun c => ?_) (fun c => ?_) <;> first | exact absurd c (by decide) | ((try rw [c]); try simp only [xn] at c))
  | (rw [hkz]
     done)
theorem aHt (a b w : Nat) (h : bl a <= 10000000 /\ bl b <= 10000000 /\ w <= 10000000) : AC Tryz.prog TabW 143 [.num (a), .num (b), .lit (.int .i64 ((w : Nat) : Int))] (ivV ⟨aAL false a (-(w : Int)), aAL false b (-(w : Int))⟩) /\ (ib ⟨aAL false a (-(w : Int)), aAL false b (-(w : Int))⟩ <= max (bl a) (bl b) /\ ie ⟨aAL false a (-(w : Int)), aAL false b (-(w : Int))⟩ <= w + max (bl a) (bl b)) := by
 have h1 := aBp false a (-(w : Int))
 have h2 := aBp false b (-(w : Int))
 refine ⟨?_, mk_b (by omega) (by omega)⟩
 clear h1 h2
 refine aAd Tryz.func143 rfl (by kernel_rfl) aAc Tryz.mixed rfl rfl (by kernel_rfl) ?_
 simp only [aAl, Tryz.ntmps143, dyV, ivV, fxV, fxV]
 refine aAa fun K1 g1 => ?_
 refine aAb fun os => ?_
 try simp (disch := omega) only [xq, simprocAttr, dyV, ivV, fxV, fxV, Int.zero_sub]
 refine g1 _ ?_
 refine aAa fun K2 g2 => ?_
 refine aAb fun os => ?_
 try simp (disch := omega) only [xq, simprocAttr, dyV, ivV, fxV, fxV, Int.zero_sub]
 refine cxo (aBZ _ _ _ (aBf (by omega)) (aD4 (by omega))) ?_
 try simp (disch := omega) only [xq, simprocAttr, dyV, ivV, fxV, fxV, Int.zero_sub]
 refine cxo (aBZ _ _ _ (aBf (by omega)) (aD4 (by omega))) ?_
 try simp (disch := omega) only [xq, simprocAttr, dyV, ivV, fxV, fxV, Int.zero_sub]
 refine g2 _ ?_
 refine aAe ?_
 simp only [endX, resX, resV, Tryz.results143]
 try simp (disch := omega) only [xq, simprocAttr, dyV, ivV, fxV, fxV, Int.zero_sub]
 first | done | rfl
theorem aL5  : AC Tryz.prog TabW 140 [] (ivV (aAn (intD 1))) := by
 have h1 := aB4 1 (by omega)
 have h2 := aEZ (intD 1) (by omega)
 refine aAd Tryz.func140 rfl (by kernel_rfl) aAc Tryz.mixed rfl rfl (by kernel_rfl) ?_
 simp only [aAl, Tryz.ntmps140, dyV, ivV, fxV, fxV]
 refine aAa fun K1 g1 => ?_
 refine aAb fun os => ?_
 try simp (disch := omega) only [xq, simprocAttr, dyV, ivV, fxV, fxV]
 refine g1 _ ?_
 refine aAa fun K2 g2 => ?_
 refine aAb fun os => ?_
 try simp (disch := omega) only [xq, simprocAttr, dyV, ivV, fxV, fxV]
 refine cxo (h1.1) ?_
 try simp (disch := omega) only [xq, simprocAttr, dyV, ivV, fxV, fxV]
 refine cxo (h2.1) ?_
 try simp (disch := omega) only [xq, simprocAttr, dyV, ivV, fxV, fxV]
 refine g2 _ ?_
 refine aAe ?_
 simp only [endX, resX, resV, Tryz.results140]
 try simp (disch := omega) only [xq, simprocAttr, dyV, ivV, fxV, fxV]
 first | done | rfl
end
section
open Go.RowKit
theorem aUQ {d : D} {n : Nat} (h0 : d.m ≠ 0) (h1 : p2 (-(n : Int)) <= d.av) (h2 : d.av <= p2 n) : ae d <= n + bl d.m + 1 := by
 have t1 := aFq h0
 have t2 := aFk d
 have a1 : topD d <= n := aFC.1 (Rat.le_trans t1 h2)
 have a2 : -(n : Int) <= topD d + 1 := aFC.1 (Rat.le_trans h1 (Rat.le_of_lt t2))
 unfold topD at a1 a2
 unfold ae
 omega
def BI (v : Iv) (n : Nat) : Prop := p2 (1 - (n : Int)) <= v.lo.v /\ v.lo.v <= v.hi.v /\ v.hi.v <= p2 ((n : Int) - 1)
theorem BI.sz {v : Iv} {n : Nat} (h : BI v n) : ie v <= n + ib v + 1 := by
 obtain ⟨h1, h2, h3⟩ := h
 have hv := aBe v
 have p0 := aAz (1 - (n : Int))
 have l0 : 0 < v.lo.v := by grind
 have g0 : 0 < v.hi.v := by grind
 have e1 := aBh v.lo
 have e2 := aBh v.hi
 rw [if_neg (by grind)] at e1 e2
 have m1 : v.lo.m ≠ 0 := fun e => by rw [aBL.2 e] at l0; exact absurd l0 (Rat.lt_irrefl)
 have m2 : v.hi.m ≠ 0 := fun e => by rw [aBL.2 e] at g0; exact absurd g0 (Rat.lt_irrefl)
 have q1 : p2 (-(n : Int)) <= p2 (1 - (n : Int)) := aA7 (by omega)
 have q2 : p2 ((n : Int) - 1) <= p2 n := aA7 (by omega)
 have b1 := aUQ (n := n) m1 (by rw [e1]; grind) (by rw [e1]; grind)
 have b2 := aUQ (n := n) m2 (by rw [e2]; grind) (by rw [e2]; grind)
 have := mk_b (a := v.lo) (b := v.hi) (B := ib v) (E := n + ib v + 1) (by omega) (by omega)
 exact this.2
theorem BI.times {v : Iv} {n : Nat} (h : BI v n) {p : Int} (hp : 2 <= p) : BI (aAF v v p) (2 * n) := by
 obtain ⟨h1, h2, h3⟩ := h
 have p0 := aAz (1 - (n : Int))
 have l0 : 0 < v.lo.v := by grind
 obtain ⟨a1, a2, a3, a4⟩ := aDj (p := p) (by omega) l0 l0 h2 h2
 have hε : p2 (1 - p) <= 1 / 2 := by
   have := aA7 (show 1 - p <= -((1 : Nat) : Int) by omega)
   have e := (aCi 1 (k := 2) rfl).2
   have e2 : ((2 : Nat) : Rat) = 2 := rfl
   rw [e2] at e; grind
 have hε0 := aAz (1 - p)
 have e1 : p2 (1 - ((2 * n : Nat) : Int)) * 2 = p2 (1 - (n : Int)) * p2 (1 - (n : Int)) := by
   rw [<- aA9, <- aIX, <- aA9]; congr 1; omega
 have e2 : p2 (((2 * n : Nat) : Int) - 1) = p2 ((n : Int) - 1) * p2 ((n : Int) - 1) * 2 := by
   rw [<- aA9, <- aIX, <- aA9]; congr 1; omega
 have m1 := aAO h1 h1 (Rat.le_of_lt p0) (Rat.le_of_lt l0)
 have m2 := aAO h3 h3 (show 0 <= v.hi.v by grind) (Rat.le_of_lt (aAz ((n : Int) - 1)))
 have l1 : 0 < v.lo.v * v.lo.v := Rat.mul_pos l0 l0
 have l2 : 0 < v.hi.v * v.hi.v := Rat.mul_pos (by grind) (by grind)
 have k1 := Rat.mul_le_mul_of_nonneg_left (show 1 / 2 <= 1 - p2 (1 - p) by grind) (Rat.le_of_lt l1)
 have k2 := Rat.mul_le_mul_of_nonneg_left (show 1 + p2 (1 - p) <= 2 by grind) (Rat.le_of_lt l2)
 have hll : v.lo.v * v.lo.v <= v.hi.v * v.hi.v := aAO h2 h2 (Rat.le_of_lt l0) (by grind)
 exact ⟨by grind, by grind, by grind⟩
theorem aWz {r w more : Nat} (hr : r * 256 <= 2 ^ w) : ∀ k, sQ r w more k * 2 ^ k + 2 ^ w <= 2 ^ w * 2 ^ (k + 1)
 | 0 => by simp only [sQ]; omega
 | k + 1 => by
   have h1 := aWz (more := more) hr k
   have h2 := tQ_b (more := more) hr (k + 1)
   simp only [sQ]
   rw [Nat.add_mul]
   have e1 : sQ r w more k * 2 ^ (k + 1) = 2 * (sQ r w more k * 2 ^ k) := by rw [Nat.pow_succ, <- Nat.mul_assoc, Nat.mul_comm]
   have e2 : 2 ^ w * 2 ^ (k + 1 + 1) = 2 * (2 ^ w * 2 ^ (k + 1)) := by rw [Nat.pow_succ 2 (k + 1), <- Nat.mul_assoc, Nat.mul_comm]
   omega
theorem sQ_2 {r w more : Nat} (hr : r * 256 <= 2 ^ w) (k : Nat) : sQ r w more k <= 2 * 2 ^ w := by
 have h := aWz (more := more) hr k
 refine Nat.le_of_mul_le_mul_right (c := 2 ^ k) ?_ (Nat.two_pow_pos k)
 have e : 2 ^ w * 2 ^ (k + 1) = 2 * 2 ^ w * 2 ^ k := by rw [Nat.pow_succ, <- Nat.mul_assoc, Nat.mul_comm (2 ^ w * 2 ^ k) 2, Nat.mul_assoc]
 omega
theorem sQ_1 {r w more : Nat} : ∀ k, 2 ^ w <= sQ r w more k
 | 0 => Nat.le_refl _
 | k + 1 => by have := sQ_1 (r := r) (w := w) (more := more) k; simp only [sQ]; omega
theorem aVp {w : Nat} : ∀ (_ : 8 <= w), 2 * w + 10 <= 2 * 2 ^ w := fun h => by
 have : w < 2 ^ w := Nat.lt_two_pow_self
 have h8 : 2 ^ 8 <= 2 ^ w := Nat.pow_le_pow_right (by decide) h
 have : w + 5 <= 2 ^ w := by
   obtain ⟨j, rfl⟩ : ∃ j, w = j + 8 := ⟨w - 8, by omega⟩
   have : j < 2 ^ j := Nat.lt_two_pow_self
   rw [Nat.pow_add]
   have : 2 ^ 8 = 256 := by decide
   omega
 omega
theorem aIE {r w : Nat} (hr : r * 256 <= 2 ^ w) (hw : 8 <= w) : BI (aCb r w 0) 3 /\ ib (aCb r w 0) <= 2 * w + 70 := by
 have h1 := sQ_1 (r := r) (w := w) (more := 0) (nQ r w 0)
 have h2 := sQ_2 (more := 0) hr (nQ r w 0)
 have h3 := (nQ_z (more := 0) hr).2.1
 have h4 := aVp hw
 have z1 := aVd (more := 0) hr (nQ r w 0)
 have z2 := aE0 (2 * nQ r w 0 + 8) (w + 10) (by rw [Nat.pow_add]; omega)
 have z3 := aCr (sQ r w 0 (nQ r w 0)) (2 * nQ r w 0 + 8)
 have f1 := aBp false (sQ r w 0 (nQ r w 0)) (-(w : Int))
 have f2 := aBp false (sQ r w 0 (nQ r w 0) + (2 * nQ r w 0 + 8)) (-(w : Int))
 refine ⟨?_, ?_⟩
 · have hp := aAz (-(w : Int))
   have e := aDA (w : Int)
   rw [aBE] at e
   have c1 : ((2 ^ w : Nat) : Rat) <= (sQ r w 0 (nQ r w 0) : Rat) := Rat.natCast_le_natCast.2 h1
   have c2 : ((sQ r w 0 (nQ r w 0) + (2 * nQ r w 0 + 8) : Nat) : Rat) <= ((4 * 2 ^ w : Nat) : Rat) := Rat.natCast_le_natCast.2 (by omega)
   have c3 : (sQ r w 0 (nQ r w 0) : Rat) <= ((sQ r w 0 (nQ r w 0) + (2 * nQ r w 0 + 8) : Nat) : Rat) := Rat.natCast_le_natCast.2 (by omega)
   rw [Rat.natCast_mul] at c2
   have e4 : ((4 : Nat) : Rat) = 4 := rfl
   rw [e4] at c2
   have vlo : (aCb r w 0).lo.v = (sQ r w 0 (nQ r w 0) : Rat) * p2 (-(w : Int)) := by
     show (aAL false _ _).v = _
     rw [aCy]; have : sg false = 1 := rfl; grind
   have vhi : (aCb r w 0).hi.v = ((sQ r w 0 (nQ r w 0) + (2 * nQ r w 0 + 8) : Nat) : Rat) * p2 (-(w : Int)) := by
     show (aAL false _ _).v = _
     rw [aCy]; have : sg false = 1 := rfl; grind
   have g1 := Rat.mul_le_mul_of_nonneg_right c1 (Rat.le_of_lt hp)
   have g2 := Rat.mul_le_mul_of_nonneg_right c2 (Rat.le_of_lt hp)
   have g3 := Rat.mul_le_mul_of_nonneg_right c3 (Rat.le_of_lt hp)
   have p1 : p2 (1 - ((3 : Nat) : Int)) <= 1 := by have := aA7 (show (1 - ((3 : Nat) : Int)) <= 0 by omega); rwa [aCt] at this
   have p4 : p2 (((3 : Nat) : Int) - 1) = 4 := (aCi 2 (k := 4) rfl).1
   unfold BI
   rw [vlo, vhi, p4]
   exact ⟨by grind, g3, by grind⟩
 · exact Nat.max_le.2 ⟨by show bl (aAL false _ _).m <= _; omega, by show bl (aAL false _ _).m <= _; omega⟩
theorem aUw {w : Nat} : ∀ (k : Nat) (v : Iv) (n : Nat), BI v n -> ib v <= 2 * w + 70 -> BI (sqI ((w : Nat) + 8 : Int) k v) (n * 2 ^ k) /\ ib (sqI ((w : Nat) + 8 : Int) k v) <= 2 * w + 70
 | 0, v, n, h1, h2 => ⟨by simpa only [sqI, Nat.pow_zero, Nat.mul_one] using h1, h2⟩
 | k + 1, v, n, h1, h2 => by
   have ht := aGT v v ((w : Nat) + 8 : Int)
   have := aUw (w := w) k (aAF v v ((w : Nat) + 8 : Int)) (2 * n) (h1.times (by omega)) (by omega)
   simp only [sqI]
   rw [show n * 2 ^ (k + 1) = 2 * n * 2 ^ k from by rw [Nat.pow_succ, Nat.mul_comm 2 n, Nat.mul_assoc, Nat.mul_comm 2 (2 ^ k)]]
   exact this
theorem aNd {i : Nat} (h : i <= 22) : 2 ^ i <= 4194304 := Nat.le_trans (Nat.pow_le_pow_right (by decide) h) (by decide)
theorem aJy {a : D} (ht : topD a <= 13 \/ a.m = 0) : aAH a <= 22 := by unfold aAH; split <;> omega
theorem aL1 {a : D} {p : Nat} (hn : a.neg = false) (ht : topD a <= 13 \/ a.m = 0) (hp : p <= 8000) : BI (aAN a p) 12582912 /\ ib (aAN a p) <= 16300 := by
 have hs := aJy ht
 obtain ⟨h0, h8⟩ := aFY hn
 unfold aAN
 obtain ⟨w, hw⟩ : ∃ w : Nat, p + 2 * aAH a + 64 = w := ⟨_, rfl⟩
 rw [hw]
 have h1 := aIE (w := w) (aLc h0 h8) (by omega)
 have h2 := aUw (w := w) (aAH a) _ 3 h1.1 h1.2
 have h3 := aNd hs
 refine ⟨?_, by omega⟩
 obtain ⟨b1, b2, b3⟩ := h2.1
 refine ⟨Rat.le_trans (aA7 ?_) b1, b2, Rat.le_trans b3 (aA7 ?_)⟩ <;> omega
end
section
set_option maxRecDepth 10000
set_option maxHeartbeats 4000000
open Go.RowKit
def aXO (a : D) (PQ : Iv) (p s : Nat) (c0 : List AV) (ms : Nat) (σ : St) : Prop := ∃ (t : List (Nat × AV)) (rest : AMem) (i : Nat) (v : Iv), σ = ⟨t, 49, (27, c0) :: (29, [.lit (.bool false), .num 0, .lit (.int .i64 0), .lit (.bool false), .num 0, .lit (.int .i64 0)]) :: (29, [.lit (.bool v.lo.neg), .num v.lo.m, .lit (.int .i64 v.lo.e), .lit (.bool v.hi.neg), .num v.hi.m, .lit (.int .i64 v.hi.e)]) :: rest⟩ /\ getT t 4 = .ptr 1 0 /\ getT t 9 = .ptr 2 0 /\ getT t 6 = .lit (.int .i64 ((p + 64 : Nat) : Int)) /\ getT t 5 = .lit (.int .i64 (0 : Int)) /\ getT t 10 = .lit (.int .i64 ((i : Nat) : Int)) /\ (i <= 0) /\ (sqI (((p + 64 : Nat) : Int) + 8) (0 - i) v = PQ) /\ (ib v <= 2 * (p + 64) + 70) /\ (BI v (3 * 2 ^ i)) /\ ms = 0 - i
theorem aVt (a : D) (p : Nat) (hm : a.m = 0) (hn : a.neg = false) (ht : topD a <= 13 \/ a.m = 0) (hp : p <= 8000) (h : bl a.m <= 1000000 /\ ae a <= 5000000) : AC Tryz.prog TabW 146 [dyV a, .lit (.int .i64 ((p : Nat) : Int))] (ivV (aAN a p)) := by
 have hs22 := aJy ht
 obtain ⟨h0, h8⟩ := aFY hn
 have hav0 : aAN a p = sqI ((p + 2 * aAH a + 64 : Nat) + 8 : Int) (aAH a) (aCb (aBc (aAs a (-(aAH a : Int))) (p + 2 * aAH a + 64)) (p + 2 * aAH a + 64) 0) := rfl
 have hzr := aFN a (by omega)
 rw [show (a.m == 0) = true from by simpa using hm] at hzr
 rw [show aAH a = 0 from by unfold aAH; rw [if_pos hm]] at *
 have h0 : 0 <= (aAs a 0).v := h0
 have h8 : (aAs a 0).v * 256 <= 1 := h8
 have hsh := aHF a (0) (by omega)
 have hfx := aGz (aAs a (0)) (p + 64) (by omega)
 have hfb := aLc (w := p + 64) h0 h8
 have hsm := aGy (aBc (aAs a (0)) (p + 64)) (p + 64) 0 hfb (by omega) (by omega)
 have hsp := aHt (sQ (aBc (aAs a (0)) (p + 64)) (p + 64) 0 (nQ (aBc (aAs a (0)) (p + 64)) (p + 64) 0)) (sQ (aBc (aAs a (0)) (p + 64)) (p + 64) 0 (nQ (aBc (aAs a (0)) (p + 64)) (p + 64) 0) + (2 * nQ (aBc (aAs a (0)) (p + 64)) (p + 64) 0 + 8)) (p + 64) (by omega)
 have hb0 := aIE (w := p + 64) hfb (by omega)
 have htop := aGf a (by omega)
 have hw : ((p : Nat) : Int) + 64 = ((p + 64 : Nat) : Int) := by omega
 have hav : sqI (((p + 64 : Nat) : Int) + 8) (0 - 0) (aCb (aBc (aAs a (0)) (p + 64)) (p + 64) 0) = aAN a p := hav0.symm
 have hq : ∀ F W : Nat, aCb F W 0 = ⟨aAL false (sQ F W 0 (nQ F W 0)) (-(W : Int)), aAL false (sQ F W 0 (nQ F W 0) + (2 * nQ F W 0 + 8)) (-(W : Int))⟩ := fun _ _ => rfl
 rw [hq] at hav hb0
 clear hq hav0
 generalize aBc (aAs a (0)) (p + 64) = F at *
 generalize sQ F (p + 64) 0 (nQ F (p + 64) 0) + (2 * nQ F (p + 64) 0 + 8) = Hq at *
 generalize sQ F (p + 64) 0 (nQ F (p + 64) 0) = Lq at *
 generalize aAs a (0) = ash at *
 generalize aAN a p = PQ at *
 refine aAd Tryz.func146 rfl (by kernel_rfl) aAc Tryz.mixed rfl rfl (by kernel_rfl) ?_
 simp only [aAl, Tryz.ntmps146, dyV, ivV, fxV, fxV]
 repeat' first
  | (refine aDg (aXO a PQ p 0 _) _ ⟨_, [], 0, _, rfl, (by first | rfl | assumption | (simp (disch := omega) only [xq, simprocAttr, dyV, ivV, fxV, fxV, maxE, hw, Int.add_zero, Int.mul_zero, Int.zero_sub, Int.neg_zero] <;> rfl)), (by first | rfl | assumption | (simp (disch := omega) only [xq, simprocAttr, dyV, ivV, fxV, fxV, maxE, hw, Int.add_zero, Int.mul_zero, Int.zero_sub, Int.neg_zero] <;> rfl)), (by first | rfl | assumption | (simp (disch := omega) only [xq, simprocAttr, dyV, ivV, fxV, fxV, maxE, hw, Int.add_zero, Int.mul_zero, Int.zero_sub, Int.neg_zero] <;> rfl)), (by first | rfl | assumption | (simp (disch := omega) only [xq, simprocAttr, dyV, ivV, fxV, fxV, maxE, hw, Int.add_zero, Int.mul_zero, Int.zero_sub, Int.neg_zero] <;> rfl)), (by first | rfl | assumption | (simp (disch := omega) only [xq, simprocAttr, dyV, ivV, fxV, fxV, maxE, hw, Int.add_zero, Int.mul_zero, Int.zero_sub, Int.neg_zero] <;> rfl)), (Nat.zero_le _), hav, hb0.2, hb0.1, rfl⟩ ?_; rintro ms _ ⟨t, rest, i, v, rfl, Pos0R_t4, Pos0R_t9, Pos0R_t6, Pos0R_t5, Pos0R_t10, hi, hv, hs1, hs2, rfl⟩)
  | refine aAa fun K g => ?_
  | refine goK (by assumption) ?_
  | refine aAv ?_
  | ((first | refine aAk ?_ | refine aDh ?_ | refine aAe ?_) <;> try simp only [aAm, aAg, reduceIte, Nat.reduceEqDiff])
  | exact ⟨_, (by omega), ⟨_, _, (i + 1), (aAF v v (((p + 64 : Nat) : Int) + 8)), rfl, (by first | rfl | assumption | (simp (disch := omega) only [xq, simprocAttr, dyV, ivV, fxV, fxV, maxE, hw, Int.add_zero, Int.mul_zero, Int.zero_sub, Int.neg_zero, Pos0R_t4, Pos0R_t9, Pos0R_t6, Pos0R_t5, Pos0R_t10] <;> rfl)), (by first | rfl | assumption | (simp (disch := omega) only [xq, simprocAttr, dyV, ivV, fxV, fxV, maxE, hw, Int.add_zero, Int.mul_zero, Int.zero_sub, Int.neg_zero, Pos0R_t4, Pos0R_t9, Pos0R_t6, Pos0R_t5, Pos0R_t10] <;> rfl)), (by first | rfl | assumption | (simp (disch := omega) only [xq, simprocAttr, dyV, ivV, fxV, fxV, maxE, hw, Int.add_zero, Int.mul_zero, Int.zero_sub, Int.neg_zero, Pos0R_t4, Pos0R_t9, Pos0R_t6, Pos0R_t5, Pos0R_t10] <;> rfl)), (by first | rfl | assumption | (simp (disch := omega) only [xq, simprocAttr, dyV, ivV, fxV, fxV, maxE, hw, Int.add_zero, Int.mul_zero, Int.zero_sub, Int.neg_zero, Pos0R_t4, Pos0R_t9, Pos0R_t6, Pos0R_t5, Pos0R_t10] <;> rfl)), (by first | rfl | assumption | (simp (disch := omega) only [xq, simprocAttr, dyV, ivV, fxV, fxV, maxE, hw, Int.add_zero, Int.mul_zero, Int.zero_sub, Int.neg_zero, Pos0R_t4, Pos0R_t9, Pos0R_t6, Pos0R_t5, Pos0R_t10] <;> rfl)), (by omega), (by rw [<- hv, show 0 - i = (0 - (i + 1)) + 1 from by omega]; rfl), (by omega), (by rw [Nat.pow_succ, show 3 * (2 ^ i * 2) = 2 * (3 * 2 ^ i) from by omega]; exact hs2.times (by omega)), rfl⟩⟩
  | (refine aAU (id := 10) rfl fun os => ?_
     have hp22 : 2 ^ i <= 4194304 := aNd (by omega)
     have hsz := hs2.sz
     have htm := aCP v v (((p + 64 : Nat) : Int) + 8) (by omega)
     simp (disch := omega) only [xq, simprocAttr, dyV, ivV, fxV, fxV, maxE, hw, Int.add_zero, Int.mul_zero, Int.zero_sub, Int.neg_zero, Pos0R_t4, Pos0R_t9, Pos0R_t6, Pos0R_t5, Pos0R_t10])
  | ((first
  | refine aAU rfl fun os => ?_
  | refine cxo (hzr) ?_
  | refine cxo (htop.1) ?_
  | refine cxo (hsh.1) ?_
  | refine cxo (hfx) ?_
  | refine cxo (hsm.1) ?_
  | refine cxo (hsp.1) ?_
  | refine cxo (htm.1) ?_
  | simp only [endX, resX, resV, Tryz.results146]) <;> try (first | simp (disch := omega) only [xq, simprocAttr, dyV, ivV, fxV, fxV, maxE, hw, Int.add_zero, Int.mul_zero, Int.zero_sub, Int.neg_zero, Pos0R_t4, Pos0R_t9, Pos0R_t6, Pos0R_t5, Pos0R_t10] | simp (disch := omega) only [xq, simprocAttr, dyV, ivV, fxV, fxV, maxE, hw, Int.add_zero, Int.mul_zero, Int.zero_sub, Int.neg_zero]))
  | (refine aAf (by first | rfl | assumption) (fun c => ?_) (fun c => ?_) <;> first | exact absurd c (by decide) | ((try rw [c]); try simp only [xn] at c))
  | (rw [show 0 - i = 0 from by omega] at hv
     simp only [sqI] at hv
     rw [<- hv]
     done)
def aXN (a : D) (PQ : Iv) (p s : Nat) (c0 : List AV) (ms : Nat) (σ : St) : Prop := ∃ (t : List (Nat × AV)) (rest : AMem) (i : Nat) (v : Iv), σ = ⟨t, 49, (27, c0) :: (29, [.lit (.bool false), .num 0, .lit (.int .i64 0), .lit (.bool false), .num 0, .lit (.int .i64 0)]) :: (29, [.lit (.bool v.lo.neg), .num v.lo.m, .lit (.int .i64 v.lo.e), .lit (.bool v.hi.neg), .num v.hi.m, .lit (.int .i64 v.hi.e)]) :: rest⟩ /\ getT t 4 = .ptr 1 0 /\ getT t 9 = .ptr 2 0 /\ getT t 6 = .lit (.int .i64 ((p + 2 * s + 64 : Nat) : Int)) /\ getT t 5 = .lit (.int .i64 ((s : Nat) : Int)) /\ getT t 10 = .lit (.int .i64 ((i : Nat) : Int)) /\ (i <= s) /\ (sqI (((p + 2 * s + 64 : Nat) : Int) + 8) (s - i) v = PQ) /\ (ib v <= 2 * (p + 2 * s + 64) + 70) /\ (BI v (3 * 2 ^ i)) /\ ms = s - i
theorem aVs (a : D) (p : Nat) (hm : a.m ≠ 0) (hn : a.neg = false) (ht : topD a <= 13 \/ a.m = 0) (hp : p <= 8000) (h : bl a.m <= 1000000 /\ ae a <= 5000000) : AC Tryz.prog TabW 146 [dyV a, .lit (.int .i64 ((p : Nat) : Int))] (ivV (aAN a p)) := by
 have hs22 := aJy ht
 obtain ⟨h0, h8⟩ := aFY hn
 have hav0 : aAN a p = sqI ((p + 2 * aAH a + 64 : Nat) + 8 : Int) (aAH a) (aCb (aBc (aAs a (-(aAH a : Int))) (p + 2 * aAH a + 64)) (p + 2 * aAH a + 64) 0) := rfl
 have hzr := aFN a (by omega)
 rw [show (a.m == 0) = false from by simpa using hm] at hzr
 have hsx : max (topD a + 9) 0 = ((aAH a : Nat) : Int) := by unfold aAH; rw [if_neg hm]; omega
 generalize aAH a = s at *
 have hsh := aHF a (-((s : Nat) : Int)) (by omega)
 have hfx := aGz (aAs a (-((s : Nat) : Int))) (p + 2 * s + 64) (by omega)
 have hfb := aLc (w := p + 2 * s + 64) h0 h8
 have hsm := aGy (aBc (aAs a (-((s : Nat) : Int))) (p + 2 * s + 64)) (p + 2 * s + 64) 0 hfb (by omega) (by omega)
 have hsp := aHt (sQ (aBc (aAs a (-((s : Nat) : Int))) (p + 2 * s + 64)) (p + 2 * s + 64) 0 (nQ (aBc (aAs a (-((s : Nat) : Int))) (p + 2 * s + 64)) (p + 2 * s + 64) 0)) (sQ (aBc (aAs a (-((s : Nat) : Int))) (p + 2 * s + 64)) (p + 2 * s + 64) 0 (nQ (aBc (aAs a (-((s : Nat) : Int))) (p + 2 * s + 64)) (p + 2 * s + 64) 0) + (2 * nQ (aBc (aAs a (-((s : Nat) : Int))) (p + 2 * s + 64)) (p + 2 * s + 64) 0 + 8)) (p + 2 * s + 64) (by omega)
 have hb0 := aIE (w := p + 2 * s + 64) hfb (by omega)
 have htop := aGf a (by omega)
 have hw : ((p : Nat) : Int) + 2 * ((s : Nat) : Int) + 64 = ((p + 2 * s + 64 : Nat) : Int) := by omega
 have hav : sqI (((p + 2 * s + 64 : Nat) : Int) + 8) (s - 0) (aCb (aBc (aAs a (-((s : Nat) : Int))) (p + 2 * s + 64)) (p + 2 * s + 64) 0) = aAN a p := hav0.symm
 have hq : ∀ F W : Nat, aCb F W 0 = ⟨aAL false (sQ F W 0 (nQ F W 0)) (-(W : Int)), aAL false (sQ F W 0 (nQ F W 0) + (2 * nQ F W 0 + 8)) (-(W : Int))⟩ := fun _ _ => rfl
 rw [hq] at hav hb0
 clear hq hav0
 generalize aBc (aAs a (-((s : Nat) : Int))) (p + 2 * s + 64) = F at *
 generalize sQ F (p + 2 * s + 64) 0 (nQ F (p + 2 * s + 64) 0) + (2 * nQ F (p + 2 * s + 64) 0 + 8) = Hq at *
 generalize sQ F (p + 2 * s + 64) 0 (nQ F (p + 2 * s + 64) 0) = Lq at *
 generalize aAs a (-((s : Nat) : Int)) = ash at *
 generalize aAN a p = PQ at *
 refine aAd Tryz.func146 rfl (by kernel_rfl) aAc Tryz.mixed rfl rfl (by kernel_rfl) ?_
 simp only [aAl, Tryz.ntmps146, dyV, ivV, fxV, fxV]
 repeat' first
  | (refine aDg (aXN a PQ p s _) _ ⟨_, [], 0, _, rfl, (by first | rfl | assumption | (simp (disch := omega) only [xq, simprocAttr, dyV, ivV, fxV, fxV, maxE, hw, Int.add_zero, Int.mul_zero, Int.zero_sub, Int.neg_zero, hsx] <;> rfl)), (by first | rfl | assumption | (simp (disch := omega) only [xq, simprocAttr, dyV, ivV, fxV, fxV, maxE, hw, Int.add_zero, Int.mul_zero, Int.zero_sub, Int.neg_zero, hsx] <;> rfl)), (by first | rfl | assumption | (simp (disch := omega) only [xq, simprocAttr, dyV, ivV, fxV, fxV, maxE, hw, Int.add_zero, Int.mul_zero, Int.zero_sub, Int.neg_zero, hsx] <;> rfl)), (by first | rfl | assumption | (simp (disch := omega) only [xq, simprocAttr, dyV, ivV, fxV, fxV, maxE, hw, Int.add_zero, Int.mul_zero, Int.zero_sub, Int.neg_zero, hsx] <;> rfl)), (by first | rfl | assumption | (simp (disch := omega) only [xq, simprocAttr, dyV, ivV, fxV, fxV, maxE, hw, Int.add_zero, Int.mul_zero, Int.zero_sub, Int.neg_zero, hsx] <;> rfl)), (Nat.zero_le _), hav, hb0.2, hb0.1, rfl⟩ ?_; rintro ms _ ⟨t, rest, i, v, rfl, PosSR_t4, PosSR_t9, PosSR_t6, PosSR_t5, PosSR_t10, hi, hv, hs1, hs2, rfl⟩)
  | refine aAa fun K g => ?_
  | refine goK (by assumption) ?_
  | refine aAv ?_
  | ((first | refine aAk ?_ | refine aDh ?_ | refine aAe ?_) <;> try simp only [aAm, aAg, reduceIte, Nat.reduceEqDiff])
  | exact ⟨_, (by omega), ⟨_, _, (i + 1), (aAF v v (((p + 2 * s + 64 : Nat) : Int) + 8)), rfl, (by first | rfl | assumption | (simp (disch := omega) only [xq, simprocAttr, dyV, ivV, fxV, fxV, maxE, hw, Int.add_zero, Int.mul_zero, Int.zero_sub, Int.neg_zero, hsx, PosSR_t4, PosSR_t9, PosSR_t6, PosSR_t5, PosSR_t10] <;> rfl)), (by first | rfl | assumption | (simp (disch := omega) only [xq, simprocAttr, dyV, ivV, fxV, fxV, maxE, hw, Int.add_zero, Int.mul_zero, Int.zero_sub, Int.neg_zero, hsx, PosSR_t4, PosSR_t9, PosSR_t6, PosSR_t5, PosSR_t10] <;> rfl)), (by first | rfl | assumption | (simp (disch := omega) only [xq, simprocAttr, dyV, ivV, fxV, fxV, maxE, hw, Int.add_zero, Int.mul_zero, Int.zero_sub, Int.neg_zero, hsx, PosSR_t4, PosSR_t9, PosSR_t6, PosSR_t5, PosSR_t10] <;> rfl)), (by first | rfl | assumption | (simp (disch := omega) only [xq, simprocAttr, dyV, ivV, fxV, fxV, maxE, hw, Int.add_zero, Int.mul_zero, Int.zero_sub, Int.neg_zero, hsx, PosSR_t4, PosSR_t9, PosSR_t6, PosSR_t5, PosSR_t10] <;> rfl)), (by first | rfl | assumption | (simp (disch := omega) only [xq, simprocAttr, dyV, ivV, fxV, fxV, maxE, hw, Int.add_zero, Int.mul_zero, Int.zero_sub, Int.neg_zero, hsx, PosSR_t4, PosSR_t9, PosSR_t6, PosSR_t5, PosSR_t10] <;> rfl)), (by omega), (by rw [<- hv, show s - i = (s - (i + 1)) + 1 from by omega]; rfl), (by omega), (by rw [Nat.pow_succ, show 3 * (2 ^ i * 2) = 2 * (3 * 2 ^ i) from by omega]; exact hs2.times (by omega)), rfl⟩⟩
  | (refine aAU (id := 10) rfl fun os => ?_
     have hp22 : 2 ^ i <= 4194304 := aNd (by omega)
     have hsz := hs2.sz
     have htm := aCP v v (((p + 2 * s + 64 : Nat) : Int) + 8) (by omega)
     simp (disch := omega) only [xq, simprocAttr, dyV, ivV, fxV, fxV, maxE, hw, Int.add_zero, Int.mul_zero, Int.zero_sub, Int.neg_zero, hsx, PosSR_t4, PosSR_t9, PosSR_t6, PosSR_t5, PosSR_t10])
  | ((first
  | refine aAU rfl fun os => ?_
  | refine cxo (hzr) ?_
  | refine cxo (htop.1) ?_
  | refine cxo (hsh.1) ?_
  | refine cxo (hfx) ?_
  | refine cxo (hsm.1) ?_
  | refine cxo (hsp.1) ?_
  | refine cxo (htm.1) ?_
  | simp only [endX, resX, resV, Tryz.results146]) <;> try (first | simp (disch := omega) only [xq, simprocAttr, dyV, ivV, fxV, fxV, maxE, hw, Int.add_zero, Int.mul_zero, Int.zero_sub, Int.neg_zero, hsx, PosSR_t4, PosSR_t9, PosSR_t6, PosSR_t5, PosSR_t10] | simp (disch := omega) only [xq, simprocAttr, dyV, ivV, fxV, fxV, maxE, hw, Int.add_zero, Int.mul_zero, Int.zero_sub, Int.neg_zero, hsx]))
  | (refine aAf (by first | rfl | assumption) (fun c => ?_) (fun c => ?_) <;> first | exact absurd c (by decide) | ((try rw [c]); try simp only [xn] at c))
  | (rw [show s - i = 0 from by omega] at hv
     simp only [sqI] at hv
     rw [<- hv]
     done)
theorem aGn (a : D) (p : Nat) (hn : a.neg = false) (ht : topD a <= 13 \/ a.m = 0) (hp : p <= 8000) (h : bl a.m <= 1000000 /\ ae a <= 5000000) : AC Tryz.prog TabW 146 [dyV a, .lit (.int .i64 ((p : Nat) : Int))] (ivV (aAN a p)) /\ (ib (aAN a p) <= 16300 /\ ie (aAN a p) <= 12600000) := by
 have hs := aL1 hn ht hp
 have hz := hs.1.sz
 refine ⟨?_, by omega⟩
 by_cases hm : a.m = 0
 · exact aVt a p hm hn ht hp h
 · exact aVs a p hm hn ht hp h
end
section
set_option maxRecDepth 10000
set_option maxHeartbeats 4000000
open Go.RowKit
theorem aOj (d : D) : bl (aA6 d).m = bl d.m /\ ae (aA6 d) = ae d /\ (aA6 d).neg = false /\ (topD (aA6 d) = topD d) /\ (aA6 d).m = d.m := ⟨rfl, rfl, rfl, rfl, rfl⟩
theorem aSL (d : D) (h : d.m ≠ 0) : topD (oneD d) = topD d := by
 have h1 := aFq h
 have h2 := aFk d
 have n1 : (oneD d).m ≠ 0 := fun e => h (aVu.1 e)
 have h3 := aFq n1
 have h4 := aFk (oneD d)
 rw [aQW] at h3 h4
 have a := aFC.1 (show p2 (topD d) <= p2 (topD (oneD d) + 1) by grind)
 have b := aFC.1 (show p2 (topD (oneD d)) <= p2 (topD d + 1) by grind)
 have a1 : ¬ topD d = topD (oneD d) + 1 := fun e => by rw [e] at h1; grind
 have b1 : ¬ topD (oneD d) = topD d + 1 := fun e => by rw [e] at h3; grind
 omega
theorem aQU {t : D} (h : topD t <= 13 \/ t.m = 0) : topD (oneD t) <= 13 \/ (oneD t).m = 0 := by
 by_cases h0 : t.m = 0
 · exact .inr (aVu.2 h0)
 · left; rw [aSL t h0]; omega
theorem aCj (t : D) (p : Nat) (h : (topD t <= 13 \/ t.m = 0) /\ p <= 7000 /\ bl t.m <= 900000 /\ ae t <= 3000000) : AC Tryz.prog TabW 103 [dyV t, .lit (.int .i64 ((p : Nat) : Int))] (ivV (anyQ t p)) /\ (ib (anyQ t p) <= 16300 /\ ie (anyQ t p) <= 12900000) := by
 have o1 := aCw t (by omega)
 have ht := aQU h.1
 have hr : anyQ t p = if (oneD t).neg then divR (aAn (intD 1)) (aAN (aA6 (oneD t)) p) ((p : Int) + 64) else aAN (aA6 (oneD t)) p := rfl
 rw [hr]
 clear hr
 generalize oneD t = x at *
 have px := aOj x
 have hp := aGn (aA6 x) p rfl (by omega) (by omega) (by omega)
 obtain ⟨e0, e1, e2⟩ := aDp (a := aA6 x) (p := p) rfl
 have e3 := aJj ⟨e0, e1, e2⟩
 have n1 := aPg e0
 have n2 := aPg (show 0 < (aAN (aA6 x) p).hi.v by grind)
 have i1 := aEj (intD 1)
 have i2 := aAW 1
 have i3 : bl (1 : Int).natAbs = 1 := by decide
 have hd := aOD (aAn (intD 1)) (aAN (aA6 x) p) ((p : Int) + 64) n1 n2 (by omega)
 clear e0 e1 e2 e3
 generalize aAN (aA6 x) p = Pq at *
 generalize divR (aAn (intD 1)) Pq ((p : Int) + 64) = Dq at *
 have hon := aL5
 generalize aAn (intD 1) = On at *
 refine ⟨?_, by split <;> omega⟩
 refine aAd Tryz.func103 rfl (by kernel_rfl) aAc Tryz.mixed rfl rfl (by kernel_rfl) ?_
 simp only [aAl, Tryz.ntmps103, dyV, ivV, fxV, fxV]
 repeat' first
  | refine aAa fun K g => ?_
  | refine goK (by assumption) ?_
  | ((first | refine aAk ?_ | refine aAe ?_) <;> try simp only [aAm, aAg, reduceIte, Nat.reduceEqDiff])
  | ((first
  | refine aAU rfl fun os => ?_
  | refine aCR rfl (by kernel_rfl) fun os => ?_
  | refine cxo (o1.1) ?_
  | refine cxo (hp.1) ?_
  | refine cxd (hon) ?_
  | refine cxd (hd.1) ?_
  | simp only [endX, resX, resV, Tryz.results103]) <;> try (simp (disch := omega) only [xq, simprocAttr, dyV, ivV, fxV, fxV, aA6]))
  | (refine aAf (by first | rfl | assumption) (fun c => ?_) (fun c => ?_) <;> first | exact absurd c (by decide) | ((try rw [c]); try simp only [xn] at c))
  | (simp only [*, Bool.not_true, Bool.not_false, Bool.false_eq_true, if_true, if_false, reduceIte, ivV, aAp, aAY] <;> rfl
     done)
def aEr (v own : Iv) (p : Int) : Bool := aBb v && aKH v (oneI v) && aDs v p && decide (cmpD v.lo own.hi <= 0) && decide (cmpD own.lo v.hi <= 0)
theorem aMu (v own : Iv) (p : Int) : aEr v own p = true <-> aJk v own p := by
 unfold aEr aJk
 simp only [Bool.and_eq_true, decide_eq_true_eq, aCV, aIf]
 have : v = oneI v <-> v.lo.canon /\ v.hi.canon := by
   constructor
   · intro h; rw [h]; exact ⟨aB2 _, aB2 _⟩
   · intro ⟨h1, h2⟩; unfold oneI; rw [aCL h1, aCL h2]
 rw [this]
 constructor
 · rintro ⟨⟨⟨⟨h1, h2, h3⟩, h4⟩, h5⟩, h6⟩; exact ⟨h2, h3, h1, h4, h5, h6⟩
 · rintro ⟨h2, h3, h1, h4, h5, h6⟩; exact ⟨⟨⟨⟨h1, h2, h3⟩, h4⟩, h5⟩, h6⟩
theorem aJJ (v own : Iv) (p : Int) (h : ib v <= 2000000 /\ ie v <= 600000000000000 /\ ib own <= 2000000 /\ ie own <= 600000000000000) (hf : aBb v = true -> 2 * bl v.hi.m + 3 * bl v.lo.m + ae v.hi + ae v.lo <= 800000) (hp : p <= 1000000000000 /\ -1000000000000 <= p) : AC Tryz.prog TabW 62 [ivV v, ivV own, .lit (.int .i64 p)] (.lit (.bool (aEr v own p))) := by
 have hv := aBe v
 have ho := aBe own
 have e1 := aGd v (by omega)
 have e2 := aT3 v (by omega)
 have e3 := aHc v (oneI v) (by omega)
 have e4 := aJn v p (by omega) hf hp
 have e5 := aAI v.lo own.hi (by omega)
 have e6 := aAI own.lo v.hi (by omega)
 have hr : aEr v own p = (aBb v && aKH v (oneI v) && aDs v p && decide (cmpD v.lo own.hi <= 0) && decide (cmpD own.lo v.hi <= 0)) := rfl
 rw [hr]
 clear hr hf
 generalize aBb v = b1 at *
 generalize aKH v (oneI v) = b2 at *
 generalize aDs v p = b3 at *
 generalize cmpD v.lo own.hi = b4 at *
 generalize cmpD own.lo v.hi = b5 at *
 refine aAd Tryz.func62 rfl (by kernel_rfl) aAc Tryz.mixed rfl rfl (by kernel_rfl) ?_
 simp only [aAl, Tryz.ntmps62, dyV, ivV, fxV, fxV]
 repeat' first
  | refine aAa fun K g => ?_
  | refine goK (by assumption) ?_
  | (refine aAe ?_; try simp only [aAm, aAg, reduceIte, Nat.reduceEqDiff])
  | ((first
  | refine aAU rfl fun os => ?_
  | refine aLC (by kernel_rfl) ?_
  | refine gd1 rfl rfl ?_
  | refine gd0 rfl rfl (by exact Nat.le_of_ble_eq_true rfl) ?_
  | refine cxd (e1) ?_
  | refine cxd (e2.1) ?_
  | refine cxd (e3) ?_
  | refine cxd (e4) ?_
  | refine cxd (e5) ?_
  | refine cxd (e6) ?_
  | simp only [endX, resX, resV, Tryz.results62]) <;> try (simp (disch := omega) only [xq, simprocAttr, dyV, ivV, fxV, fxV]))
  | ((first | refine gx (fun c => ?_) (fun c => ?_) | refine gdt rfl rfl rfl (fun c => ?_) (fun c => ?_)) <;> first | exact absurd c (by decide) | ((try rw [c]); (try simp only [xn] at c); try (simp (disch := omega) only [xq, simprocAttr, dyV, ivV, fxV, fxV])))
  | (simp [*]
     done)
end
end Go.Proofs.YtgdkokgeldnliaaGreatDoor
