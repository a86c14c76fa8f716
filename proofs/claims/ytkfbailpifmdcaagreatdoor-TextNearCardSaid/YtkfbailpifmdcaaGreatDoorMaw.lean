/- RefI RefJ RefK RefL -/
import Derived.Test.YtkfbailpifmdcaaGreatDoorMav
import Derived.Test.YtkfbailpifmdcaaGreatDoorMad
import Derived.RegionTactic
import Derived.Lib.ItoaNum
import Derived.Laws.BytesArg
import Derived.Laws.IdiomStrings
import Derived.Test.YtkfbailpifmdcaaGreatDoorMaf
section
namespace Go.Proofs.YtkfbailpifmdcaaGreatDoor
open Go.RowKit

def Div3Post (w : World) (q r : Nat) (e : Ending) (w' : World) : Prop := ∃ v1 v2, e = .returned (.tuple #[v1, v2]) ∧ Num w.heap.size w' v1 q ∧ Num w.heap.size w' v2 r ∧ Below w.heap.size w w'
theorem num_grown {lo n : Nat} {w w' : World} {v : Value} {row : Option Nat} (h : Num lo w v n) (hg : w.grownBy w' row) (hr : ∀ k, row = some k → k < lo) : Num lo w' v n := by
  obtain ⟨x, cap, h1, h2, h3, h4, h5⟩ := h
  refine ⟨x, cap, h1, h2, h3, h4, fun i hi => ?_⟩
  obtain ⟨b, off, e, hl, hc⟩ := h5 i hi
  exact ⟨b, off, e, hl, hg.cell hc (fun e => by have := hr b e.symm; omega)⟩
theorem num_set {lo n g o : Nat} {w : World} {v x : Value} (h : Num lo w v n) (hg : g < lo) : Num lo (w.setCell ⟨g, o, none⟩ x) v n :=
  num_grown h (gb_set w g o none x) (fun k e => by injection e with e; omega)

theorem div3_start {A B n : Nat} (hB : B ≠ 0) (hn : bl A = bl B + n) : A < B * 2 ^ (n + 1) := by
  have h1 := bl_lt A
  have h2 := bl_ge hB
  have h3 := bl_pos hB
  rw [hn] at h1
  have h4 : 2 ^ (bl B + n) = 2 ^ (bl B - 1) * 2 ^ (n + 1) := by rw [← Nat.pow_add]; congr 1; omega
  have h5 : 2 ^ (bl B - 1) * 2 ^ (n + 1) ≤ B * 2 ^ (n + 1) := Nat.mul_le_mul_right _ h2
  omega
theorem div3_len {v B e K : Nat} (hv : v ≤ B * 2 ^ e) (h : bl B + e ≤ 64 * K) : (limbsOf v).length ≤ K := by
  refine limbsOf_len ?_
  rw [pw_two]
  refine Nat.lt_of_le_of_lt hv (Nat.lt_of_lt_of_le (Nat.mul_lt_mul_of_pos_right (bl_lt B) (Nat.two_pow_pos e)) ?_)
  rw [← Nat.pow_add]
  exact Nat.pow_le_pow_right (by decide) h
theorem wrap_nat {p : Nat} (h : p < 18446744073709551616) : IntKind.u64.wrap ((p : Nat) : Int) = ((p : Nat) : Int) := by rw [IntKind.wrap_u64]; omega
theorem div3_half {B t : Nat} : B * 2 ^ (t + 1) / 2 / 2 ^ 1 = B * 2 ^ t / 2 := by
  rw [Nat.pow_succ, ← Nat.mul_assoc, Nat.mul_div_cancel _ (by decide), Nat.pow_one]
theorem div3_d {B t : Nat} : B * 2 ^ (t + 1) / 2 = B * 2 ^ t := by
  rw [Nat.pow_succ, ← Nat.mul_assoc, Nat.mul_div_cancel _ (by decide)]
/-- The word of a bit that is not set, nor any below it. -/
theorem div3_word {z : List Nat} {i : Nat} (hz : okW z) (hd : valN z % 2 ^ (i + 1) = 0) : gw z (i / 64) + 2 ^ (i % 64) < 18446744073709551616 := by
  obtain ⟨m, hm⟩ := Nat.dvd_of_mod_eq_zero hd
  have hk : i % 64 + 1 ≤ 64 := by omega
  have e : 2 ^ (i + 1) = pw (i / 64) * 2 ^ (i % 64 + 1) := by rw [pw_two, ← Nat.pow_add]; congr 1; omega
  have hc := val_cut z (i / 64)
  have hT := vt_lt hz (i / 64)
  rw [hm, e, Nat.mul_assoc] at hc
  have hT0 : vt z (i / 64) = 0 := by
    have h1 : (vt z (i / 64) + pw (i / 64) * valN (z.drop (i / 64))) % pw (i / 64) = (pw (i / 64) * (2 ^ (i % 64 + 1) * m)) % pw (i / 64) := by rw [← hc]
    rw [Nat.add_mul_mod_self_left, Nat.mul_mod_right, Nat.mod_eq_of_lt hT] at h1
    exact h1
  rw [hT0, Nat.zero_add] at hc
  have hV := Nat.eq_of_mul_eq_mul_left (pw_pos _) hc
  have hl := low_mod (y := z.drop (i / 64)) hk
  rw [← hV, Nat.mul_mod_right, gw_drop, Nat.add_zero] at hl
  have hg := okW_gw hz (i / 64)
  obtain ⟨u, hu⟩ := Nat.dvd_of_mod_eq_zero hl.symm
  have h64 := two64 hk
  have hp := Nat.two_pow_pos (i % 64)
  rw [Nat.pow_succ] at hu h64
  generalize 2 ^ (64 - (i % 64 + 1)) = L at *
  generalize 2 ^ (i % 64) = P at *
  rw [hu] at hg ⊢
  have h1 : P * 2 * u < P * 2 * L := by rw [Nat.mul_comm (P * 2) L, ← h64]; exact hg
  have h2 := Nat.lt_of_mul_lt_mul_left h1
  have h3 : P * 2 * (u + 1) ≤ P * 2 * L := Nat.mul_le_mul_left _ h2
  rw [Nat.mul_add, Nat.mul_one, Nat.mul_comm (P * 2) L, ← h64] at h3
  omega
theorem div3_set {z : List Nat} {i : Nat} (hi : i / 64 < z.length) : valN (z.set (i / 64) (gw z (i / 64) + 2 ^ (i % 64))) = valN z + 2 ^ i := by
  have h := vt_set_in z (i / 64) (gw z (i / 64) + 2 ^ (i % 64)) hi z.length hi
  rw [vt_all _ _ (by rw [List.length_set]; omega), vt_len] at h
  have e : 2 ^ i = 2 ^ (i % 64) * pw (i / 64) := by rw [pw_two, ← Nat.pow_add]; congr 1; omega
  rw [e]
  rw [Nat.add_mul] at h
  omega
theorem div3_mod {Z i : Nat} (h : Z % 2 ^ (i + 1) = 0) : Z % 2 ^ i = 0 ∧ (Z + 2 ^ i) % 2 ^ i = 0 := by
  obtain ⟨m, hm⟩ := Nat.dvd_of_mod_eq_zero h
  have e : Z = 2 ^ i * (2 * m) := by rw [hm, Nat.pow_succ, Nat.mul_assoc]
  rw [e]
  refine ⟨Nat.mul_mod_right _ _, ?_⟩
  rw [Nat.add_mod, Nat.mul_mod_right, Nat.mod_self]
  simp

set_option maxRecDepth 100000 in
set_option maxHeartbeats 1000000 in
theorem Div03_any (lo : Nat) (a b : Value) (x y : List Nat) (w : World) (ha : Words lo w a x) (hb : Words lo w b y) (hla : x.length ≤ 1000000) (hlb : y.length ≤ 1000000) (hB : valN y ≠ 0) :
    Calls Tryz.prog 107 #[a, b] w (Div3Post w (valN x / valN y) (valN x % valN y)) := by
  have hxl : bl (valN x) ≤ 64 * x.length := bl_le (by rw [← pw_two]; exact valN_lt ha.ok)
  have hyl : bl (valN y) ≤ 64 * y.length := bl_le (by rw [← pw_two]; exact valN_lt hb.ok)
  have hLa := fun w ha => Len03_any lo a x w ha (by omega)
  have hLb := fun w hb => Len03_any lo b y w hb (by omega)
  have hNa := fun w ha => Norm03_any lo a x w ha (by omega)
  have hSb := fun n w hb hn => Shl03_any lo b y n w hb (by omega) hn
  obtain ⟨A, hA⟩ : ∃ A, valN x = A := ⟨_, rfl⟩
  obtain ⟨B, hBB⟩ : ∃ B, valN y = B := ⟨_, rfl⟩
  rw [hA] at hLa hNa hxl ⊢
  rw [hBB] at hLb hSb hB hyl ⊢
  have HLA := Lib.hid hLa
  have HLB := Lib.hid hLb
  have HNA := Lib.hid hNa
  have HSB := Lib.hid hSb
  clear hLa hLb hNa hSb hA hBB
  by_cases hn : bl A < bl B
  · have hlt : A < B := by
      apply Nat.lt_of_not_le
      intro h
      have := bl_mono h
      omega
    have e1 : A / B = 0 := Nat.div_eq_of_lt hlt
    have e2 : A % B = A := Nat.mod_eq_of_lt hlt
    rw [e1, e2]
    clear hlt e1 e2 HSB hB
    generalize bl A = p at *
    generalize bl B = q at *
    go_enter Tryz.func107, Tryz.ntmps107
    go_wp2_with fail
    refine (HLA.out _ ha).mono ?_
    rintro e w1 ⟨rfl, hb1⟩
    go_wp2_with fail
    refine (HLB.out _ (hb.call hb1)).mono ?_
    rintro e w2 ⟨rfl, hb2⟩
    have hb12 := hb1.trans (hb2.mono hb1.size)
    go_wp2_with fail
    refine (HNA.out _ (ha.call hb12)).mono ?_
    rintro e w3 ⟨v3, rfl, hv3, hb3⟩
    go_wp2_with fail
    go_ret2
    exact ⟨_, _, rfl, Num.zero _ _ _ _ (by decide), hv3.mono hb12.size, hb12.trans (hb3.mono hb12.size)⟩
  · obtain ⟨n, hn2⟩ : ∃ n, bl A = bl B + n := ⟨bl A - bl B, by omega⟩
    have hst := div3_start hB hn2
    have hni : ((bl A : Nat) : Int) - ((bl B : Nat) : Int) = ((n : Nat) : Int) := by omega
    have hnl : n ≤ 64000000 := by omega
    have hBpos : 0 < B := by omega
    have HBB := Lib.hid (show bl B ≤ 64000000 by omega)
    generalize hgA : bl A = p at hni hn hn2 hxl HLA
    generalize hgB : bl B = q at hni hn hn2 hyl HLB
    have HST := Lib.hid hst
    obtain ⟨nq, hnq⟩ : ∃ nq, n / 64 = nq := ⟨_, rfl⟩
    have hnqi : ((n : Nat) : Int) / 64 = ((nq : Nat) : Int) := by omega
    have hmk := make_words 51 Tryz.underlying51 (nq + 1) (by omega)
    have hmk' : ∀ w : World, (Instr.makeSlice 51 (.int .i64 (((nq : Nat) : Int) + 1)) (.int .i64 (((nq : Nat) : Int) + 1))).run Tryz.prog w = .ok (.slice (some ⟨w.heap.size, 0, none⟩) (nq + 1) (nq + 1)) (w.alloc (.cells (wArr (List.replicate (nq + 1) 0)) 22)) := fun w => by
      rw [show ((nq : Nat) : Int) + 1 = ((nq + 1 : Nat) : Int) by omega]; exact hmk w
    have hsb := HSB.out n
    have HSB2 := Lib.hid (fun w hb => hsb w hb (by omega))
    clear hmk hst hn hn2 hsb HSB hxl hyl hB hgA hgB
    go_enter Tryz.func107, Tryz.ntmps107
    go_wp2_with fail
    refine (HLA.out _ ha).mono ?_
    rintro e w1 ⟨rfl, hb1⟩
    go_wp2_with fail
    refine (HLB.out _ (hb.call hb1)).mono ?_
    rintro e w2 ⟨rfl, hb2⟩
    have hb12 := hb1.trans (hb2.mono hb1.size)
    have hb13 := hb12.alloc hb12.size (.cells (wArr (List.replicate (nq + 1) 0)) 22)
    have hk3 := Blk.new w2 (wArr (List.replicate (nq + 1) 0)) 22
    have hg0 := hb12.size
    go_upto_region 5 with fail
    clear hmk'
    generalize hW3 : w2.alloc (.cells (wArr (List.replicate (nq + 1) 0)) 22) = w3 at *
    have hsz3 : w2.heap.size < w3.heap.size := by rw [← hW3]; simp
    generalize w2.heap.size = g at *
    clear hW3 hb1 hb2 hb12
    go_wp2_with fail
    refine (HNA.out _ (ha.call hb13)).mono ?_
    rintro e w4 ⟨v4, rfl, hv4, hb4⟩
    have hb14 := hb13.trans (hb4.mono hb13.size)
    go_wp2_with fail
    refine (HSB2.out _ (hb.call hb14)).mono ?_
    rintro e w5 ⟨v5, rfl, hv5, hb5⟩
    have hb15 := hb14.trans (hb5.mono hb14.size)
    have hk5 := (hk3.call hb4).call hb5
    have hr5 : Num (g + 1) w5 v4 A := (hv4.call hb5).mono hsz3
    have hd5 : Num (g + 1) w5 v5 (B * 2 ^ (n + 1) / 2) := by
      rw [div3_d]
      exact hv5.mono (by have := hb4.size; omega)
    clear hv4 hv5 hb13 hb14 hb4 hb5 hk3 HLA HLB HNA HSB2 ha hb
    go_wp2_with fail
    go_loopw [8, 9, 10] (fun u8 u9 u10 wr => ∃ (t r : Nat) (z : List Nat), t ≤ n + 1 ∧ u10 = .int .i64 (((t : Nat) : Int) - 1) ∧ Num (g + 1) wr u8 r ∧ Num (g + 1) wr u9 (B * 2 ^ t / 2) ∧ Hid (r < B * 2 ^ t) ∧ Hid (A = r + B * valN z ∧ valN z % 2 ^ t = 0) ∧ okW z ∧ Hid (z.length = nq + 1) ∧ Blk wr g (wArr z) 22 ∧ Below w.heap.size w wr) (fun _ _ u10 _ => (intOf u10 + 1).toNat)
    case atStart => exact ⟨n + 1, A, List.replicate (nq + 1) 0, Nat.le_refl _, by go_num, hr5, hd5, HST.out, ⟨by rw [valN_replicate]; simp, by rw [valN_replicate]; simp⟩, okW_replicate _, by show _ = _; simp, hk5, hb15⟩
    case round =>
      clear hr5 hd5 hk5 hb15
      obtain ⟨t, r, z, ht, rfl, hr, hd, HR, HA, hzo, HZ, hkb, hbw⟩ := hrel
      obtain ⟨x8, c8, rfl⟩ : ∃ x c, u8 = .slice x (limbsOf r).length c := by
        obtain ⟨xx, cc, e, _⟩ := hr
        exact ⟨xx, cc, e⟩
      obtain ⟨x9, c9, rfl⟩ : ∃ x c, u9 = .slice x (limbsOf (B * 2 ^ t / 2)).length c := by
        obtain ⟨xx, cc, e, _⟩ := hd
        exact ⟨xx, cc, e⟩
      by_cases h0 : t = 0
      · subst h0
        have hq : valN z = A / B ∧ r = A % B := by
          have h1 := HA.out.1
          have h2 := HR.out
          rw [Nat.pow_zero, Nat.mul_one] at h2
          rw [h1]
          refine ⟨?_, ?_⟩
          · rw [Nat.add_mul_div_left _ _ hBpos, Nat.div_eq_of_lt h2, Nat.zero_add]
          · rw [Nat.add_mul_mod_self_left, Nat.mod_eq_of_lt h2]
        have hw2 := Words.ofBlk_all (lo := g) hkb (Nat.le_refl _) hzo (by have := HZ.out; omega)
        have hN := Norm03_any g _ z wr hw2 (by have := HZ.out; omega)
        rw [HZ.out, hq.1] at hN
        rw [hq.2] at hr
        have HN := Lib.hid hN
        have HQ := Lib.hid hq.2
        clear hq hN hw2 HR HA hd
        go_wp2_with fail
        refine HN.out.mono ?_
        rintro e w6 ⟨v6, rfl, hv6, hb6⟩
        go_wp2_with fail
        go_ret2
        refine ⟨_, _, rfl, hv6.mono hbw.size, ?_, hbw.trans (hb6.mono hbw.size)⟩
        rw [← HQ.out] at hr ⊢
        exact (hr.call hb6).mono (by omega)
      · obtain ⟨i, rfl⟩ : ∃ i, t = i + 1 := ⟨t - 1, by omega⟩
        have hcast : (((i + 1 : Nat) : Int) - 1) = ((i : Nat) : Int) := by omega
        rw [hcast]
        have hdd : B * 2 ^ (i + 1) / 2 = B * 2 ^ i := div3_d
        have hhalf : B * 2 ^ i / 2 ^ 1 = B * 2 ^ i / 2 := by rw [Nat.pow_one]
        have hR2 := HR.out
        rw [Nat.pow_succ, ← Nat.mul_assoc] at hR2
        have hA2 := HA.out
        obtain ⟨m1, m2⟩ := div3_mod hA2.2
        rw [hdd] at hd ⊢
        have hrl : (limbsOf r).length ≤ 3000000 := div3_len (Nat.le_of_lt HR.out) (by have := HBB.out; omega)
        have hdl : (limbsOf (B * 2 ^ i)).length ≤ 3000000 := div3_len (Nat.le_refl _) (by have := HBB.out; omega)
        have hcm := Cmp03_any (g + 1) _ _ _ _ wr hr.words hd.words
        have hsub := fun h => Sub03_any (g + 1) _ _ _ _ wr hr.words hd.words (by omega) (by omega) h
        have hshr := fun w hd => Shr03_any (g + 1) (.slice x9 (limbsOf (B * 2 ^ i)).length c9) (limbsOf (B * 2 ^ i)) 1 w hd (by omega) (by decide)
        rw [valN_limbsOf, valN_limbsOf] at hcm hsub
        rw [valN_limbsOf, hhalf] at hshr
        obtain ⟨iq, hiq⟩ : ∃ iq, i / 64 = iq := ⟨_, rfl⟩
        obtain ⟨ik, hik⟩ : ∃ ik, i % 64 = ik := ⟨_, rfl⟩
        have hword := div3_word (i := i) hzo hA2.2
        have hset := div3_set (z := z) (i := i) (by have := HZ.out; omega)
        have hzc := hkb.cell (i / 64) _ (wArr_get z (i / 64) (by have := HZ.out; omega))
        rw [hiq, hik] at hword hset
        rw [hiq] at hzc
        have hiqi : ((i : Nat) : Int) / 64 = ((iq : Nat) : Int) := by omega
        have hiki : ((i : Nat) : Int) % 64 = ((ik : Nat) : Int) := by omega
        have hik64 : ik < 64 := by omega
        have hiql : iq < nq + 1 := by omega
        have hpi : IntKind.u64.wrap (2 ^ ik) = ((2 ^ ik : Nat) : Int) := by
          have e : (2 : Int) ^ ik = ((2 ^ ik : Nat) : Int) := by simp
          rw [e]
          exact wrap_nat (by omega)
        have hp0 := Nat.two_pow_pos ik
        obtain ⟨D, hD⟩ : ∃ D, B * 2 ^ i = D := ⟨_, rfl⟩
        rw [hD] at hR2 hcm hsub hshr hd hhalf ⊢
        have HD := Lib.hid hD
        have hA3 := hA2.1
        by_cases hc : r < D
        · have hcv : cmpN r D = -1 := by unfold cmpN; rw [if_pos hc]
          rw [hcv] at hcm
          have HCM := Lib.hid hcm
          have HSH := Lib.hid (hshr wr hd.words)
          have HFR := Lib.hid (show r < B * 2 ^ i by rw [hD]; exact hc)
          have HFA := Lib.hid (And.intro hA3 m1)
          clear hcm hsub hshr hcv hR2 hA2 hA3 m1 m2 hword hset hpi hp0 hD hc HR HA hhalf hzc hiqi hiki
          go_wp2_with fail
          refine HCM.out.mono ?_
          rintro e w6 ⟨rfl, hw⟩
          subst hw
          go_wp2_with fail
          refine HSH.out.mono ?_
          rintro e w7 ⟨v7, rfl, hv7, hb7⟩
          go_wp2_with fail
          go_roundw
          case rel =>
            refine ⟨i, r, z, by omega, rfl, hr.call hb7, ?_, HFR.out, HFA.out, hzo, HZ.out, hkb.call hb7, hbw.trans (hb7.mono hbw.size)⟩
            rw [HD.out]
            exact hv7.mono (by have := hkb.lt; omega)
          case measure => simp [intOf]
        · obtain ⟨cv, hcv⟩ : ∃ cv, cmpN r D = cv := ⟨_, rfl⟩
          have hcv0 : 0 ≤ cv := by rw [← hcv]; unfold cmpN; rw [if_neg hc]; split <;> omega
          rw [hcv] at hcm
          have HCM := Lib.hid hcm
          have HSU := Lib.hid (hsub (by omega))
          have HSH := Lib.hid hshr
          have hval : valN (z.set iq (gw z iq + 2 ^ ik)) = valN z + 2 ^ i := hset
          have HFA := Lib.hid (show A = (r - D) + B * (valN z + 2 ^ i) ∧ (valN z + 2 ^ i) % 2 ^ i = 0 from ⟨by rw [Nat.mul_add, hD]; omega, m2⟩)
          have HFR := Lib.hid (show r - D < B * 2 ^ i by rw [hD]; omega)
          have HVA := Lib.hid hval
          have hko : okW (z.set iq (gw z iq + 2 ^ ik)) := okW_set hzo _ _ hword
          have HKO := Lib.hid hko
          have hsi : IntKind.u64.wrap (((gw z iq : Nat) : Int) + ((2 ^ ik : Nat) : Int)) = ((gw z iq + 2 ^ ik : Nat) : Int) := by rw [IntKind.wrap_u64]; omega
          generalize gw z iq + 2 ^ ik = s at *
          generalize 2 ^ ik = p at *
          generalize gw z iq = gz at *
          clear hcm hsub hshr hcv hR2 hA2 hA3 m1 m2 hword hset hp0 hD hc HR HA hhalf hval hko
          go_wp2_with fail
          refine HCM.out.mono ?_
          rintro e w6 ⟨rfl, hw⟩
          subst hw
          go_wp2_with fail
          refine HSU.out.mono ?_
          rintro e w7 ⟨v7, rfl, hv7, hb7⟩
          have hkb7 := hkb.call hb7
          have hd7 := hd.call hb7
          have hbw7 := hbw.trans (hb7.mono hbw.size)
          have hv7' : Num (g + 1) w7 v7 (r - D) := hv7.mono (by have := hkb.lt; omega)
          have hzc7 := (hb7.cell (World.block_lt_of_cell? wr _ hzc)).trans hzc
          have hzf := hkb7.free iq
          have hkb8 := blk_setW hkb7 iq s
          have hd8 := num_set (g := g) (o := iq) (x := .int .u64 ((s : Nat) : Int)) hd7 (by omega)
          have hv8 := num_set (g := g) (o := iq) (x := .int .u64 ((s : Nat) : Int)) hv7' (by omega)
          have hbw8 := hbw7.setCell (show w.heap.size ≤ (⟨g, iq, none⟩ : Addr).block from hg0) (.int .u64 ((s : Nat) : Int))
          clear hzc hkb hd hbw hr hv7
          go_wp2_with fail
          refine (HSH.out _ hd8.words).mono ?_
          rintro e w9 ⟨v9, rfl, hv9, hb9⟩
          have hlt9 := hkb8.lt
          go_wp2_with fail
          go_roundw
          case rel =>
            refine ⟨i, r - D, z.set iq s, by omega, rfl, hv8.call hb9, ?_, HFR.out, ?_, HKO.out, ?_, hkb8.call hb9, hbw8.trans (hb9.mono hbw8.size)⟩
            · rw [HD.out]
              exact hv9.mono (by omega)
            · show _ ∧ _
              rw [HVA.out]
              exact HFA.out
            · show _ = _
              rw [List.length_set]
              exact HZ.out
          case measure => simp [intOf]
end Go.Proofs.YtkfbailpifmdcaaGreatDoor
end

section
namespace Go.Proofs.YtkfbailpifmdcaaGreatDoor
open Go.RowKit

theorem halves_div {r g d a1 a0 high hq hm low : Nat} (hd : 0 < d) (h1 : g = a1 * 4294967296 + a0) (h2 : high = r * 4294967296 + a1) (h3 : high = d * hq + hm) (h4 : low = hm * 4294967296 + a0) :
    hq * 4294967296 + low / d = (r * 18446744073709551616 + g) / d ∧ low % d = (r * 18446744073709551616 + g) % d := by
  have e : r * 18446744073709551616 + g = d * (hq * 4294967296) + low := by
    have : d * (hq * 4294967296) = d * hq * 4294967296 := by rw [Nat.mul_assoc]
    omega
  rw [e]
  constructor
  · rw [Nat.mul_add_div hd]
  · rw [Nat.mul_add_mod]

set_option maxRecDepth 100000 in
set_option maxHeartbeats 1000000 in
theorem short03_any (lo : Nat) (a : Value) (l : List Nat) (d : Nat) (w : World) (ha : Words lo w a l) (hl : l.length ≤ 1000000000) (h0 : 0 < d) (hd : d < 4294967296) :
    Calls Tryz.prog 126 #[a, .int .u64 ((d : Nat) : Int)] w (ShortPost w (valN l / d) (valN l % d)) := by
  have hok := ha.ok
  obtain ⟨x, cap, rfl, hcap, hcm, _, hx⟩ := ha
  have HX := Lib.hid hx
  clear hx
  have hmk := make_words 51 Tryz.underlying51 l.length (by omega)
  go_enter Tryz.func126, Tryz.ntmps126
  go_wp2_with fail
  clear hmk
  go_loopw [7, 8, 9, 10] (fun u7 u8 _ _ wr => ShortRel w.heap.size w l d u8 u7 wr) (fun _ u8 _ _ _ => (intOf u8 + 1).toNat)
  case atStart => exact ⟨l.length, 0, List.replicate l.length 0, Nat.le_refl _, rfl, rfl, h0, by simp, okW_replicate _, by rw [vd_end l _ (Nat.le_refl _), vd_end _ _ (by simp)]; simp, Blk.new _ _ _, (Below.refl _ _).alloc (Nat.le_refl _) _⟩
  case round =>
    obtain ⟨k, r, z, hk, rfl, rfl, hr, hzl, hzo, hv, hz, hbl⟩ := hrel
    have HV := Lib.hid hv
    have HZ := Lib.hid hzl
    clear hv hzl
    by_cases hk0 : k = 0
    · subst hk0
      have hw2 := Words.ofBlk_all (lo := w.heap.size) hz (Nat.le_refl _) hzo (by have := HZ.out; omega)
      rw [HZ.out] at hw2
      have hq : valN z = valN l / d := by
        have := HV.out
        rw [vd_zero, vd_zero, Nat.mul_comm] at this
        rw [this, Nat.mul_add_div h0, Nat.div_eq_of_lt hr, Nat.add_zero]
      have hr' : valN l % d = r := by
        have := HV.out
        rw [vd_zero, vd_zero, Nat.mul_comm] at this
        rw [this, Nat.mul_add_mod, Nat.mod_eq_of_lt hr]
      have hN := Norm03_any w.heap.size _ z wr hw2 (by have := HZ.out; omega)
      rw [hq] at hN
      have HN := Lib.hid hN
      have HR := Lib.hid hr'
      clear hq hr' hN
      go_wp2_with fail
      refine HN.out.mono ?_
      rintro e w3 ⟨v, rfl, hvv, hb3⟩
      go_wp2_with fail
      go_ret2
      exact ⟨_, by rw [HR.out]; rfl, hvv.mono hbl.size, hbl.trans (hb3.mono hbl.size)⟩
    · obtain ⟨m, rfl⟩ : ∃ m, k = m + 1 := ⟨k - 1, by omega⟩
      have hcast : (((m + 1 : Nat) : Int) - 1) = ((m : Nat) : Int) := by omega
      rw [hcast]
      clear hcast
      obtain ⟨b1, o1, rfl, _, hcx⟩ := HX.out m (by omega)
      have hcx' := (hbl.cell (World.block_lt_of_cell? w _ hcx)).trans hcx
      have hxi := okW_gw hok m
      have zc := hz.cell m _ (wArr_get z m (by have := HZ.out; omega))
      have zf := hz.free m
      have hcl : ∀ q r' : Nat, q = (r * 18446744073709551616 + gw l m) / d → r' = (r * 18446744073709551616 + gw l m) % d → ∀ (wr2 : World) (e : Int), e = ((m : Nat) : Int) - 1 → Blk wr2 w.heap.size (wArr (z.set m q)) 22 → Below w.heap.size w wr2 → ShortRel w.heap.size w l d (.int .i64 e) (.int .u64 ((r' : Nat) : Int)) wr2 :=
        fun q r' h1 h2 wr2 e he h3 h4 => short_close (by omega) he hr (by omega) hok h1 h2 HZ.out hzo HV.out h3 h4
      have HCL := Lib.hid hcl
      clear hcx hcl
      have hmz : m < l.length := by omega
      generalize gw l m = g at *
      obtain ⟨a1, ha1⟩ : ∃ v, g / 4294967296 = v := ⟨_, rfl⟩
      obtain ⟨a0, ha0⟩ : ∃ v, g % 4294967296 = v := ⟨_, rfl⟩
      obtain ⟨t0, ht0⟩ : ∃ v, r * 4294967296 = v := ⟨_, rfl⟩
      obtain ⟨high, hhigh⟩ : ∃ v, t0 + a1 = v := ⟨_, rfl⟩
      obtain ⟨hq, hhq⟩ : ∃ v, high / d = v := ⟨_, rfl⟩
      obtain ⟨hm, hhm⟩ : ∃ v, high % d = v := ⟨_, rfl⟩
      obtain ⟨t1, ht1⟩ : ∃ v, hm * 4294967296 = v := ⟨_, rfl⟩
      obtain ⟨low, hlow⟩ : ∃ v, t1 + a0 = v := ⟨_, rfl⟩
      obtain ⟨lq, hlq⟩ : ∃ v, low / d = v := ⟨_, rfl⟩
      obtain ⟨lr, hlr⟩ : ∃ v, low % d = v := ⟨_, rfl⟩
      obtain ⟨t2, ht2⟩ : ∃ v, hq * 4294967296 = v := ⟨_, rfl⟩
      obtain ⟨qv, hqv⟩ : ∃ v, t2 + lq = v := ⟨_, rfl⟩
      have hdm := Nat.div_add_mod high d
      have hmd := Nat.mod_lt high h0
      have hld := Nat.mod_lt low h0
      rw [hhq, hhm] at hdm
      rw [hhm] at hmd
      rw [hlr] at hld
      have hhqb : hq < 4294967296 := by
        rw [← hhq, Nat.div_lt_iff_lt_mul h0, Nat.mul_comm]
        have : (r + 1) * 4294967296 ≤ d * 4294967296 := Nat.mul_le_mul_right _ hr
        omega
      have hlqb : lq < 4294967296 := by
        rw [← hlq, Nat.div_lt_iff_lt_mul h0, Nat.mul_comm]
        have : (hm + 1) * 4294967296 ≤ d * 4294967296 := Nat.mul_le_mul_right _ hmd
        omega
      obtain ⟨hd1, hd2⟩ := halves_div (r := r) (g := g) (a1 := a1) (a0 := a0) (high := high) h0 (by omega) (by omega) hdm.symm (by omega : low = hm * 4294967296 + a0)
      rw [hlq, ht2, hqv] at hd1
      rw [hlr] at hd2
      have HF := Lib.hid (fun wr2 e he h3 h4 => HCL.out qv lr hd1 hd2 wr2 e he h3 h4)
      have i1 : ((g : Nat) : Int) / 4294967296 = ((a1 : Nat) : Int) := by omega
      have i2 : ((g : Nat) : Int) % 4294967296 = ((a0 : Nat) : Int) := by omega
      have i3 : ((high : Nat) : Int) / ((d : Nat) : Int) = ((hq : Nat) : Int) := by rw [← hhq]; simp
      have i4 : ((high : Nat) : Int) % ((d : Nat) : Int) = ((hm : Nat) : Int) := by rw [← hhm]; simp
      have i5 : ((low : Nat) : Int) / ((d : Nat) : Int) = ((lq : Nat) : Int) := by rw [← hlq]; simp
      have i6 : ((low : Nat) : Int) % ((d : Nat) : Int) = ((lr : Nat) : Int) := by rw [← hlr]; simp
      have w1 : IntKind.u64.wrap (((r : Nat) : Int) * 4294967296) = ((t0 : Nat) : Int) := by rw [IntKind.wrap_u64]; omega
      have w2 : IntKind.u64.wrap ((a1 : Nat) : Int) = ((a1 : Nat) : Int) := wrap_nat (by omega)
      have w3 : IntKind.u64.wrap (((t0 : Nat) : Int) + ((a1 : Nat) : Int)) = ((high : Nat) : Int) := by rw [IntKind.wrap_u64]; omega
      have w4 : IntKind.u64.wrap (((hm : Nat) : Int) * 4294967296) = ((t1 : Nat) : Int) := by rw [IntKind.wrap_u64]; omega
      have w5 : IntKind.u64.wrap (((t1 : Nat) : Int) + ((a0 : Nat) : Int)) = ((low : Nat) : Int) := by rw [IntKind.wrap_u64]; omega
      have w6 : IntKind.u64.wrap ((hq : Nat) : Int) = ((hq : Nat) : Int) := wrap_nat (by omega)
      have w7 : IntKind.u64.wrap (((hq : Nat) : Int) * 4294967296) = ((t2 : Nat) : Int) := by rw [IntKind.wrap_u64]; omega
      have w8 : IntKind.u64.wrap ((lq : Nat) : Int) = ((lq : Nat) : Int) := wrap_nat (by omega)
      have w9 : IntKind.u64.wrap (((t2 : Nat) : Int) + ((lq : Nat) : Int)) = ((qv : Nat) : Int) := by rw [IntKind.wrap_u64]; omega
      clear HCL ha1 ha0 ht0 hhigh hhq hhm ht1 hlow hlq hlr ht2 hqv hdm hmd hld hhqb hlqb hd1 hd2
      have hdi : (0 : Int) < ((d : Nat) : Int) := by omega
      go_wp2_with fail
      go_quiet (fail)
      go_wp2_with fail
      go_region
      all_goals (go_wp2_with fail)
      rw [i6]
      exact ⟨HF.out _ _ rfl (blk_setW (hz.drewN _) _ _) ((hbl.trans (below_drewN _ _ _)).setCell (Nat.le_refl _) _), by simp [intOf]⟩
end Go.Proofs.YtkfbailpifmdcaaGreatDoor
end

section
namespace Go.Proofs.YtkfbailpifmdcaaGreatDoor
open Go.RowKit

theorem limbs3 {v K : Nat} (h : bl v ≤ 64 * K) : (limbsOf v).length ≤ K := limbsOf_len (by rw [pw_two]; exact Nat.lt_of_lt_of_le (bl_lt v) (Nat.pow_le_pow_right (by decide) h))
theorem Tryz.infoU8 : (Tryz.prog.info? 5).map (fun i => (i.zero, i.size, i.bytes)) = some (some (.int .u8 0), 1, 1) := by kernel_rfl
/-- Bytes in a block of the call's own. -/
def Byt3 (w : World) (g n : Nat) (f : Nat → UInt8) : Prop := ∀ j, j < n → w.cell? ⟨g, j, none⟩ = some (.int .u8 ((f j).toNat : Int)) ∧ w.frozen? ⟨g, j, none⟩ = false
theorem Byt3.set {w : World} {g n i : Nat} {f f' : Nat → UInt8} {x : Int} (h : Byt3 w g n f) (hi : i < n) (hx : x = ((f' i).toNat : Int)) (hf : ∀ j, j < n → j ≠ i → f' j = f j) : Byt3 (w.setCell ⟨g, i, none⟩ (.int .u8 x)) g n f' := by
  intro j hj
  rw [World.frozen?_setCell]
  refine ⟨?_, (h j hj).2⟩
  by_cases hji : j = i
  · subst hji; rw [World.cell?_setCell_same _ _ _ (h j hj).1, hx]
  · rw [World.cell?_setCell_other _ _ _ _ (fun e => hji (congrArg Addr.off e).symm), hf j hj hji]; exact (h j hj).1
def byts (l : List UInt8) : List Value := l.map (fun c : UInt8 => Value.int .u8 ((c.toNat : Nat) : Int))
theorem byts_len (l : List UInt8) : (byts l).length = l.length := by simp [byts]
theorem byts_snoc (l : List UInt8) (c : UInt8) : byts (l ++ [c]) = byts l ++ [Value.int .u8 ((c.toNat : Nat) : Int)] := by simp [byts]
theorem byt3_row {w : World} {B : Nat} {e : TypeId} {v : Value} {l : List UInt8} (h : w.ownsRow B e 1 v l.length (byts l)) (hl : l ≠ []) :
    ∃ g cap, v = .slice (some ⟨g, 0, none⟩) l.length cap ∧ B ≤ g ∧ l.length ≤ cap ∧ cap ≤ maxLen ∧ Byt3 w g l.length (fun j => l.getD j 0) := by
  rcases h.2 with ⟨_, h0⟩ | ⟨g, cap, cur, rfl, hg, hh, hn, hm, hs, ht⟩
  · exact absurd (List.length_eq_zero_iff.1 h0) hl
  · refine ⟨g, cap, rfl, hg, hn, hm, fun j hj => ?_⟩
    have h1 : (byts l)[j]? = some (.int .u8 (((l.getD j 0).toNat : Nat) : Int)) := by
      simp [byts, List.getD, List.getElem?_eq_getElem hj]
    rw [← ht, Nat.mul_one, List.getElem?_take, if_pos hj, Array.getElem?_toList] at h1
    exact ⟨by simp [World.cell?, hh, h1], by simp [World.frozen?, hh]⟩
theorem byt3_back {w : World} {g n cap : Nat} {f : Nat → UInt8} {l : List UInt8} (h : Byt3 w g n f) (hl : l.length = n) (hf : ∀ j (hj : j < l.length), l[j] = f j) :
    (convert 81 9 (.slice (some ⟨g, 0, none⟩) n cap)).run Tryz.prog w = .ok (.string ⟨l.toArray⟩) w := by
  have hb := run_convert_bytes_back (P := Tryz.prog) w 81 9 5 ⟨g, 0, none⟩ cap l Tryz.underlying81 Tryz.underlying5 Tryz.underlying9 (fun j hj => by
    have e1 : (⟨g, 0, none⟩ : Addr).add j = ⟨g, j, none⟩ := by by_cases h0 : j = 0 <;> simp [Addr.add, h0]
    rw [e1, (h j (by omega)).1, hf j hj])
  rwa [hl] at hb
/-- The digits of what is left: nothing of nothing. -/
def dR3 (m : Nat) : List UInt8 := if m = 0 then [] else Lib.decDigits m
def dg3 (d : Nat) : UInt8 := UInt8.ofNat (48 + d)
theorem dec3_small {u : Nat} (h : u < 10) : Lib.decDigits u = [dg3 u] := Lib.decDigits_one h
theorem dec3_step {u : Nat} (h : ¬ u < 10) : Lib.decDigits u = Lib.decDigits (u / 10) ++ [dg3 (u % 10)] := by rw [Lib.decDigits, dif_neg h]; rfl
theorem dR3_step {m : Nat} (h : m ≠ 0) : dR3 m = dR3 (m / 10) ++ [dg3 (m % 10)] := by
  unfold dR3
  rw [if_neg h]
  by_cases h1 : m < 10
  · rw [dec3_small h1, if_pos (by omega), show m % 10 = m by omega]
    rfl
  · rw [dec3_step h1, if_neg (by omega)]
theorem dec3_len (k u : Nat) (h : u < 10 ^ (k + 1)) : (Lib.decDigits u).length ≤ k + 1 := by
  induction k generalizing u with
  | zero => rw [dec3_small (by simpa using h)]; simp
  | succ k ih =>
    by_cases h10 : u < 10
    · rw [dec3_small h10]; simp
    · rw [dec3_step h10, List.length_append, List.length_singleton]
      have := ih (u / 10) (by rw [Nat.pow_succ] at h; omega)
      omega
theorem dec3_bl (n : Nat) : (Lib.decDigits n).length ≤ bl n + 1 := by
  refine dec3_len (bl n) n (Nat.lt_of_lt_of_le (bl_lt n) ?_)
  exact Nat.le_trans (Nat.pow_le_pow_left (by decide) _) (Nat.pow_le_pow_right (by decide) (by omega))
theorem dec3_pos (u : Nat) : 0 < (Lib.decDigits u).length := by
  by_cases h : u < 10
  · rw [dec3_small h]; simp
  · rw [dec3_step h]; simp
/-- A list, turned from both ends inward. -/
def turn3 (acc : List UInt8) (i j : Nat) : UInt8 := if j < i ∨ acc.length - 1 - i < j then acc.getD (acc.length - 1 - j) 0 else acc.getD j 0
theorem turn3_end {acc : List UInt8} {i : Nat} (hi : i = acc.length / 2) (j : Nat) (hj : j < acc.reverse.length) : acc.reverse[j] = turn3 acc i j := by
  rw [List.length_reverse] at hj
  have e1 : acc.reverse[j]'(by rw [List.length_reverse]; exact hj) = acc.getD (acc.length - 1 - j) 0 := by
    have h2 : acc.length - 1 - j < acc.length := by omega
    rw [List.getElem_reverse]
    simp [List.getD, List.getElem?_eq_getElem h2]
  rw [e1]
  unfold turn3
  split
  · rfl
  · rw [show acc.length - 1 - j = j by omega]
theorem turn3_step {w : World} {g i : Nat} {acc : List UInt8} (h : Byt3 w g acc.length (turn3 acc i)) (hi : i < acc.length / 2) :
    w.cell? ⟨g, i, none⟩ = some (.int .u8 (((acc.getD i 0).toNat : Nat) : Int)) ∧ w.cell? ⟨g, acc.length - 1 - i, none⟩ = some (.int .u8 (((acc.getD (acc.length - 1 - i) 0).toNat : Nat) : Int)) ∧
    Byt3 ((w.setCell ⟨g, i, none⟩ (.int .u8 (((acc.getD (acc.length - 1 - i) 0).toNat : Nat) : Int))).setCell ⟨g, acc.length - 1 - i, none⟩ (.int .u8 (((acc.getD i 0).toNat : Nat) : Int))) g acc.length (turn3 acc (i + 1)) := by
  have e1 : turn3 acc i i = acc.getD i 0 := by unfold turn3; rw [if_neg (by omega)]
  have e2 : turn3 acc i (acc.length - 1 - i) = acc.getD (acc.length - 1 - i) 0 := by unfold turn3; rw [if_neg (by omega)]
  refine ⟨by rw [← e1]; exact (h i (by omega)).1, by rw [← e2]; exact (h _ (by omega)).1, ?_⟩
  refine (h.set (f' := fun j => if j = i then acc.getD (acc.length - 1 - i) 0 else turn3 acc i j) (by omega) (by simp) (fun j _ hj => by simp [hj])).set (by omega) ?_ (fun j hjl hj => ?_)
  · unfold turn3
    rw [if_pos (by omega), show acc.length - 1 - (acc.length - 1 - i) = i by omega]
  · by_cases hji : j = i
    · subst hji
      simp only [if_true]
      unfold turn3
      rw [if_pos (by omega)]
    · simp only [if_neg hji]
      unfold turn3
      by_cases hc : j < i ∨ acc.length - 1 - i < j
      · rw [if_pos hc, if_pos (by omega)]
      · rw [if_neg hc, if_neg (by omega)]
def len3 : Value → Nat
  | .slice _ n _ => n
  | _ => 0

set_option maxRecDepth 100000 in
set_option maxHeartbeats 1000000 in
theorem Text03_any (lo : Nat) (a : Value) (l : List Nat) (w : World) (ha : Words lo w a l) (hl : l.length ≤ 10000000) :
    Calls Tryz.prog 100 #[a] w fun e w' => e = .returned (.string ⟨(Lib.decDigits (valN l)).toArray⟩) ∧ Below w.heap.size w w' := by
  obtain ⟨i0, hi, hz0, hz1, hz2⟩ := info_parts Tryz.infoU8
  have hlen := limbsOf_len (valN_lt ha.ok)
  have hnbl : bl (valN l) ≤ 64 * l.length := bl_le (by rw [← pw_two]; exact valN_lt ha.ok)
  have hdl := dec3_bl (valN l)
  have hN := Norm03_any lo a l w ha (by omega)
  generalize valN l = n at *
  obtain ⟨R, hR⟩ : ∃ R, Lib.decDigits n = R := ⟨_, rfl⟩
  rw [hR] at hdl ⊢
  have HR := Lib.hid hR
  have HN := Lib.hid hN
  clear hR hN ha
  have hRl : R.length ≤ 640000001 := by omega
  by_cases h0 : n = 0
  · subst h0
    have hr : R = [48] := by rw [← HR.out, dec3_small (by decide)]; rfl
    subst hr
    have e0 : (limbsOf 0).length = 0 := by rw [limbsOf_zero]; rfl
    go_enter Tryz.func100, Tryz.ntmps100
    go_wp2_with fail
    refine HN.out.mono ?_
    rintro e w1 ⟨v, rfl, ⟨x, cap, rfl, _⟩, hb1⟩
    go_wp2_with fail
    go_ret
    exact ⟨rfl, hb1⟩
  · have hL : (limbsOf n).length ≠ 0 := by rw [Ne, limbsOf_len_zero]; exact h0
    have hbe : (((limbsOf n).length : Int) == 0) = false := beq_eq_false_iff_ne.2 (by omega)
    have hst : R = dR3 n ++ ([] : List UInt8).reverse := by rw [← HR.out]; unfold dR3; rw [if_neg h0]; simp
    have hbn : bl n ≤ 640000000 := by omega
    have HST := Lib.hid hst
    have hRp : 0 < R.length := by rw [← HR.out]; exact dec3_pos n
    clear hst HR
    go_enter Tryz.func100, Tryz.ntmps100
    go_wp2_with fail
    refine HN.out.mono ?_
    rintro e w1 ⟨v, rfl, hv, hb1⟩
    obtain ⟨x, cap, rfl⟩ : ∃ xx cc, v = .slice xx (limbsOf n).length cc := by
      obtain ⟨xx, cc, e, _⟩ := hv
      exact ⟨xx, cc, e⟩
    go_wp2_with fail
    go_loopw [0, 3] (fun u0 u3 wr => ∃ (m : Nat) (acc : List UInt8), Num 0 wr u0 m ∧ bl m ≤ 640000000 ∧ Hid (R = dR3 m ++ acc.reverse) ∧ wr.ownsRow w.heap.size 5 1 u3 acc.length (byts acc) ∧ Below w.heap.size w wr) (fun _ u3 _ => R.length - len3 u3)
    case atStart => exact ⟨n, [], hv.mono (Nat.zero_le _), hbn, HST.out, World.ownsRow_nil _ _ _ _, hb1⟩
    case round =>
      clear hv hb1 HST hL hbe
      obtain ⟨m, acc, hm, hmb, HR, hown, hbw⟩ := hrel
      obtain ⟨x0, c0, rfl⟩ : ∃ xx cc, u0 = .slice xx (limbsOf m).length cc := by
        obtain ⟨xx, cc, e, _⟩ := hm
        exact ⟨xx, cc, e⟩
      obtain ⟨x3, c3, rfl⟩ := row_slice hown
      have hal : acc.length ≤ R.length := by
        have := congrArg List.length HR.out
        rw [List.length_append, List.length_reverse] at this
        omega
      by_cases hm0 : m = 0
      · subst hm0
        have e0 : (limbsOf 0).length = 0 := by rw [limbsOf_zero]; rfl
        have hr : R = acc.reverse := by
          have := HR.out
          unfold dR3 at this
          rw [if_pos rfl] at this
          simpa using this
        subst hr
        rw [List.length_reverse] at hRl hal hRp
        obtain ⟨g, cap3, e3, hg, hcap3, hcm3, hby⟩ := byt3_row hown (by intro e; rw [e] at hRp; simp at hRp)
        injection e3 with e3 _ e4
        subst e3 e4
        obtain ⟨h2, hh2⟩ : ∃ h2, acc.length / 2 = h2 := ⟨_, rfl⟩
        have hh2i : ((acc.length : Nat) : Int) / 2 = ((h2 : Nat) : Int) := by omega
        have hby0 : Byt3 wr g acc.length (turn3 acc 0) := fun j hj => by
          have e : turn3 acc 0 j = acc.getD j 0 := by unfold turn3; rw [if_neg (by omega)]
          rw [e]
          exact hby j hj
        have HB := Lib.hid hby0
        have HH := Lib.hid hh2
        have hlen2 : h2 + h2 ≤ acc.length := by omega
        clear hm hmb HR hown hby hby0 hal hh2
        go_wp2_with fail
        go_loopw [6] (fun u6 wx => ∃ i : Nat, i ≤ h2 ∧ u6 = .int .i64 ((i : Nat) : Int) ∧ Hid (Byt3 wx g acc.length (turn3 acc i)) ∧ Below w.heap.size w wx) (fun u6 _ => h2 - (intOf u6).toNat)
        case atStart => exact ⟨0, Nat.zero_le _, rfl, HB.out, hbw⟩
        case round =>
          clear HB hbw
          obtain ⟨i, hi2, rfl, HB, hbw⟩ := hrel
          by_cases hlt : i < h2
          · obtain ⟨k1, k2, k3⟩ := turn3_step HB.out (by rw [HH.out]; exact hlt)
            have f1 := (HB.out i (by omega)).2
            have f2 := (HB.out (acc.length - 1 - i) (by omega)).2
            obtain ⟨k, hk⟩ : ∃ k, acc.length - 1 - i = k := ⟨_, rfl⟩
            rw [hk] at k2 k3 f2
            have hki : ((acc.length : Nat) : Int) - 1 - ((i : Nat) : Int) = ((k : Nat) : Int) := by omega
            have hkl : k < acc.length := by omega
            have hil : i < acc.length := by omega
            have hne : i ≠ k := by omega
            have hne2 : k ≠ i := by omega
            have HB2 := Lib.hid k3
            have hbw2 := (hbw.setCell (show w.heap.size ≤ (⟨g, i, none⟩ : Addr).block from hg) (.int .u8 (((acc.getD k 0).toNat : Nat) : Int))).setCell (show w.heap.size ≤ (⟨g, k, none⟩ : Addr).block from hg) (.int .u8 (((acc.getD i 0).toNat : Nat) : Int))
            clear HB k3 hk
            generalize (acc.getD i 0).toNat = xi at *
            generalize (acc.getD k 0).toNat = xk at *
            go_wp2_with fail
            go_roundw
            case rel => exact ⟨i + 1, by omega, by go_num, HB2.out, hbw2⟩
            case measure => simp [intOf]; omega
          · have hie : i = h2 := by omega
            have hback := byt3_back (cap := c3) HB.out (l := acc.reverse) List.length_reverse (fun j hj => turn3_end (by rw [HH.out]; exact hie) j hj)
            clear HB
            go_wp2_with fail
            go_ret
            exact ⟨rfl, hbw⟩
      · have hLm : (limbsOf m).length ≠ 0 := by rw [Ne, limbsOf_len_zero]; exact hm0
        have hpos : (0 : Int) < ((limbsOf m).length : Int) := by omega
        have hstep := HR.out
        rw [dR3_step hm0, List.append_assoc] at hstep
        have hlm3 : (limbsOf m).length ≤ 10000000 := limbs3 (by omega)
        have hsh := short03_any 0 _ _ 10 wr hm.words (by omega) (by decide) (by decide)
        rw [valN_limbsOf] at hsh
        have hml : m % 10 < 10 := Nat.mod_lt _ (by decide)
        have hdg : (dg3 (m % 10)).toNat = 48 + m % 10 := by
          unfold dg3
          rw [UInt8.toNat_ofNat']
          omega
        have hst2 : R = dR3 (m / 10) ++ (acc ++ [dg3 (m % 10)]).reverse := by rw [hstep]; simp
        have hbm : bl (m / 10) ≤ 640000000 := Nat.le_trans (bl_mono (Nat.div_le_self _ _)) hmb
        have hal2 : acc.length + 1 ≤ R.length := by
          have := congrArg List.length hst2
          rw [List.length_append, List.length_reverse, List.length_append, List.length_singleton] at this
          omega
        have hby := byts_snoc acc (dg3 (m % 10))
        rw [hdg] at hby
        have hacl : (acc ++ [dg3 (m % 10)]).length = acc.length + 1 := by simp
        generalize dg3 (m % 10) = dg at *
        generalize hr : m % 10 = r at *
        generalize hq : m / 10 = q at *
        have HSH := Lib.hid hsh
        have HS2 := Lib.hid hst2
        have HBY := Lib.hid hby
        have HAC := Lib.hid hacl
        have w1 : IntKind.u64.wrap (48 + ((r : Nat) : Int)) = ((48 + r : Nat) : Int) := by rw [IntKind.wrap_u64]; omega
        have w2 : IntKind.u8.wrap ((48 + r : Nat) : Int) = ((48 + r : Nat) : Int) := by rw [IntKind.wrap_u8]; omega
        clear hsh hst2 hby hstep hr hq hdg hacl HR hLm
        generalize 48 + r = c48 at *
        go_wp2_with fail
        refine HSH.out.mono ?_
        rintro e w3 ⟨v3, rfl, hv3, hb3⟩
        have hown3 := (show w3.ownsRow w.heap.size 5 1 (.slice x3 acc.length c3) acc.length (byts acc) from by
          obtain ⟨h1, h2⟩ := hown
          refine ⟨h1, ?_⟩
          rcases h2 with h2 | ⟨g, cap, cur, a, b, c, d⟩
          · exact .inl h2
          · exact .inr ⟨g, cap, cur, a, b, (hb3.block g (lt_of_block c)).trans c, d⟩)
        have hbw3 := hbw.trans (hb3.mono hbw.size)
        go_wp2_with (at_builtin; refine wpList_append1 rfl _ _ 81 rfl w.heap.size 5 i0 (.int .u8 0) 1 Tryz.underlying81 hi hz0 hz1 hz2 rfl _ _ _ rfl hown3 _ _ rfl rfl (by unfold maxLen; omega) (by omega) hbw3.size ?_; intro v' w4 hown4 hg4)
        obtain ⟨x4, c4, rfl⟩ := row_slice hown4
        have hg5 : w3.grownBy w4 (Value.slice x3 acc.length c3).ownBlock := hg4
        have hbw4 := Below.grownB hbw3 hg5 hbw3.size hown3
        have hn4 : Num 0 w4 v3 q := (num_grown hv3 hg5 (fun k e => (hown.lt k e).2)).mono (Nat.zero_le _)
        go_roundw
        case rel =>
          refine ⟨q, acc ++ [dg], hn4, hbm, HS2.out, ?_, hbw4⟩
          rw [HAC.out, HBY.out]
          exact hown4
        case measure => simp [len3]; omega
end Go.Proofs.YtkfbailpifmdcaaGreatDoor
end

section
namespace Go.Proofs.YtkfbailpifmdcaaGreatDoor
open Go.RowKit

set_option maxRecDepth 100000 in
set_option maxHeartbeats 1000000 in
theorem Form04_any (lo : Nat) (neg : Bool) (a : Value) (l : List Nat) (exp : Int) (w : World) (ha : Words lo w a l) (hl : l.length ≤ 1000000) (he : -4611686018427387904 ≤ exp) (he2 : exp ≤ 4611686018427387904) :
    Calls Tryz.prog 105 #[.bool neg, a, .int .i64 exp] w (DyPost w (fNeg neg (valN l)) (fAbs (valN l)) (fExp (valN l) exp)) := by
  have hlen := limbsOf_len (valN_lt ha.ok)
  have hbl := bl_words ha.ok
  have hba := (Below.refl w.heap.size w).alloc (Nat.le_refl _) (.cells #[.bool false, .slice none 0 0, .int .i64 0] 62)
  have hda := Blk.new w #[.bool false, .slice none 0 0, .int .i64 0] 62
  have hN := Norm03_any lo a l _ (ha.call hba) (by omega)
  have hg0 : w.heap.size ≤ w.heap.size := Nat.le_refl _
  clear ha
  generalize valN l = n at *
  have HN := Lib.hid hN
  clear hN
  have E1 := Lib.hid (valN_limbsOf n)
  by_cases h0 : n = 0
  · subst h0
    have e0 : (limbsOf 0).length = 0 := by rw [limbsOf_zero]; rfl
    go_enter Tryz.func105, Tryz.ntmps105
    go_wp2_with fail
    refine HN.out.mono ?_
    rintro e w1 ⟨v1, rfl, ⟨x, cap, rfl, _⟩, hb1⟩
    have hd1 := hda.call hb1
    have f0 := hd1.free 0
    have f1 := hd1.free 1
    have f2 := hd1.free 2
    have d0 := hd1.cell 0 _ rfl
    have d1 := hd1.cell 1 _ rfl
    have d2 := hd1.cell 2 _ rfl
    have hb2 := hba.trans (hb1.mono hba.size)
    go_wp2_with fail
    have hd3 := ((hd1.set 0 (.bool false)).set 1 (.slice none 0 0)).set 2 (.int .i64 0)
    have o0 := hd3.cell 0 _ rfl
    have o1 := hd3.cell 1 _ rfl
    have o2 := hd3.cell 2 _ rfl
    refine bodyPost_ret (v := .agg #[.bool false, .slice none 0 0, .int .i64 0]) (by simp [results, Tryz.results105, go_sem, o0, o1, o2]; try rfl) rfl ⟨_, rfl, ⟨_, by unfold fNeg fExp; rfl, ?_⟩, ((hb2.setCell hg0 _).setCell hg0 _).setCell hg0 _⟩
    rw [show fAbs 0 = 0 from Nat.zero_div _]
    exact Num.zero _ _ _ _ (by omega)
  · have hL : (limbsOf n).length ≠ 0 := by rw [Ne, limbsOf_len_zero]; exact h0
    have hbe : (((limbsOf n).length : Int) == 0) = false := beq_eq_false_iff_ne.2 (by omega)
    have htz := tz_le h0
    have HN0 := Lib.hid h0
    clear h0
    go_enter Tryz.func105, Tryz.ntmps105
    go_wp2_with fail
    refine HN.out.mono ?_
    rintro e w1 ⟨v1, rfl, hv1, hb1⟩
    obtain ⟨x1, c1, rfl⟩ : ∃ xx cc, v1 = .slice xx (limbsOf n).length cc := by
      obtain ⟨xx, cc, e, _⟩ := hv1
      exact ⟨xx, cc, e⟩
    have hb2 := hba.trans (hb1.mono hba.size)
    have hd1 := hda.call hb1
    have hlo := Low03_any _ _ _ w1 hv1.words (by omega)
    rw [E1.out] at hlo
    have HLO := Lib.hid hlo
    clear hlo
    go_wp2_with fail
    refine HLO.out.mono ?_
    rintro e w2 ⟨rfl, hb3⟩
    have hb4 := hb2.trans (hb3.mono hb2.size)
    have hd2 := hd1.call hb3
    have hsh := Shr03_any _ _ _ (tz n) w2 (hv1.call hb3).words (by omega) (by omega)
    rw [E1.out] at hsh
    have HSH := Lib.hid hsh
    clear hsh HLO HN
    go_wp2_with fail
    refine HSH.out.mono ?_
    rintro e w3 ⟨v3, rfl, hv3, hb5⟩
    have hv4 : Num (w.heap.size + 1) w3 v3 (n / 2 ^ tz n) := hv3.mono (by
      have h1 := hd1.lt
      have h2 := hb3.size
      omega)
    obtain ⟨x3, n3, c3, rfl⟩ := hv3.slice
    have hd3 := hd2.call hb5
    have hb6 := hb4.trans (hb5.mono hb4.size)
    have f0 := hd3.free 0
    have f1 := hd3.free 1
    have f2 := hd3.free 2
    have d0 := hd3.cell 0 _ rfl
    have d1 := hd3.cell 1 _ rfl
    have d2 := hd3.cell 2 _ rfl
    clear HSH hd1 hd2 hb2 hb4
    go_wp2_with fail
    have hd5 := ((hd3.set 0 (.bool neg)).set 1 (.slice x3 n3 c3)).set 2 (.int .i64 (exp + ((tz n : Nat) : Int)))
    have o0 := hd5.cell 0 _ rfl
    have o1 := hd5.cell 1 _ rfl
    have o2 := hd5.cell 2 _ rfl
    have hv5 := ((hv4.gb (gb_set w3 w.heap.size 0 none (.bool neg)) (by omega)).gb (gb_set _ w.heap.size 1 none (.slice x3 n3 c3)) (by omega)).gb (gb_set _ w.heap.size 2 none (.int .i64 (exp + ((tz n : Nat) : Int)))) (by omega)
    refine bodyPost_ret (v := .agg #[.bool neg, .slice x3 n3 c3, .int .i64 (exp + ((tz n : Nat) : Int))]) (by simp [results, Tryz.results105, go_sem, o0, o1, o2]; try rfl) rfl ⟨_, rfl, ⟨_, by unfold fNeg fExp; rw [if_neg HN0.out, if_neg HN0.out], hv5.mono (by omega)⟩, ((hb6.setCell hg0 _).setCell hg0 _).setCell hg0 _⟩

def neg3 (x : Nat) : Nat := if 9223372036854775808 ≤ x then x - 9223372036854775808 else x + 9223372036854775808
theorem Neg01_any (x : Nat) (w : World) (hx : x < 18446744073709551616) :
    Calls Tryz.prog 132 #[.int .u64 ((x : Nat) : Int)] w fun e w' => e = .returned (.int .u64 ((neg3 x : Nat) : Int)) ∧ w = w' := by
  unfold neg3
  by_cases h : 9223372036854775808 ≤ x
  · rw [if_pos h]
    obtain ⟨y, hy⟩ : ∃ y, x - 9223372036854775808 = y := ⟨_, rfl⟩
    rw [hy]
    have d1 : decide ((9223372036854775808 : Int) ≤ ((x : Nat) : Int)) = true := decide_eq_true (by omega)
    have w1 : IntKind.u64.wrap (((x : Nat) : Int) - 9223372036854775808) = ((y : Nat) : Int) := by rw [IntKind.wrap_u64]; omega
    go_enter Tryz.func132, Tryz.ntmps132
    go_wp2_with fail
    go_ret
    exact ⟨rfl, rfl⟩
  · rw [if_neg h]
    obtain ⟨y, hy⟩ : ∃ y, x + 9223372036854775808 = y := ⟨_, rfl⟩
    rw [hy]
    have d1 : decide ((9223372036854775808 : Int) ≤ ((x : Nat) : Int)) = false := decide_eq_false (by omega)
    have w1 : IntKind.u64.wrap (((x : Nat) : Int) + 9223372036854775808) = ((y : Nat) : Int) := by rw [IntKind.wrap_u64]; omega
    go_enter Tryz.func132, Tryz.ntmps132
    go_wp2_with fail
    go_ret
    exact ⟨rfl, rfl⟩
end Go.Proofs.YtkfbailpifmdcaaGreatDoor
end
