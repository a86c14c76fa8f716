/- DivB LimI DivC -/
import Derived.Test.YtkfbailpifmdcaaGreatDoorMac
import Derived.Deep.DeepCutAuto
import Derived.Deep.CutBlock
import Derived.Test.YtkfbailpifmdcaaGreatDoorMaa
section
namespace Go.Proofs.YtkfbailpifmdcaaGreatDoor
open Go.RowKit

theorem lz64 (x : Nat) (hx : x < 18446744073709551616) (w : World) :
    Calls Tryz.prog 109 #[.int .u64 ((x : Nat) : Int)] w fun e w' => e = .returned (.int .i64 ((64 - bl x : Nat) : Int)) ∧ w = w' := by
  refine (Tryz.bits_LeadingZeros64 (x : Int) w (by omega) (by omega)).mono ?_
  rintro e w1 ⟨rfl, rfl⟩
  have hb : bl x ≤ 64 := bl_le hx
  have := bl_bitLen x
  exact ⟨ret_int (by rw [Int.toNat_natCast]; omega), rfl⟩

theorem wrapN {e : Int} {x : Nat} (he : e = ((x : Nat) : Int)) (hx : x < 18446744073709551616) : IntKind.u64.wrap e = ((x : Nat) : Int) := by
  subst he; rw [IntKind.wrap_u64]; omega
theorem norm_ge {x : Nat} (h : x ≠ 0) (hx : x < 18446744073709551616) : 9223372036854775808 ≤ x * 2 ^ (64 - bl x) := by
  have h1 := bl_ge h
  have h2 : bl x ≤ 64 := bl_le hx
  have h3 := bl_pos h
  have h4 : (9223372036854775808 : Nat) = 2 ^ (bl x - 1) * 2 ^ (64 - bl x) := by rw [← Nat.pow_add, show bl x - 1 + (64 - bl x) = 63 by omega]
  rw [h4]
  exact Nat.mul_le_mul_right _ h1
theorem norm_lt {x : Nat} (hx : x < 18446744073709551616) : x * 2 ^ (64 - bl x) < 18446744073709551616 := by
  have h1 := bl_lt x
  have h2 : bl x ≤ 64 := bl_le hx
  have h4 : (18446744073709551616 : Nat) = 2 ^ bl x * 2 ^ (64 - bl x) := by rw [← Nat.pow_add, show bl x + (64 - bl x) = 64 by omega]
  rw [h4]
  exact Nat.mul_lt_mul_of_pos_right h1 (Nat.two_pow_pos _)

theorem and32 (x : Nat) (hx : x < 18446744073709551616) : bits .and .u64 ((x : Nat) : Int) 4294967295 = ((x % 4294967296 : Nat) : Int) := by
  have := bits_mask .u64 64 (by decide) wraps_u64 32 (by decide) ((x : Nat) : Int) (by omega) (by omega)
  simpa using this
theorem or_comm64 (x y : Nat) (hx : x < 18446744073709551616) (hy : y < 18446744073709551616) : bits .or .u64 ((x : Nat) : Int) ((y : Nat) : Int) = bits .or .u64 ((y : Nat) : Int) ((x : Nat) : Int) := by
  rw [(bits_nat .u64 64 (by decide) wraps_u64 x y (by omega) (by omega)).2, (bits_nat .u64 64 (by decide) wraps_u64 y x (by omega) (by omega)).2, Nat.or_comm]

def DivPost (w : World) (q r : Nat) (e : Ending) (w' : World) : Prop := e = .returned (.tuple #[.int .u64 ((q : Nat) : Int), .int .u64 ((r : Nat) : Int)]) ∧ ∃ m, w' = w.drewN m

set_option maxRecDepth 100000 in
set_option maxHeartbeats 2000000 in
theorem Div64_any (hi lo y0 : Nat) (hh : hi < y0) (hl : lo < 18446744073709551616) (hy : y0 < 18446744073709551616) (w : World) :
    Calls Tryz.prog 111 #[.int .u64 ((hi : Nat) : Int), .int .u64 ((lo : Nat) : Int), .int .u64 ((y0 : Nat) : Int)] w
      (DivPost w ((hi * 18446744073709551616 + lo) / y0) ((hi * 18446744073709551616 + lo) % y0)) := by
  have hb0 : (((y0 : Nat) : Int) == 0) = false := beq_eq_false_iff_ne.2 (by omega)
  by_cases h0 : hi = 0
  · have hbh : (((hi : Nat) : Int) == 0) = true := by rw [h0]; rfl
    have HZ := Lib.hid h0
    clear h0
    go_enter Tryz.func111, Tryz.ntmps111
    go_wp2
    go_quiet (fail)
    go_wp2
    go_ret2
    have e1 : IntKind.u64.wrap (((lo : Nat) : Int) / ((y0 : Nat) : Int)) = ((lo / y0 : Nat) : Int) := wrapN (by simp) (Nat.lt_of_le_of_lt (Nat.div_le_self lo y0) hl)
    refine ⟨by rw [HZ.out, Nat.zero_mul, Nat.zero_add, e1]; rfl, _, rfl⟩
  · have hbh : (((hi : Nat) : Int) == 0) = false := beq_eq_false_iff_ne.2 (by omega)
    have hs : 64 - bl y0 < 64 := by have := bl_pos (n := y0) (by omega); omega
    clear h0
    go_enter Tryz.func111, Tryz.ntmps111
    generalize hZ : (4294967296 : Int) = Z
    have HZ := Lib.hid hZ
    clear hZ
    go_wp2_with fail
    refine (lz64 y0 hy _).mono ?_
    rintro e w1 ⟨rfl, rfl⟩
    have hy2 := norm_ge (by omega) hy
    have hy3 := norm_lt hy
    generalize 64 - bl y0 = s at *
    have ey : IntKind.u64.wrap (((y0 : Nat) : Int) * 2 ^ s) = ((y0 * 2 ^ s : Nat) : Int) := wrapN (by simp) hy3
    generalize hyy : y0 * 2 ^ s = y at *
    have HYY := Lib.hid hyy
    clear hyy
    obtain ⟨n1, hn1⟩ : ∃ n, y / 4294967296 = n := ⟨_, rfl⟩
    obtain ⟨n0, hn0⟩ : ∃ n, y % 4294967296 = n := ⟨_, rfl⟩
    have e1 : ((y : Nat) : Int) / 4294967296 = ((n1 : Nat) : Int) := by omega
    have e2 : ((y : Nat) : Int) % 4294967296 = ((n0 : Nat) : Int) := by omega
    have hA := Nat.mul_le_mul_right (2 ^ s) (Nat.le_of_lt hh)
    rw [HYY.out] at hA
    have hB := shr_low_lt (y := lo) (k := 64 - s) hl (by omega)
    rw [show 64 - (64 - s) = s by omega] at hB
    have hBl := Nat.div_le_self lo (2 ^ (64 - s))
    have hor := or_add (c := lo / 2 ^ (64 - s)) (x := hi * 2 ^ s) hB (Nat.mul_mod_left _ _) (by omega) hs
    have hsh := halves_shift (hi := hi) (lo := lo) hs
    have e3 : IntKind.u64.wrap (((hi : Nat) : Int) * 2 ^ s) = ((hi * 2 ^ s : Nat) : Int) := wrapN (by simp) (by omega)
    have e4 : ((lo : Nat) : Int) / 2 ^ (64 - s) = ((lo / 2 ^ (64 - s) : Nat) : Int) := by simp
    have e5 : IntKind.u64.wrap (((lo : Nat) : Int) * 2 ^ s) = ((lo * 2 ^ s % 18446744073709551616 : Nat) : Int) := by rw [IntKind.wrap_u64]; simp
    generalize hU0 : lo / 2 ^ (64 - s) = B at *
    generalize hA1 : hi * 2 ^ s = A at *
    generalize hU2 : lo * 2 ^ s % 18446744073709551616 = u10 at *
    clear hU0
    have hu10 : u10 < 18446744073709551616 := by omega
    obtain ⟨u1, hu1⟩ : ∃ n, u10 / 4294967296 = n := ⟨_, rfl⟩
    obtain ⟨u0, hu0⟩ : ∃ n, u10 % 4294967296 = n := ⟨_, rfl⟩
    have e6 : ((u10 : Nat) : Int) / 4294967296 = ((u1 : Nat) : Int) := by omega
    have e7 : ((u10 : Nat) : Int) % 4294967296 = ((u0 : Nat) : Int) := by omega
    have e8 := and32 y hy3
    have e9 := and32 u10 hu10
    rw [hn0] at e8
    rw [hu0] at e9
    have e10 : bits .or .u64 ((A : Nat) : Int) ((B : Nat) : Int) = ((B + A : Nat) : Int) := by rw [or_comm64 A B (by omega) (by omega)]; exact hor
    have hUy : B + A < y := by
      have := Nat.mul_le_mul_right (2 ^ s) hh
      rw [HYY.out, Nat.succ_mul, hA1] at this; omega
    have hsh' : (hi * 18446744073709551616 + lo) * 2 ^ s = (B + A) * 18446744073709551616 + (u1 * 4294967296 + u0) := by rw [hsh, Nat.add_comm A B]; omega
    have hst := half_start (U := B + A) (u1 := u1) (n1 := n1) (n0 := n0) (by omega) (by omega) (by omega) (by omega) (by omega)
    obtain ⟨Q1, R1, Q0, R0, hq1, hr1, hR1y, hQ1, hq0, hr0, hR0y, hQ0, hq, hr⟩ := halves_ex (hi := hi) (lo := lo) (n1 := n1) (n0 := n0) (by omega) HYY.out.symm (by omega) hsh' hUy (by omega) (by omega)
    have HQ1 := Lib.hid hq1
    have HR1 := Lib.hid hr1
    have HQ0 := Lib.hid hq0
    have HR0 := Lib.hid hr0
    have HR1y := Lib.hid hR1y
    have HR0y := Lib.hid hR0y
    have HQ1b := Lib.hid hQ1
    have HQ0b := Lib.hid hQ0
    clear hq1 hr1 hR1y hQ1 hq0 hr0 hR0y hQ0
    generalize B + A = U at *
    have HQ := Lib.hid hq
    have HR := Lib.hid hr
    have hUdiv := Nat.div_add_mod U n1
    generalize hqq : U / n1 = q at *
    generalize U % n1 = r at *
    obtain ⟨P, hP⟩ : ∃ P, P = q * n1 := ⟨_, rfl⟩
    rw [Nat.mul_comm, ← hP] at hUdiv
    have e11 : IntKind.u64.wrap (((U : Nat) : Int) / ((n1 : Nat) : Int)) = ((q : Nat) : Int) := wrapN (by simp [← hqq]) (by have := Nat.div_le_self U n1; omega)
    have e12 : IntKind.u64.wrap (((q : Nat) : Int) * ((n1 : Nat) : Int)) = ((P : Nat) : Int) := wrapN (by simp [hP]) (by omega)
    have e13 : IntKind.u64.wrap (((U : Nat) : Int) - ((P : Nat) : Int)) = ((r : Nat) : Int) := wrapN (by omega) (by have := hst.2.2.2; omega)
    have HST := Lib.hid hst
    have hn0' : n0 < 4294967296 := by omega
    have hn1' : 2147483648 ≤ n1 ∧ n1 < 4294967296 := by omega
    have hu1' : u1 < 4294967296 := by omega
    have hu0' : u0 < 4294967296 := by omega
    have hyn : y = n1 * 4294967296 + n0 := by omega
    have HYN := Lib.hid hyn
    clear hq hr hA hA1 hB hBl hor hsh hsh' hn1 hn0 hu1 hu0 hU2 hqq hP hUdiv hst hyn
    go_upto_block 0 with fail
    clear ey e1 e2 e3 e4 e5 e6 e7 e8 e9 e10 e11 e12 e13
    go_cut [15, 16] (fun u15 u16 wx => u15 = .int .u64 ((Q1 : Nat) : Int) ∧ (∃ r, u16 = .int .u64 r) ∧ wx = w)
    case first =>
      go_wp2_with fail
      go_loop [15, 16] (fun u15 u16 => ∃ q r : Nat, u15 = .int .u64 ((q : Nat) : Int) ∧ u16 = .int .u64 ((r : Nat) : Int) ∧ q ≤ 4294967297 ∧ r < 4294967296 ∧ Hid (HalfInv U u1 n1 n0 q r)) (fun u15 _ => (intOf u15).toNat)
      case atStart => exact ⟨q, r, rfl, rfl, HST.out.2.2.1, HST.out.2.2.2, HST⟩
      case round =>
        clear HST
        obtain ⟨q, r, rfl, rfl, hq, hr, HI⟩ := hrel
        by_cases hc1 : 4294967296 ≤ q
        · have hc1' : Z ≤ ((q : Nat) : Int) := by have := HZ.out; omega
          have hd := half_down HI.out (by rw [← HYN.out]; exact hUy) hu1' (.inl hc1)
          have HD := Lib.hid hd
          have hw1 : IntKind.u64.wrap (((q : Nat) : Int) - 1) = ((q - 1 : Nat) : Int) := wrapN (by omega) (by omega)
          have hw2 : IntKind.u64.wrap (((r : Nat) : Int) + ((n1 : Nat) : Int)) = ((r + n1 : Nat) : Int) := wrapN (by omega) (by omega)
          generalize hq1 : q - 1 = q' at *
          generalize hr1 : r + n1 = r' at *
          have HQ1' := Lib.hid hq1
          clear hd hq1 hr1 hq hc1
          by_cases hc3 : 4294967296 ≤ r'
          · have hc3' : Z ≤ ((r' : Nat) : Int) := by have := HZ.out; omega
            have he := half_end (r := r') (by omega) HD.out.2.1 HD.out.2.2.1 (Nat.le_trans (half_over hn0' HD.out.2.2.2 hc3) (Nat.le_add_right _ _))
            have HE := Lib.hid he
            clear he hc3
            go_wp2_with fail
            go_meet
            exact ⟨by rw [HE.out, HQ1.out], ⟨_, rfl⟩, rfl⟩
          · have hc3' : ¬ (Z ≤ ((r' : Nat) : Int)) := by have := HZ.out; omega
            have HC3 := Lib.hid hc3
            clear hc3
            go_wp2_with fail
            go_round
            case rel => exact ⟨q', r', rfl, rfl, by have := HD.out.2.2.2; omega, by have := HC3.out; omega, HD.out.2.1, HD.out.2.2.1, by have := HD.out.2.2.2; omega, by have := HC3.out; omega⟩
            case measure => simp [intOf]; have := HQ1'.out; have := HD.out.1; omega
        · have hc1' : ¬ (Z ≤ ((q : Nat) : Int)) := by have := HZ.out; omega
          obtain ⟨P, hP⟩ : ∃ P, q * n0 = P := ⟨_, rfl⟩
          have hPb : P ≤ 4294967296 * 4294967296 - 1 := by
            rw [← hP]
            have := Nat.mul_le_mul (show q ≤ 4294967295 by omega) (show n0 ≤ 4294967295 by omega)
            omega
          have hw0 : IntKind.u64.wrap (((q : Nat) : Int) * ((n0 : Nat) : Int)) = ((P : Nat) : Int) := wrapN (by rw [← hP]; simp) (by omega)
          obtain ⟨R0, hR0⟩ : ∃ R0, 4294967296 * r = R0 := ⟨_, rfl⟩
          obtain ⟨R, hR⟩ : ∃ R, 4294967296 * r + u1 = R := ⟨_, rfl⟩
          have hw4 : IntKind.u64.wrap (Z * ((r : Nat) : Int)) = ((R0 : Nat) : Int) := by rw [← HZ.out]; exact wrapN (by omega) (by omega)
          have hw3 : IntKind.u64.wrap (((R0 : Nat) : Int) + ((u1 : Nat) : Int)) = ((R : Nat) : Int) := wrapN (by omega) (by omega)
          have HC1 := Lib.hid hc1
          clear hR0 hc1
          by_cases hc2 : R < P
          · have hd := half_down HI.out (by rw [← HYN.out]; exact hUy) hu1' (.inr (by rw [hR, hP]; exact hc2))
            have HD := Lib.hid hd
            have hw1 : IntKind.u64.wrap (((q : Nat) : Int) - 1) = ((q - 1 : Nat) : Int) := wrapN (by omega) (by have := HC1.out; omega)
            have hw2 : IntKind.u64.wrap (((r : Nat) : Int) + ((n1 : Nat) : Int)) = ((r + n1 : Nat) : Int) := wrapN (by omega) (by omega)
            generalize hq1 : q - 1 = q' at *
            generalize hr1 : r + n1 = r' at *
            have HQ1' := Lib.hid hq1
            clear hd hq1 hr1 hP hR hPb hq
            by_cases hc3 : 4294967296 ≤ r'
            · have hc3' : Z ≤ ((r' : Nat) : Int) := by have := HZ.out; omega
              have he := half_end (r := r') (by omega) HD.out.2.1 HD.out.2.2.1 (Nat.le_trans (half_over hn0' HD.out.2.2.2 hc3) (Nat.le_add_right _ _))
              have HE := Lib.hid he
              clear he hc3
              go_wp2_with fail
              go_meet
              exact ⟨by rw [HE.out, HQ1.out], ⟨_, rfl⟩, rfl⟩
            · have hc3' : ¬ (Z ≤ ((r' : Nat) : Int)) := by have := HZ.out; omega
              have HC3 := Lib.hid hc3
              clear hc3
              go_wp2_with fail
              go_round
              case rel => exact ⟨q', r', rfl, rfl, by have := HD.out.2.2.2; omega, by have := HC3.out; omega, HD.out.2.1, HD.out.2.2.1, by have := HD.out.2.2.2; omega, by have := HC3.out; omega⟩
              case measure => simp [intOf]; have := HQ1'.out; have := HD.out.1; omega
          · have he := half_end (r := r) (by omega) HI.out.1 HI.out.2.1 (by rw [hR, hP]; omega)
            have HE := Lib.hid he
            clear he hP hR hPb hq
            go_wp2_with fail
            go_meet
            exact ⟨by rw [HE.out, HQ1.out], ⟨_, rfl⟩, rfl⟩
    case rest =>
      obtain ⟨rfl, ⟨_, rfl⟩, hw⟩ := hcut
      subst hw
      clear HST
      have hR1 := HR1.out
      have hR1y := HR1y.out
      obtain ⟨T3, hT3⟩ : ∃ T, Q1 * y = T := ⟨_, rfl⟩
      rw [Nat.mul_comm y, hT3] at hR1
      obtain ⟨T1, hT1⟩ : ∃ T, U * 4294967296 % 18446744073709551616 = T := ⟨_, rfl⟩
      obtain ⟨T2, hT2⟩ : ∃ T, (U * 4294967296 + u1) % 18446744073709551616 = T := ⟨_, rfl⟩
      obtain ⟨T4, hT4⟩ : ∃ T, T3 % 18446744073709551616 = T := ⟨_, rfl⟩
      have e1 : IntKind.u64.wrap (((U : Nat) : Int) * Z) = ((T1 : Nat) : Int) := by rw [← HZ.out, IntKind.wrap_u64]; omega
      have e2 : IntKind.u64.wrap (((T1 : Nat) : Int) + ((u1 : Nat) : Int)) = ((T2 : Nat) : Int) := by rw [IntKind.wrap_u64]; omega
      have e3 : IntKind.u64.wrap (((Q1 : Nat) : Int) * ((y : Nat) : Int)) = ((T4 : Nat) : Int) := by
        rw [IntKind.wrap_u64, ← hT4, ← hT3]; simp
      have e4 : IntKind.u64.wrap (((T2 : Nat) : Int) - ((T4 : Nat) : Int)) = ((R1 : Nat) : Int) := by rw [IntKind.wrap_u64]; omega
      have hst := half_start (U := R1) (u1 := u0) (n1 := n1) (n0 := n0) (by omega) (by omega) (by omega) (by have := HYN.out; omega) (by omega)
      have hUdiv := Nat.div_add_mod R1 n1
      generalize hqq : R1 / n1 = q at *
      generalize R1 % n1 = r at *
      obtain ⟨P, hP⟩ : ∃ P, P = q * n1 := ⟨_, rfl⟩
      rw [Nat.mul_comm, ← hP] at hUdiv
      have e11 : IntKind.u64.wrap (((R1 : Nat) : Int) / ((n1 : Nat) : Int)) = ((q : Nat) : Int) := wrapN (by simp [← hqq]) (by have := Nat.div_le_self R1 n1; omega)
      have e12 : IntKind.u64.wrap (((q : Nat) : Int) * ((n1 : Nat) : Int)) = ((P : Nat) : Int) := wrapN (by simp [hP]) (by omega)
      have e13 : IntKind.u64.wrap (((R1 : Nat) : Int) - ((P : Nat) : Int)) = ((r : Nat) : Int) := wrapN (by omega) (by have := hst.2.2.2; omega)
      have HST := Lib.hid hst
      clear hst hT1 hT2 hT3 hT4 hR1 hqq hP hUdiv
      go_upto_block 2 with fail
      clear e1 e2 e3 e4 e11 e12 e13
      go_cut [18, 16] (fun u18 u16 wx => u18 = .int .u64 ((Q0 : Nat) : Int) ∧ (∃ r, u16 = .int .u64 r) ∧ wx = wc)
      case first =>
        go_wp2_with fail
        go_loop [18, 16] (fun u18 u16 => ∃ q r : Nat, u18 = .int .u64 ((q : Nat) : Int) ∧ u16 = .int .u64 ((r : Nat) : Int) ∧ q ≤ 4294967297 ∧ r < 4294967296 ∧ Hid (HalfInv R1 u0 n1 n0 q r)) (fun u18 _ => (intOf u18).toNat)
        case atStart => exact ⟨q, r, rfl, rfl, HST.out.2.2.1, HST.out.2.2.2, HST⟩
        case round =>
          clear HST
          obtain ⟨q, r, rfl, rfl, hq, hr, HI⟩ := hrel
          by_cases hc1 : 4294967296 ≤ q
          · have hc1' : Z ≤ ((q : Nat) : Int) := by have := HZ.out; omega
            have hd := half_down HI.out (by rw [← HYN.out]; exact hR1y) hu0' (.inl hc1)
            have HD := Lib.hid hd
            have hw1 : IntKind.u64.wrap (((q : Nat) : Int) - 1) = ((q - 1 : Nat) : Int) := wrapN (by omega) (by omega)
            have hw2 : IntKind.u64.wrap (((r : Nat) : Int) + ((n1 : Nat) : Int)) = ((r + n1 : Nat) : Int) := wrapN (by omega) (by omega)
            generalize hq1 : q - 1 = q' at *
            generalize hr1 : r + n1 = r' at *
            have HQ1' := Lib.hid hq1
            clear hd hq1 hr1 hq hc1
            by_cases hc3 : 4294967296 ≤ r'
            · have hc3' : Z ≤ ((r' : Nat) : Int) := by have := HZ.out; omega
              have he := half_end (r := r') (by omega) HD.out.2.1 HD.out.2.2.1 (Nat.le_trans (half_over hn0' HD.out.2.2.2 hc3) (Nat.le_add_right _ _))
              have HE := Lib.hid he
              clear he hc3
              go_wp2_with fail
              go_meet
              exact ⟨by rw [HE.out, HQ0.out], ⟨_, rfl⟩, rfl⟩
            · have hc3' : ¬ (Z ≤ ((r' : Nat) : Int)) := by have := HZ.out; omega
              have HC3 := Lib.hid hc3
              clear hc3
              go_wp2_with fail
              go_round
              case rel => exact ⟨q', r', rfl, rfl, by have := HD.out.2.2.2; omega, by have := HC3.out; omega, HD.out.2.1, HD.out.2.2.1, by have := HD.out.2.2.2; omega, by have := HC3.out; omega⟩
              case measure => simp [intOf]; have := HQ1'.out; have := HD.out.1; omega
          · have hc1' : ¬ (Z ≤ ((q : Nat) : Int)) := by have := HZ.out; omega
            obtain ⟨P, hP⟩ : ∃ P, q * n0 = P := ⟨_, rfl⟩
            have hPb : P ≤ 4294967296 * 4294967296 - 1 := by
              rw [← hP]
              have := Nat.mul_le_mul (show q ≤ 4294967295 by omega) (show n0 ≤ 4294967295 by omega)
              omega
            have hw0 : IntKind.u64.wrap (((q : Nat) : Int) * ((n0 : Nat) : Int)) = ((P : Nat) : Int) := wrapN (by rw [← hP]; simp) (by omega)
            obtain ⟨R0, hR0⟩ : ∃ R0, 4294967296 * r = R0 := ⟨_, rfl⟩
            obtain ⟨R, hR⟩ : ∃ R, 4294967296 * r + u0 = R := ⟨_, rfl⟩
            have hw4 : IntKind.u64.wrap (Z * ((r : Nat) : Int)) = ((R0 : Nat) : Int) := by rw [← HZ.out]; exact wrapN (by omega) (by omega)
            have hw3 : IntKind.u64.wrap (((R0 : Nat) : Int) + ((u0 : Nat) : Int)) = ((R : Nat) : Int) := wrapN (by omega) (by omega)
            have HC1 := Lib.hid hc1
            clear hR0 hc1
            by_cases hc2 : R < P
            · have hd := half_down HI.out (by rw [← HYN.out]; exact hR1y) hu0' (.inr (by rw [hR, hP]; exact hc2))
              have HD := Lib.hid hd
              have hw1 : IntKind.u64.wrap (((q : Nat) : Int) - 1) = ((q - 1 : Nat) : Int) := wrapN (by omega) (by have := HC1.out; omega)
              have hw2 : IntKind.u64.wrap (((r : Nat) : Int) + ((n1 : Nat) : Int)) = ((r + n1 : Nat) : Int) := wrapN (by omega) (by omega)
              generalize hq1 : q - 1 = q' at *
              generalize hr1 : r + n1 = r' at *
              have HQ1' := Lib.hid hq1
              clear hd hq1 hr1 hP hR hPb hq
              by_cases hc3 : 4294967296 ≤ r'
              · have hc3' : Z ≤ ((r' : Nat) : Int) := by have := HZ.out; omega
                have he := half_end (r := r') (by omega) HD.out.2.1 HD.out.2.2.1 (Nat.le_trans (half_over hn0' HD.out.2.2.2 hc3) (Nat.le_add_right _ _))
                have HE := Lib.hid he
                clear he hc3
                go_wp2_with fail
                go_meet
                exact ⟨by rw [HE.out, HQ0.out], ⟨_, rfl⟩, rfl⟩
              · have hc3' : ¬ (Z ≤ ((r' : Nat) : Int)) := by have := HZ.out; omega
                have HC3 := Lib.hid hc3
                clear hc3
                go_wp2_with fail
                go_round
                case rel => exact ⟨q', r', rfl, rfl, by have := HD.out.2.2.2; omega, by have := HC3.out; omega, HD.out.2.1, HD.out.2.2.1, by have := HD.out.2.2.2; omega, by have := HC3.out; omega⟩
                case measure => simp [intOf]; have := HQ1'.out; have := HD.out.1; omega
            · have he := half_end (r := r) (by omega) HI.out.1 HI.out.2.1 (by rw [hR, hP]; omega)
              have HE := Lib.hid he
              clear he hP hR hPb hq
              go_wp2_with fail
              go_meet
              exact ⟨by rw [HE.out, HQ0.out], ⟨_, rfl⟩, rfl⟩
      case rest =>
        obtain ⟨rfl, ⟨_, rfl⟩, hw⟩ := hcut
        subst hw
        clear HST
        have hR0 := HR0.out
        have hR0y := HR0y.out
        have hQ1 := HQ1b.out
        have hQ0 := HQ0b.out
        obtain ⟨T3, hT3⟩ : ∃ T, Q0 * y = T := ⟨_, rfl⟩
        rw [Nat.mul_comm y, hT3] at hR0
        obtain ⟨T1, hT1⟩ : ∃ T, R1 * 4294967296 % 18446744073709551616 = T := ⟨_, rfl⟩
        obtain ⟨T2, hT2⟩ : ∃ T, (R1 * 4294967296 + u0) % 18446744073709551616 = T := ⟨_, rfl⟩
        obtain ⟨T4, hT4⟩ : ∃ T, T3 % 18446744073709551616 = T := ⟨_, rfl⟩
        obtain ⟨T5, hT5⟩ : ∃ T, Q1 * 4294967296 = T := ⟨_, rfl⟩
        obtain ⟨T6, hT6⟩ : ∃ T, T5 + Q0 = T := ⟨_, rfl⟩
        have e1 : IntKind.u64.wrap (((R1 : Nat) : Int) * Z) = ((T1 : Nat) : Int) := by rw [← HZ.out, IntKind.wrap_u64]; omega
        have e2 : IntKind.u64.wrap (((T1 : Nat) : Int) + ((u0 : Nat) : Int)) = ((T2 : Nat) : Int) := by rw [IntKind.wrap_u64]; omega
        have e3 : IntKind.u64.wrap (((Q0 : Nat) : Int) * ((y : Nat) : Int)) = ((T4 : Nat) : Int) := by
          rw [IntKind.wrap_u64, ← hT4, ← hT3]; simp
        have e4 : IntKind.u64.wrap (((T2 : Nat) : Int) - ((T4 : Nat) : Int)) = ((R0 : Nat) : Int) := by rw [IntKind.wrap_u64]; omega
        have e5 : IntKind.u64.wrap (((Q1 : Nat) : Int) * Z) = ((T5 : Nat) : Int) := by rw [← HZ.out]; exact wrapN (by omega) (by omega)
        have e6 : IntKind.u64.wrap (((T5 : Nat) : Int) + ((Q0 : Nat) : Int)) = ((T6 : Nat) : Int) := wrapN (by omega) (by omega)
        have HT6 := Lib.hid (show T6 = Q1 * 4294967296 + Q0 by omega)
        clear hT1 hT2 hT3 hT4 hT5 hT6 hR0 hQ0 hQ1
        go_wp2_with fail
        go_ret2
        exact ⟨by rw [HQ.out, HR.out, ← HT6.out, ← shr_cast]; rfl, 0, rfl⟩
end Go.Proofs.YtkfbailpifmdcaaGreatDoor
end

section
namespace Go.Proofs.YtkfbailpifmdcaaGreatDoor
open Go.RowKit

/-- The value of the words from k on. -/
def vd (l : List Nat) (k : Nat) : Nat := valN (l.drop k)
theorem vd_end (l : List Nat) (k : Nat) (h : l.length ≤ k) : vd l k = 0 := by unfold vd; rw [List.drop_of_length_le h]; rfl
theorem vd_zero (l : List Nat) : vd l 0 = valN l := rfl
theorem vd_step (l : List Nat) (k : Nat) (h : k < l.length) : vd l k = gw l k + 18446744073709551616 * vd l (k + 1) := by
  unfold vd; rw [List.drop_eq_getElem_cons h, valN, gw_of_lt h]
theorem vd_set (l : List Nat) (k s : Nat) : vd (l.set k s) (k + 1) = vd l (k + 1) := by
  unfold vd; rw [List.drop_set_of_lt (by omega)]

def ShortRel (g : Nat) (w : World) (x : List Nat) (d : Nat) (u8 u7 : Value) (wr : World) : Prop :=
  ∃ (k r : Nat) (z : List Nat), k ≤ x.length ∧ u8 = .int .i64 (((k : Nat) : Int) - 1) ∧ u7 = .int .u64 ((r : Nat) : Int) ∧ r < d ∧ z.length = x.length ∧ okW z ∧ vd x k = vd z k * d + r ∧ Blk wr g (wArr z) 22 ∧ Below w.heap.size w wr

theorem short_close {g : Nat} {w wr : World} {x z : List Nat} {d m r q r' : Nat} {e : Int} (hm : m < x.length) (he : e = ((m : Nat) : Int) - 1) (hd : r < d) (hdd : d < 18446744073709551616) (hok : okW x) (hq : q = (r * 18446744073709551616 + gw x m) / d) (hr : r' = (r * 18446744073709551616 + gw x m) % d)
    (hzl : z.length = x.length) (hzo : okW z) (hv : vd x (m + 1) = vd z (m + 1) * d + r) (hz : Blk wr g (wArr (z.set m q)) 22) (hb : Below w.heap.size w wr) : ShortRel g w x d (.int .i64 e) (.int .u64 ((r' : Nat) : Int)) wr := by
  have hx := okW_gw hok m
  have hqlt : q < 18446744073709551616 := by
    rw [hq, Nat.div_lt_iff_lt_mul (by omega)]
    have : (r + 1) * 18446744073709551616 ≤ d * 18446744073709551616 := Nat.mul_le_mul_right _ hd
    rw [Nat.mul_comm d] at this
    omega
  refine ⟨m, r', z.set m q, by omega, by rw [he], rfl, by rw [hr]; exact Nat.mod_lt _ (by omega), by rw [List.length_set]; exact hzl, okW_set hzo _ _ hqlt, ?_, hz, hb⟩
  have h1 := Nat.div_add_mod (r * 18446744073709551616 + gw x m) d
  rw [← hq, ← hr] at h1
  rw [vd_step x m hm, vd_step (z.set m q) m (by rw [List.length_set]; omega), vd_set, gw_set_same _ _ _ (by omega), hv]
  clear hq hr hz hb
  generalize vd z (m + 1) = V at *
  generalize gw x m = t at *
  grind

def ShortPost (w : World) (q r : Nat) (e : Ending) (w' : World) : Prop := ∃ v, e = .returned (.tuple #[v, .int .u64 ((r : Nat) : Int)]) ∧ Num w.heap.size w' v q ∧ Below w.heap.size w w'

set_option maxRecDepth 100000 in
set_option maxHeartbeats 2000000 in
theorem Short_any (lo : Nat) (a : Value) (l : List Nat) (d : Nat) (w : World) (ha : Words lo w a l) (hl : l.length ≤ 549755813888) (h0 : 0 < d) (hd : d < 18446744073709551616) :
    Calls Tryz.prog 77 #[a, .int .u64 ((d : Nat) : Int)] w (ShortPost w (valN l / d) (valN l % d)) := by
  have hok := ha.ok
  obtain ⟨x, cap, rfl, hcap, hcm, _, hx⟩ := ha
  have HX := Lib.hid hx
  clear hx
  have hmk := make_words 50 Tryz.underlying50 l.length (by omega)
  go_enter Tryz.func77, Tryz.ntmps77
  go_wp2_with fail
  clear hmk
  go_loopw [8, 7] (fun u8 u7 wr => ShortRel w.heap.size w l d u8 u7 wr) (fun u8 _ _ => (intOf u8 + 1).toNat)
  case atStart => exact ⟨l.length, 0, List.replicate l.length 0, Nat.le_refl _, rfl, rfl, h0, by simp, okW_replicate _, by rw [vd_end l _ (Nat.le_refl _), vd_end _ _ (by simp)]; simp, Blk.new _ _ _, (Below.refl _ _).alloc (Nat.le_refl _) _⟩
  case round =>
    obtain ⟨k, r, z, hk, rfl, rfl, hr, hzl, hzo, hv, hz, hbl⟩ := hrel
    have HV := Lib.hid hv
    have HZ := Lib.hid hzl
    clear hv hzl
    by_cases hk0 : k = 0
    · subst hk0
      have hw2 := Words.ofBlk_all (lo := w.heap.size) hz (Nat.le_refl _) hzo (by have := HZ.out; omega)
      rw [HZ.out] at hw2
      have hq : valN z = valN l / d := by
        have := HV.out
        rw [vd_zero, vd_zero, Nat.mul_comm] at this
        rw [this, Nat.mul_add_div h0, Nat.div_eq_of_lt hr, Nat.add_zero]
      have hr' : valN l % d = r := by
        have := HV.out
        rw [vd_zero, vd_zero, Nat.mul_comm] at this
        rw [this, Nat.mul_add_mod, Nat.mod_eq_of_lt hr]
      have HQ := Lib.hid hq
      have HR := Lib.hid hr'
      clear hq hr'
      go_wp2_with fail
      refine (Trim_any w.heap.size _ _ _ hw2).mono ?_
      rintro e w3 ⟨v, rfl, hvv, rfl⟩
      rw [HQ.out] at hvv
      go_wp2
      go_ret2
      exact ⟨_, by rw [HR.out]; rfl, hvv, hbl⟩
    · obtain ⟨m, rfl⟩ : ∃ m, k = m + 1 := ⟨k - 1, by omega⟩
      have hcast : (((m + 1 : Nat) : Int) - 1) = ((m : Nat) : Int) := by omega
      rw [hcast]
      clear hcast
      obtain ⟨b1, o1, rfl, _, hcx⟩ := HX.out m (by omega)
      have hcx' := (hbl.cell (World.block_lt_of_cell? w _ hcx)).trans hcx
      have hxi := okW_gw hok m
      clear hcx
      go_wp2_with fail
      refine (Div64_any r (gw l m) d hr hxi hd _).mono ?_
      rintro e w3 ⟨rfl, m3, rfl⟩
      have hb3 := below_drewN wr.heap.size wr m3
      have zc := (hz.call hb3).cell m _ (wArr_get z m (by have := HZ.out; omega))
      have zf := (hz.call hb3).free m
      have hbl3 := hbl.trans (hb3.mono hbl.size)
      have hz3 := hz.call hb3
      go_wp2_with fail
      go_roundw
      case rel => exact short_close (by omega) (by simp) hr hd hok rfl rfl HZ.out hzo HV.out (blk_setW hz3 _ _) (hbl3.setCell (Nat.le_refl _) _)
      case measure => simp [intOf]
end Go.Proofs.YtkfbailpifmdcaaGreatDoor
end

section
namespace Go.Proofs.YtkfbailpifmdcaaGreatDoor

/-- The first two words of the divisor and the first three of what is divided bound a digit. -/
theorem digit_top {y d : List Nat} {n Q : Nat} (hy : okW y) (hn : 2 ≤ n) (hQ : Q * vt d n ≤ vt y (n + 1)) :
    Q * (gw d (n - 1) * 18446744073709551616 + gw d (n - 2)) ≤ gw y n * (18446744073709551616 * 18446744073709551616) + gw y (n - 1) * 18446744073709551616 + gw y (n - 2) := by
  obtain ⟨m, rfl⟩ : ∃ m, n = m + 2 := ⟨n - 2, by omega⟩
  rw [show m + 2 - 1 = m + 1 by omega, show m + 2 - 2 = m by omega]
  rw [vt_succ, vt_succ, vt_succ, vt_succ, vt_succ, pw_succ (m + 1), pw_succ m] at hQ
  have h1 := vt_lt hy m
  generalize vt y m = Y at *
  generalize vt d m = D at *
  generalize gw y (m + 2) = y0 at *
  generalize gw y (m + 1) = y1 at *
  generalize gw y m = y2 at *
  generalize gw d (m + 1) = d1 at *
  generalize gw d m = d2 at *
  have hp := pw_pos m
  generalize pw m = P at *
  generalize 18446744073709551616 = M at *
  apply Nat.le_of_lt_succ
  have h2 : Q * (d1 * M + d2) * P < (y0 * (M * M) + y1 * M + y2 + 1) * P := by
    have e1 : Q * (D + d2 * P + d1 * (M * P)) = Q * D + Q * (d1 * M + d2) * P := by grind
    have e2 : Y + y2 * P + y1 * (M * P) + y0 * (M * (M * P)) = Y + (y0 * (M * M) + y1 * M + y2) * P := by grind
    rw [e1, e2] at hQ
    rw [Nat.add_mul _ 1]
    omega
  exact Nat.lt_of_mul_lt_mul_right h2
theorem digit_first {M Q d1 d2 y0 y1 y2 : Nat} (hd : 0 < d1) (hy2 : y2 < M) (h : Q * (d1 * M + d2) ≤ y0 * (M * M) + y1 * M + y2) : Q ≤ (y0 * M + y1) / d1 := by
  rw [Nat.le_div_iff_mul_le hd]
  apply Nat.le_of_lt_succ
  have h1 : Q * d1 * M < (y0 * M + y1 + 1) * M := by
    have e1 : Q * (d1 * M + d2) = Q * d1 * M + Q * d2 := by grind
    have e2 : (y0 * M + y1 + 1) * M = y0 * (M * M) + y1 * M + M := by grind
    rw [e2]; rw [e1] at h
    generalize Q * d1 * M = A at *
    generalize Q * d2 = B at *
    omega
  exact Nat.lt_of_mul_lt_mul_right h1
theorem digit_less {M Q g d1 d2 low y0 y1 y2 : Nat} (hg : g * d1 + low = y0 * M + y1) (h : Q * (d1 * M + d2) ≤ y0 * (M * M) + y1 * M + y2) (hc : low * M + y2 < g * d2) : Q < g := by
  have h1 : Q * (d1 * M + d2) < g * (d1 * M + d2) := by
    have e1 : g * (d1 * M + d2) = g * d1 * M + g * d2 := by grind
    have e2 : y0 * (M * M) + y1 * M = (g * d1 + low) * M := by rw [hg]; grind
    rw [e1]
    rw [e2, Nat.add_mul] at h
    generalize g * d1 * M = A at *
    generalize g * d2 = B at *
    generalize low * M = C at *
    omega
  exact Nat.lt_of_mul_lt_mul_right h1
theorem digit_down {g d1 low E : Nat} (hg : g * d1 + low = E) (h : 0 < g) : (g - 1) * d1 + (low + d1) = E := by
  obtain ⟨k, rfl⟩ : ∃ k, g = k + 1 := ⟨g - 1, by omega⟩
  rw [Nat.add_sub_cancel]; rw [Nat.add_mul] at hg; omega
/-- One word of what is taken away. -/
theorem take_step {V X D P g less less' carry carry' s low c p1 p0 x d : Nat} (h : V + g * D = X + (less + carry) * P) (hp : p0 + 18446744073709551616 * p1 = g * d) (hc : low + 18446744073709551616 * c = p0 + carry)
    (hcarry : carry' = p1 + c) (hs : s + low + less = x + 18446744073709551616 * less') : (V + s * P) + g * (D + d * P) = (X + x * P) + (less' + carry') * (18446744073709551616 * P) := by
  subst hcarry
  have e1 : g * (D + d * P) = g * D + g * d * P := by grind
  rw [e1, ← hp]
  generalize g * D = GD at *
  generalize 18446744073709551616 = M at *
  have hs' : s * P + low * P + less * P = x * P + M * less' * P := by rw [← Nat.add_mul, ← Nat.add_mul, hs, Nat.add_mul]
  have hc' : low * P + M * c * P = p0 * P + carry * P := by rw [← Nat.add_mul, ← Nat.add_mul, hc]
  grind
theorem take_last {V X D P g less less' carry s x M : Nat} (h : V + g * D = X + (less + carry) * P) (hs : s + carry + less = x + M * less') : (V + s * P) + g * D = (X + x * P) + less' * (M * P) := by
  have hs' : s * P + carry * P + less * P = x * P + M * less' * P := by rw [← Nat.add_mul, ← Nat.add_mul, hs, Nat.add_mul]
  grind
/-- One added back. -/
theorem back_step {V V' D R g c W : Nat} (hg : 0 < g) (hc : c ≤ 1) (h : V + g * D = R + W) (h2 : V' + c * W = V + D) : V' + (g - 1) * D = R + (1 - c) * W := by
  obtain ⟨k, rfl⟩ : ∃ k, g = k + 1 := ⟨g - 1, by omega⟩
  rw [Nat.add_sub_cancel]
  rw [Nat.add_mul] at h
  have : c = 0 ∨ c = 1 := by omega
  rcases this with rfl | rfl
  · simp at *; omega
  · simp at *; omega
theorem digit_over {V D R g W : Nat} (h : V + g * D = R + W) (hV : V < W) : R / D < g := by
  rcases Nat.eq_zero_or_pos D with rfl | hD
  · simp at h; omega
  rw [Nat.div_lt_iff_lt_mul hD]; omega
theorem digit_end {V D R g : Nat} (hD : 0 < D) (h : V + g * D = R) (hQ : R / D ≤ g) : g = R / D ∧ V = R % D := by
  have h1 : g ≤ R / D := by rw [Nat.le_div_iff_mul_le hD]; omega
  have h2 : g = R / D := by omega
  refine ⟨h2, ?_⟩
  have := Nat.div_add_mod R D
  rw [← h2, Nat.mul_comm] at this
  omega
theorem digit_room {R D M : Nat} (h : R < D * M) : R / D < M := by
  rcases Nat.eq_zero_or_pos D with rfl | hD
  · simp at h
  rw [Nat.div_lt_iff_lt_mul hD, Nat.mul_comm]; exact h
end Go.Proofs.YtkfbailpifmdcaaGreatDoor
end
