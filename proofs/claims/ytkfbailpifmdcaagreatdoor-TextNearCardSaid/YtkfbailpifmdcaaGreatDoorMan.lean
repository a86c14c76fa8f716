/- PriH PriI BegA BegB BegC -/
import Derived.Deep.RegionHeld3
import Derived.Test.YtkfbailpifmdcaaGreatDoorMam
section
namespace Go.Proofs.YtkfbailpifmdcaaGreatDoor
open Go.RowKit

/-- The whole part of a number below a power of 2, and the digits behind the point. -/
def exactL (x : Nat) : List UInt8 :=
  if 0 ≤ nE x then signL x (Lib.decDigits (nM x * 2 ^ (nE x).toNat)) else
  signL x (Lib.decDigits (nM x / 2 ^ (-nE x).toNat) ++ 46 :: (List.replicate ((-nE x).toNat - (Lib.decDigits (nM x % 2 ^ (-nE x).toNat * 5 ^ (-nE x).toNat)).length) 48 ++ Lib.decDigits (nM x % 2 ^ (-nE x).toNat * 5 ^ (-nE x).toNat)))

theorem keep2c {W W' : World} {p1 p2 : Addr} {v1 v2 : Value} (hb : Below W.heap.size W W') (h : W.cell? p1 = some v1 ∧ W.cell? p2 = some v2) : W'.cell? p1 = some v1 ∧ W'.cell? p2 = some v2 :=
  ⟨(hb.cell (World.block_lt_of_cell? W _ h.1)).trans h.1, (hb.cell (World.block_lt_of_cell? W _ h.2)).trans h.2⟩

theorem keepB {w0 W W' : World} {p : Addr} {v : Value} (hb : Below W.heap.size W W') (h : W.cell? p = some v ∧ Below w0.heap.size w0 W) : W'.cell? p = some v ∧ Below w0.heap.size w0 W' :=
  ⟨(hb.cell (World.block_lt_of_cell? W _ h.1)).trans h.1, h.2.trans (hb.mono h.2.size)⟩

theorem exact_rest {m j : Nat} : m % 2 ^ j * 5 ^ j < 10 ^ j := by
  rw [show (10 : Nat) = 2 * 5 from rfl, Nat.mul_pow]
  exact Nat.mul_lt_mul_of_pos_right (Nat.mod_lt _ (Nat.two_pow_pos _)) (Nat.pow_pos (by decide))

set_option maxRecDepth 100000 in
set_option maxHeartbeats 8000000 in
theorem Exact_any (x : Nat) (w : World) (hx : x < 18446744073709551616) (hpl : (plainP x [48]).2 = false) (hT : TabW w) (hP : TabP w) :
    Calls Tryz.prog 16 #[.int .u64 ((x : Nat) : Int)] w fun en w' => en = .returned (.string ⟨(exactL x).toArray⟩) ∧ Below w.heap.size w w' := by
  obtain ⟨R, hR⟩ : ∃ R, exactL x = R := ⟨_, rfl⟩
  rw [hR]
  unfold exactL at hR
  have HR := Lib.hid hR
  have hpla := fun w => plain_any x ⟨#[48]⟩ w hx (by decide)
  simp only at hpla
  rw [show plainP x (⟨#[48]⟩ : ByteArray).data.toList = plainP x [48] from rfl, hpl] at hpla
  have hmb := nM_bl x
  have hel := nE_le x
  have hval := fun w hT => value_any x w hx hT
  rw [show fAbs (vM x) = nM x from rfl, show fExp (vM x) (vE x) = nE x from rfl] at hval
  generalize (plainP x [48]).1 = pl at *
  generalize nM x = m at *
  generalize nE x = e0 at *
  have HPL := Lib.hid hpla
  have HV := Lib.hid hval
  clear hpla hval hR hpl
  go_enter Tryz.func16, Tryz.ntmps16
  go_wp2_with fail
  refine (HPL.out w).mono ?_
  rintro e w1 ⟨rfl, hw⟩
  subst hw
  clear HPL
  go_wp2_with fail
  refine (HV.out w hT).mono ?_
  rintro e w2 ⟨v2, rfl, ⟨a2, rfl, ha2⟩, hb2⟩
  clear HV
  obtain ⟨x2, c2, rfl⟩ := ha2.slice'
  have hb3 := hb2.alloc hb2.size (.cells #[.bool false, .slice x2 (limbsOf m).length c2, .int .i64 e0] 62)
  have hk3 := Blk.new w2 #[.bool false, .slice x2 (limbsOf m).length c2, .int .i64 e0] 62
  have ha3 := (ha2.call ((Below.refl w2.heap.size w2).alloc (Nat.le_refl _) (.cells #[.bool false, .slice x2 (limbsOf m).length c2, .int .i64 e0] 62))).mono (Nat.zero_le _)
  have hlm := limbs_bl (n := m) (k := 1) (by omega)
  by_cases he : 0 ≤ e0
  · have hr := HR.out
    rw [if_pos he] at hr
    obtain ⟨j, rfl⟩ : ∃ j : Nat, e0 = (j : Int) := ⟨e0.toNat, by omega⟩
    rw [Int.toNat_natCast] at hr
    have HR2 := Lib.hid hr
    have hshl := Shl_any 0 _ (limbsOf m) j _ ha3.words (by omega) (by omega)
    rw [valN_limbsOf] at hshl
    have hQb := bl_mul m (2 ^ j)
    rw [bl_two] at hQb
    generalize m * 2 ^ j = Q at *
    have hQ0 : (Lib.decDigits Q).length ≤ 4200 := dec_len4 (by omega)
    have HS := Lib.hid hshl
    clear hshl hr HR
    go_wp2_with fail
    refine HS.out.mono ?_
    rintro en w4 ⟨v4, rfl, hv4, hb4⟩
    have hb14 := hb3.trans (hb4.mono hb3.size)
    go_wp2_with fail
    refine (decimals_any _ _ Q _ hv4 (by omega) (hP.call hb14)).mono ?_
    rintro en w5 ⟨rfl, hb5⟩
    have hb15 := hb14.trans (hb5.mono hb14.size)
    go_wp2_with fail
    refine (signed_any x _ w5 hx (by simp [ByteArray.size]; omega)).mono ?_
    rintro en w6 ⟨rfl, hw⟩
    subst hw
    go_wp2_with fail
    go_ret
    exact ⟨by rw [← HR2.out]; rfl, hb15⟩
  · have hr := HR.out
    rw [if_neg he] at hr
    obtain ⟨j, hj⟩ : ∃ j : Nat, -e0 = (j : Int) := ⟨(-e0).toNat, by omega⟩
    rw [show (-e0).toNat = j by omega] at hr
    have hj0 : 0 < j := by omega
    have HR2 := Lib.hid hr
    have hshr := Shr_any 0 _ (limbsOf m) j _ ha3.words (by omega) (by omega) (hT.call hb3)
    rw [valN_limbsOf] at hshr
    have HS := Lib.hid hshr
    obtain ⟨q, hq⟩ : ∃ q, m / 2 ^ j = q := ⟨_, rfl⟩
    rw [hq] at HS HR2
    have hqb : bl q ≤ 53 := by rw [← hq]; exact Nat.le_trans (bl_mono (Nat.div_le_self _ _)) hmb
    have hqm : m % 2 ^ j = m - q * 2 ^ j := by rw [← hq]; have := Nat.div_add_mod m (2 ^ j); rw [Nat.mul_comm] at this; omega
    have hqle : q * 2 ^ j ≤ m := by rw [← hq]; exact Nat.div_mul_le_self _ _
    have HQ := Lib.hid hqm
    have HQL := Lib.hid hqle
    clear hshr hr HR hq hqm hqle
    go_wp2_with fail
    refine HS.out.mono ?_
    rintro en w4 ⟨v4, rfl, hv4, hb4⟩
    have hb14 := hb3.trans (hb4.mono hb3.size)
    have hk4 := hk3.call hb4
    have k1 := hk4.cell 1 _ rfl
    have k2 := hk4.cell 2 _ rfl
    have ha4 := ha3.call hb4
    have hv4' := hv4.mono (Nat.zero_le _)
    have hlq := limbs_bl (n := q) (k := 1) (by omega)
    have hshl := fun W (h : Below w4.heap.size w4 W) => Shl_any 0 v4 (limbsOf q) j W (hv4'.call h).words (by omega) (by omega)
    simp only [valN_limbsOf] at hshl
    have hsub := fun W lo v9 (h : Below w4.heap.size w4 W) (hv : Num lo W v9 (q * 2 ^ j)) => Sub_any 0 (.slice x2 (limbsOf m).length c2) v9 (limbsOf m) (limbsOf (q * 2 ^ j)) W (ha4.call h).words (hv.words.mono (Nat.zero_le _)) (by omega) (by rw [valN_limbsOf, valN_limbsOf]; exact HQL.out)
    simp only [valN_limbsOf] at hsub
    have hw4 : Below w4.heap.size w4 w4.drew := below_drewN _ _ 1
    have HSHL := Lib.hid hshl
    have HSUB := Lib.hid hsub
    clear hshl hsub HS
    go_upto_region 8 with fail
    go_cut [8] (fun u8 wx => Num 0 wx u8 (m % 2 ^ j) ∧ Below w4.heap.size w4 wx)
    case first =>
      have hwj : IntKind.i64.wrap ((j : Nat) : Int) = ((j : Nat) : Int) := wi64 (by omega) (by omega)
      go_region_held3 (fun w' => w'.cell? ⟨w2.heap.size, 1, none⟩ = some (.slice x2 (limbsOf m).length c2) ∧ w'.cell? ⟨w2.heap.size, 2, none⟩ = some (.int .i64 e0)) (first | assumption | go_keep)
        (first
          | (go_at_call 46; (try rw [hwj]); refine (HSHL.out _ hw4).mono ?_; rintro en w5 ⟨v9, rfl, hv9, hb9⟩; have Y := keep2c hb9 (by assumption); have hw5 := hw4.trans (hb9.mono hw4.size))
          | (go_at_call 48; refine (HSUB.out _ _ _ hw5 hv9).mono ?_; rintro en w6 ⟨v10, rfl, hv10, hb10⟩; have Z := keep2c hb10 (by assumption)))
      all_goals (go_wp2_with fail; go_meet; exact ⟨by rw [HQ.out]; exact hv10.mono (Nat.zero_le _), hw5.trans (hb10.mono hw5.size)⟩)
    case rest =>
      obtain ⟨hu8, hb5⟩ := hcut
      have hb15 := hb14.trans (hb5.mono hb14.size)
      have hk5 := hk4.call hb5
      have hv5 := hv4'.call hb5
      have p2 := hk5.cell 2 _ rfl
      clear hb3 hk3 ha3 hv4 hb4 hb14 hk4 k1 k2 ha4 hv4' hw4 hb5 HSHL HSUB HQ HQL hb2 ha2
      have hM : m % 2 ^ j < 2 ^ 53 := Nat.lt_of_le_of_lt (Nat.mod_le _ _) (Nat.lt_of_lt_of_le (bl_lt m) (Nat.pow_le_pow_right (by decide) hmb))
      have hrest := @exact_rest m j
      generalize m % 2 ^ j = M at *
      have HM := Lib.hid hM
      have HREST := Lib.hid hrest
      clear hM hrest
      go_wp2_with fail
      go_loopw [8, 50] (fun u8 u50 wr => ∃ i : Nat, i ≤ j ∧ u50 = .int .i64 ((i : Nat) : Int) ∧ Num 0 wr u8 (M * 5 ^ i) ∧ Below wc.heap.size wc wr) (fun _ u50 _ => j - (intOf u50).toNat)
      case atStart => exact ⟨0, Nat.zero_le _, rfl, by rw [Nat.pow_zero, Nat.mul_one]; exact hu8, Below.refl _ _⟩
      case round =>
        obtain ⟨i, hi, rfl, hu, hbr⟩ := hrel
        have hfive : bl (M * 5 ^ i) ≤ 53 + 4 * (i + 1) := by
          have h1 := bl_mul M (5 ^ i)
          have h2 := bl_le HM.out
          have h3 := bl_ten (n := 5 ^ i) (d := i + 1) (Nat.lt_of_le_of_lt (Nat.pow_le_pow_left (by decide) i) (Nat.pow_lt_pow_right (by decide) (by omega)))
          omega
        have hli := limbs_bl (n := M * 5 ^ i) (k := 1000) (by omega)
        by_cases hlt : i < j
        · have hlti : ((i : Nat) : Int) < ((j : Nat) : Int) := by omega
          go_wp2_with fail
          refine (Of_any 5 _ (by decide) (by decide)).mono ?_
          rintro en w7 ⟨v7, rfl, hv7, hb7⟩
          have hmul := Mul_any 0 _ v7 (limbsOf (M * 5 ^ i)) (limbsOf 5) w7 (hu.call hb7).words (hv7.words.mono (Nat.zero_le _)) (by omega) (by have := limbs_small (m := 5) (by decide); omega)
          rw [valN_limbsOf, valN_limbsOf, Nat.mul_assoc, ← Nat.pow_succ] at hmul
          go_wp2_with fail
          refine hmul.mono ?_
          rintro en w8 ⟨v8, rfl, hv8, hb8⟩
          clear hmul
          have hbr2 := (hbr.trans (hb7.mono hbr.size)).trans (hb8.mono (hbr.trans (hb7.mono hbr.size)).size)
          go_wp2_with fail
          go_roundw
          case rel => exact ⟨i + 1, by omega, by go_num, hv8.mono (Nat.zero_le _), hbr2⟩
          case measure => simp [intOf]; omega
        · obtain rfl : i = j := by omega
          have hrlt := HREST.out
          have hr2 := HR2.out
          generalize M * 5 ^ i = Q at *
          have hrl := dec_len_le i Q hj0 hrlt
          have hbw := hb15.trans (hbr.mono hb15.size)
          have hk6 := hk5.call hbr
          have hv6 := hv5.call hbr
          have HR5 := Lib.hid hr2
          clear HR2 hr2 HREST hlt HM hrlt
          have hsq : (⟨(Lib.decDigits Q).toArray⟩ : ByteArray).size = (Lib.decDigits Q).length := by simp [ByteArray.size]
          go_wp2_with fail
          refine (decimals_any 0 _ Q _ hu (by omega) (hP.call hbw)).mono ?_
          rintro en w9 ⟨rfl, hb9⟩
          have hbw9 := hbw.trans (hb9.mono hbw.size)
          have hk9 := hk6.call hb9
          have hv9 := hv6.call hb9
          have r2 := hk9.cell 2 _ rfl
          have hqd := dec_len4 (n := q) (by omega)
          have hP9 := hP.call hbw9
          have hsq1 : (⟨(Lib.decDigits q).toArray⟩ : ByteArray).size = (Lib.decDigits q).length := by simp [ByteArray.size]
          obtain ⟨L, hL⟩ : ∃ L, (Lib.decDigits Q).length = L := ⟨_, rfl⟩
          rw [hL] at hsq hrl
          have hdecq := fun W (h : W.cell? ⟨w2.heap.size, 2, none⟩ = some (.int .i64 e0) ∧ Below w9.heap.size w9 W) => decimals_any 0 _ q W (hv9.call h.2) (by omega) (hP9.call h.2)
          have hrep := fun W => Tryz.strings_Repeat ⟨#[48]⟩ (i - L) W (by omega) (by show 1 * _ ≤ _; omega)
          have hrl2 : Lib.repeatL (⟨#[48]⟩ : ByteArray).data.toList (i - L) = List.replicate (i - L) 48 := repeatL_zero _
          simp only [hrl2] at hrep
          have hsr : (⟨(List.replicate (i - L) (48 : UInt8)).toArray⟩ : ByteArray).size = i - L := by simp [ByteArray.size]
          have hcat : (⟨(Lib.decDigits q).toArray⟩ : ByteArray) ++ ⟨#[46]⟩ ++ ⟨(List.replicate (i - L) (48 : UInt8)).toArray⟩ ++ ⟨(Lib.decDigits Q).toArray⟩ = ⟨(Lib.decDigits q ++ 46 :: (List.replicate (i - L) 48 ++ Lib.decDigits Q)).toArray⟩ := ByteArray.ext (Array.ext' (by simp))
          have hsig := fun W => signed_any x ⟨(Lib.decDigits q ++ 46 :: (List.replicate (i - L) 48 ++ Lib.decDigits Q)).toArray⟩ W hx (by simp [ByteArray.size]; omega)
          have hr5 := HR5.out
          rw [hL] at hr5
          simp only [hr5] at hsig
          generalize (⟨(Lib.decDigits q ++ 46 :: (List.replicate (i - L) 48 ++ Lib.decDigits Q)).toArray⟩ : ByteArray) = B3 at *
          generalize (⟨(Lib.decDigits Q).toArray⟩ : ByteArray) = D1 at *
          generalize (⟨(List.replicate (i - L) (48 : UInt8)).toArray⟩ : ByteArray) = C1 at *
          generalize (⟨(Lib.decDigits q).toArray⟩ : ByteArray) = A1 at *
          obtain ⟨B1, hB1⟩ : ∃ B, A1 ++ (⟨#[46]⟩ : ByteArray) = B := ⟨_, rfl⟩
          have hs46 : (⟨#[46]⟩ : ByteArray).size = 1 := rfl
          have hB1s : B1.size = A1.size + 1 := by rw [← hB1, ByteArray.size_append, hs46]
          rw [hB1] at hcat
          obtain ⟨B2, hB2⟩ : ∃ B, B1 ++ C1 = B := ⟨_, rfl⟩
          have hB2s : B2.size = B1.size + C1.size := by rw [← hB2, ByteArray.size_append]
          rw [hB2] at hcat
          have f1 : ¬ 9223372036854775807 < A1.size + 1 := by omega
          have f2 : ¬ 9223372036854775807 < B1.size + C1.size := by omega
          have f3 : ¬ 9223372036854775807 < B2.size + D1.size := by omega
          have hcnt : ((i : Nat) : Int) - ((D1.size : Nat) : Int) = ((i - L : Nat) : Int) := by omega
          have hwi : IntKind.i64.wrap ((i : Nat) : Int) = ((i : Nat) : Int) := wi64 (by omega) (by omega)
          have hwl : IntKind.i64.wrap ((D1.size : Nat) : Int) = ((D1.size : Nat) : Int) := wi64 (by omega) (by omega)
          have hwc : IntKind.i64.wrap ((i - L : Nat) : Int) = ((i - L : Nat) : Int) := wi64 (by omega) (by omega)
          have HDEC := Lib.hid hdecq
          have HREP := Lib.hid hrep
          have HSIG := Lib.hid hsig
          clear hdecq hrep hsig hrl2 hP9 hv9 hv6 hv5 hb9 hbw hbr hb15 hu hu8 hk6 hk5 p2 hfive hli HR5 hr5 hL hB1s hB2s hsr hsq hsq1
          go_upto_region 14 with fail
          go_cut [2] (fun u2 wx => u2 = .string ⟨R.toArray⟩ ∧ Below w9.heap.size w9 wx)
          case first =>
            have hS0 : w9.drew.cell? ⟨w2.heap.size, 2, none⟩ = some (.int .i64 e0) ∧ Below w9.heap.size w9 w9.drew := ⟨r2, below_drewN _ _ 1⟩
            go_region_held3 (fun w' => w'.cell? ⟨w2.heap.size, 2, none⟩ = some (.int .i64 e0) ∧ Below w9.heap.size w9 w') (first | assumption | go_keep)
              (first
                | (go_at_call 41; refine (HDEC.out _ (by assumption)).mono ?_; rintro en wa ⟨rfl, hba⟩; have Ya := keepB hba (by assumption))
                | (go_at_call 50; (try rw [hcnt]); (try rw [hwc]); refine (HREP.out _).mono ?_; rintro en wb ⟨rfl, hbb⟩; have Yb := keepB hbb (by assumption))
                | (go_at_call 45; refine (HSIG.out _).mono ?_; rintro en wd ⟨rfl, hwd⟩; subst hwd))
            all_goals (go_wp2_with fail; go_meet; first | exact ⟨rfl, Yb.2⟩ | exact ⟨rfl, Ya.2⟩)
          case rest =>
            obtain ⟨rfl, hbx⟩ := hcut
            go_wp2_with fail
            go_ret
            exact ⟨rfl, hbw9.trans (hbx.mono hbw9.size)⟩
end Go.Proofs.YtkfbailpifmdcaaGreatDoor
end

section
namespace Go.Proofs.YtkfbailpifmdcaaGreatDoor
open Go.RowKit

def hexC (d : Nat) : UInt8 := (#[48, 49, 50, 51, 52, 53, 54, 55, 56, 57, 97, 98, 99, 100, 101, 102] : Array UInt8).getD d 0
/-- The hexadecimal digits of a word, from above, until nothing is left. -/
def hexL : Nat → Nat → List UInt8
  | 0, _ => []
  | f + 1, r => if r = 0 then [] else hexC (r / 1152921504606846976) :: hexL f (r * 16 % 18446744073709551616)
def hexF (x : Nat) : List UInt8 :=
  if 0 < bl (nM x) - 1 then 46 :: hexL 16 ((nM x - 2 ^ (bl (nM x) - 1)) * 2 ^ (64 - (bl (nM x) - 1))) else []
def hexT (x : Nat) : List UInt8 := signL x ([48, 120, 49] ++ hexF x ++ 112 :: Lib.itoa (nE x + (bl (nM x) : Nat) - 1))

theorem hexL_step {f r : Nat} (h : r ≠ 0) : hexL (f + 1) r = hexC (r / 1152921504606846976) :: hexL f (r * 16 % 18446744073709551616) := by rw [hexL, if_neg h]
theorem hexL_zero (f : Nat) : hexL f 0 = [] := by cases f with
  | zero => rfl
  | succ f => rw [hexL, if_pos rfl]
theorem andNot_top {m n : Nat} (hn : n < 64) (h1 : 2 ^ n ≤ m) (h2 : m < 2 ^ (n + 1)) : m &&& (18446744073709551615 - 2 ^ n) = m - 2 ^ n := by
  obtain ⟨r, hr⟩ : ∃ r, m = 2 ^ n + r := ⟨m - 2 ^ n, by omega⟩
  have hrn : r < 2 ^ n := by rw [Nat.pow_succ] at h2; omega
  rw [hr, Nat.add_sub_cancel_left]
  apply Nat.eq_of_testBit_eq
  intro i
  have hle : 2 ^ n ≤ 2 ^ 63 := Nat.pow_le_pow_right (by decide) (by omega)
  have e1 : 18446744073709551615 - 2 ^ n = 2 ^ 64 - (2 ^ n + 1) := by omega
  rw [Nat.testBit_and, e1, Nat.testBit_two_pow_sub_succ (by omega), Nat.testBit_two_pow]
  rcases Nat.lt_trichotomy i n with h | h | h
  · rw [Nat.testBit_two_pow_add_gt h, decide_eq_true (by omega : i < 64), decide_eq_false (by omega : ¬ n = i)]
    simp
  · subst h
    rw [Nat.testBit_lt_two_pow hrn]
    simp
  · have h3 : (2 ^ n + r).testBit i = false := Nat.testBit_lt_two_pow (Nat.lt_of_lt_of_le (hr ▸ h2) (Nat.pow_le_pow_right (by decide) (by omega)))
    have h4 : r.testBit i = false := Nat.testBit_lt_two_pow (Nat.lt_of_lt_of_le hrn (Nat.pow_le_pow_right (by decide) (by omega)))
    rw [h3, h4]
    rfl
theorem hex_room {m n : Nat} (hn : n < 64) (h1 : 2 ^ n ≤ m) (h2 : m < 2 ^ (n + 1)) : (m - 2 ^ n) * 2 ^ (64 - n) < 18446744073709551616 := by
  have h3 : m - 2 ^ n < 2 ^ n := by rw [Nat.pow_succ] at h2; omega
  have h4 := Nat.mul_lt_mul_of_pos_right h3 (Nat.two_pow_pos (64 - n))
  rw [← Nat.pow_add, show n + (64 - n) = 64 by omega] at h4
  exact h4
theorem hex_rest {m n : Nat} (hn : n < 64) (h1 : 2 ^ n ≤ m) (h2 : m < 2 ^ (n + 1)) : IntKind.u64.wrap (bits BinOp.andNot IntKind.u64 ((m : Nat) : Int) (IntKind.u64.wrap (2 ^ n)) * 2 ^ (64 - n)) = (((m - 2 ^ n) * 2 ^ (64 - n) : Nat) : Int) := by
  have hm64 : m < 2 ^ 64 := Nat.lt_of_lt_of_le h2 (Nat.pow_le_pow_right (by decide) (by omega))
  have hn64 : 2 ^ n < 2 ^ 64 := Nat.pow_lt_pow_right (by decide) hn
  have e1 : (2 : Int) ^ n = ((2 ^ n : Nat) : Int) := by simp
  have e2 : (2 : Int) ^ (64 - n) = ((2 ^ (64 - n) : Nat) : Int) := by simp
  rw [e1, wu64 (x := ((2 ^ n : Nat) : Int)) (by omega) (by omega), u64_andNot_nat m (2 ^ n) hm64 hn64, andNot_top hn h1 h2, e2, ← Int.natCast_mul]
  have h5 := hex_room hn h1 h2
  exact wu64 (by omega) (by omega)
theorem hex_char {d : Nat} (h : d < 16) : (⟨#[48, 49, 50, 51, 52, 53, 54, 55, 56, 57, 97, 98, 99, 100, 101, 102]⟩ : ByteArray).extract d (d + 1) = ⟨#[hexC d]⟩ := by
  match d, h with
  | 0, _ => rfl
  | 1, _ => rfl
  | 2, _ => rfl
  | 3, _ => rfl
  | 4, _ => rfl
  | 5, _ => rfl
  | 6, _ => rfl
  | 7, _ => rfl
  | 8, _ => rfl
  | 9, _ => rfl
  | 10, _ => rfl
  | 11, _ => rfl
  | 12, _ => rfl
  | 13, _ => rfl
  | 14, _ => rfl
  | 15, _ => rfl
  | d + 16, h => exact absurd h (by omega)

theorem hexL_len : ∀ (f r : Nat), (hexL f r).length ≤ f
  | 0, _ => by simp [hexL]
  | f + 1, r => by
    rw [hexL]
    split
    · simp
    · have := hexL_len f (r * 16 % 18446744073709551616); simp only [List.length_cons]; omega
def strLen : Value → Nat
  | .string s => s.size
  | _ => 0

set_option maxRecDepth 100000 in
set_option maxHeartbeats 8000000 in
theorem Hex_any (x : Nat) (w : World) (hx : x < 18446744073709551616) (hpl : (plainP x [48, 120, 48, 112, 48]).2 = false) (hm0 : nM x ≠ 0) (hT : TabW w) (hP : TabP w) :
    Calls Tryz.prog 17 #[.int .u64 ((x : Nat) : Int)] w fun en w' => en = .returned (.string ⟨(hexT x).toArray⟩) ∧ Below w.heap.size w w' := by
  obtain ⟨R, hR⟩ : ∃ R, hexT x = R := ⟨_, rfl⟩
  rw [hR]
  unfold hexT hexF at hR
  have HR := Lib.hid hR
  have hpla := fun w => plain_any x ⟨#[48, 120, 48, 112, 48]⟩ w hx (by decide)
  simp only at hpla
  rw [show plainP x (⟨#[48, 120, 48, 112, 48]⟩ : ByteArray).data.toList = plainP x [48, 120, 48, 112, 48] from rfl, hpl] at hpla
  have hmb := nM_bl x
  have hel := nE_le x
  have hval := fun w hT => value_any x w hx hT
  rw [show fAbs (vM x) = nM x from rfl, show fExp (vM x) (vE x) = nE x from rfl] at hval
  generalize (plainP x [48, 120, 48, 112, 48]).1 = pl at *
  generalize nM x = m at *
  generalize nE x = e0 at *
  have HPL := Lib.hid hpla
  have HV := Lib.hid hval
  clear hpla hval hR hpl
  obtain ⟨n, hn⟩ : ∃ n, bl m - 1 = n := ⟨_, rfl⟩
  have hbp := bl_pos hm0
  have hbn : bl m = n + 1 := by omega
  have h1 : 2 ^ n ≤ m := by rw [← hn]; exact bl_ge hm0
  have h2 : m < 2 ^ (n + 1) := by rw [← hbn]; exact bl_lt m
  have hn52 : n ≤ 52 := by omega
  have hm53 : m < 9007199254740992 := Nat.lt_of_lt_of_le h2 (Nat.le_trans (Nat.pow_le_pow_right (by decide) (by omega : n + 1 ≤ 53)) (by decide))
  have HM12 := Lib.hid (And.intro h1 h2)
  have hr := HR.out
  rw [hn] at hr
  have HR2 := Lib.hid hr
  have hlm := limbs_small (m := m) (by omega)
  clear hr HR h1 h2 hn
  go_enter Tryz.func17, Tryz.ntmps17
  go_wp2_with fail
  refine (HPL.out w).mono ?_
  rintro e w1 ⟨rfl, hw⟩
  subst hw
  clear HPL
  go_wp2_with fail
  refine (HV.out w hT).mono ?_
  rintro e w2 ⟨v2, rfl, ⟨a2, rfl, ha2⟩, hb2⟩
  clear HV
  have hml : (limbsOf m).length = 1 := by
    have := mt (@limbsOf_len_zero m).1 hm0
    omega
  have hmg : gw (limbsOf m) 0 = m := by
    rw [limbsOf_pos hm0, gw_zero]
    exact Nat.mod_eq_of_lt (by omega)
  obtain ⟨g, o, c2, rfl, _, _, _, hglt, hc2⟩ := words_ptr ha2.words (by omega)
  have hcell := hc2 0 (by omega)
  rw [hmg, Nat.add_zero] at hcell
  rw [hml] at *
  have hb3 := hb2.alloc hb2.size (.cells #[.bool false, .slice (some ⟨g, o, none⟩) 1 c2, .int .i64 e0] 62)
  have hk3 := Blk.new w2 #[.bool false, .slice (some ⟨g, o, none⟩) 1 c2, .int .i64 e0] 62
  have hw3 := (Below.refl w2.heap.size w2).alloc (Nat.le_refl _) (.cells #[.bool false, .slice (some ⟨g, o, none⟩) 1 c2, .int .i64 e0] 62)
  have ha3 := (ha2.call hw3).mono (Nat.zero_le _)
  have hcell3 := (hw3.cell (p := ⟨g, o, none⟩) hglt).trans hcell
  clear hc2 hcell hw3 ha2
  have hlen := Len_any 0 _ (limbsOf m) _ ha3.words (by omega)
  rw [valN_limbsOf, hbn] at hlen
  have k1 := hk3.cell 1 _ rfl
  have hsub : (((n + 1 : Nat) : Int)) - 1 = ((n : Nat) : Int) := by omega
  go_wp2_with fail
  refine hlen.mono ?_
  rintro en w4 ⟨rfl, hw⟩
  subst hw
  clear hlen
  go_upto_if 23 with fail
  go_cut [7] (fun u7 wx => u7 = .string ⟨(if 0 < n then 46 :: hexL 16 ((m - 2 ^ n) * 2 ^ (64 - n)) else []).toArray⟩ ∧ ∃ d, wx = (w2.alloc (.cells #[.bool false, .slice (some ⟨g, o, none⟩) 1 c2, .int .i64 e0] 62)).drewN d)
  case first =>
    by_cases hn0 : 0 < n
    · have hn0i : decide ((0 : Int) < ((n : Nat) : Int)) = true := decide_eq_true (by omega)
      have hwn : IntKind.i64.wrap ((n : Nat) : Int) = ((n : Nat) : Int) := wi64 (by omega) (by omega)
      have hwn2 : IntKind.i64.wrap (64 - ((n : Nat) : Int)) = ((64 - n : Nat) : Int) := by rw [wi64 (by omega) (by omega)]; omega
      go_wp2_with fail
      go_quiet (fail)
      rw [hex_rest (by omega) HM12.out.1 HM12.out.2]
      have hr0 : (m - 2 ^ n) * 2 ^ (64 - n) < 18446744073709551616 := hex_room (by omega) HM12.out.1 HM12.out.2
      have HIF : Hid ((if 0 < n then 46 :: hexL 16 ((m - 2 ^ n) * 2 ^ (64 - n)) else ([] : List UInt8)) = 46 :: hexL 16 ((m - 2 ^ n) * 2 ^ (64 - n))) := if_pos hn0
      generalize (m - 2 ^ n) * 2 ^ (64 - n) = r0 at *
      go_wp2_with fail
      go_loop [7, 8] (fun u7 u8 => ∃ (acc : List UInt8) (r f : Nat), u7 = .string ⟨acc.toArray⟩ ∧ u8 = .int .u64 ((r : Nat) : Int) ∧ r < 18446744073709551616 ∧ acc.length + f = 16 ∧ Hid (acc ++ hexL f r = hexL 16 r0) ∧ 16 ^ (16 - f) ∣ r) (fun u7 _ => 16 - strLen u7)
      case atStart => exact ⟨[], r0, 16, rfl, rfl, hr0, rfl, rfl, by simp⟩
      case round =>
        obtain ⟨acc, r, f, rfl, rfl, hrl, haf, HA, hdv⟩ := hrel
        have hsa : (⟨acc.toArray⟩ : ByteArray).size = acc.length := by simp [ByteArray.size]
        by_cases hrz : r = 0
        · subst hrz
          have ha := HA.out
          rw [hexL_zero, List.append_nil] at ha
          have HA2 := Lib.hid ha
          have hcat : (⟨#[46]⟩ : ByteArray) ++ ⟨acc.toArray⟩ = ⟨(46 :: acc).toArray⟩ := ByteArray.ext (Array.ext' (by simp))
          have hs46 : (⟨#[46]⟩ : ByteArray).size = 1 := rfl
          clear ha HA
          go_wp2_with fail
          go_meet
          exact ⟨by rw [HIF.out, ← HA2.out], _, rfl⟩
        · obtain ⟨f', rfl⟩ : ∃ f', f = f' + 1 := by
            rcases Nat.eq_zero_or_pos f with h | h
            · subst h
              have : 18446744073709551616 ∣ r := hdv
              exact absurd (Nat.le_of_dvd (Nat.pos_of_ne_zero hrz) this) (by omega)
            · exact ⟨f - 1, by omega⟩
          have ha := HA.out
          rw [hexL_step hrz] at ha
          have hdl : r / 1152921504606846976 < 16 := by omega
          have hsh : ((r : Nat) : Int) / 1152921504606846976 = ((r / 1152921504606846976 : Nat) : Int) := by omega
          have hwr : IntKind.u64.wrap (((r : Nat) : Int) * 16) = ((r * 16 % 18446744073709551616 : Nat) : Int) := by rw [IntKind.wrap_u64]; omega
          have hdv2 : 16 ^ (16 - f') ∣ r * 16 % 18446744073709551616 := by
            have h1 : 16 ^ (16 - f') ∣ r * 16 := by
              rw [show 16 - f' = (16 - (f' + 1)) + 1 by omega, Nat.pow_succ]
              exact Nat.mul_dvd_mul hdv (Nat.dvd_refl _)
            have h2 : 16 ^ (16 - f') ∣ 18446744073709551616 := by
              rw [show (18446744073709551616 : Nat) = 16 ^ 16 from rfl]
              exact Nat.pow_dvd_pow 16 (by omega)
            exact (Nat.dvd_mod_iff h2).2 h1
          have hrm : r * 16 % 18446744073709551616 < 18446744073709551616 := Nat.mod_lt _ (by decide)
          have hrz2 : (((r : Nat) : Int) == 0) = false := beq_eq_false_iff_ne.2 (by omega)
          generalize r * 16 % 18446744073709551616 = r2 at *
          generalize r / 1152921504606846976 = dg at *
          have hext := hex_char hdl
          have hwd : IntKind.u64.wrap (((dg : Nat) : Int) + 1) = ((dg + 1 : Nat) : Int) := by rw [wu64 (by omega) (by omega)]; omega
          have hcat : (⟨acc.toArray⟩ : ByteArray) ++ ⟨#[hexC dg]⟩ = ⟨(acc ++ [hexC dg]).toArray⟩ := ByteArray.ext (Array.ext' (by simp))
          have hs1 : (⟨#[hexC dg]⟩ : ByteArray).size = 1 := rfl
          have HA2 := Lib.hid ha
          clear ha HA hdv hrz
          go_wp2_with fail
          refine ⟨⟨acc ++ [hexC dg], r2, f', rfl, rfl, hrm, by simp; omega, ?_, hdv2⟩, by simp [strLen, ByteArray.size]; omega⟩
          show (acc ++ [hexC dg]) ++ hexL f' r2 = hexL 16 r0
          rw [← HA2.out]
          simp
    · have hn0i : decide (0 < n) = false := decide_eq_false (by omega)
      go_wp2_with fail
      go_meet
      exact ⟨by rw [if_neg hn0], 0, rfl⟩
  case rest =>
    obtain ⟨rfl, d, rfl⟩ := hcut
    have hb4 := hb3.trans (below_drewN w.heap.size _ d)
    have hk4 := hk3.drewN d
    have ha4 := ha3.words.drew d
    clear hb3 hk3 ha3 k1 hcell3
    generalize (w2.alloc (.cells #[.bool false, .slice (some ⟨g, o, none⟩) 1 c2, .int .i64 e0] 62)).drewN d = W3 at *
    have k0 := hk4.cell 0 _ rfl
    have k1 := hk4.cell 1 _ rfl
    have k2 := hk4.cell 2 _ rfl
    have hfl : (if 0 < n then 46 :: hexL 16 ((m - 2 ^ n) * 2 ^ (64 - n)) else ([] : List UInt8)).length ≤ 17 := by
      split
      · have := hexL_len 16 ((m - 2 ^ n) * 2 ^ (64 - n)); simp only [List.length_cons]; omega
      · simp
    have hr2 := HR2.out
    rw [hbn] at hr2
    generalize (if 0 < n then 46 :: hexL 16 ((m - 2 ^ n) * 2 ^ (64 - n)) else ([] : List UInt8)) = F at *
    have htop := Top_any 0 (.agg #[.bool false, .slice (some ⟨g, o, none⟩) 1 c2, .int .i64 e0]) false (limbsOf m) e0 W3 ⟨_, rfl, ha4⟩ (by omega) (by omega) (by omega)
    rw [valN_limbsOf, hbn] at htop
    obtain ⟨T, hTT⟩ : ∃ T : Int, e0 + ((n + 1 : Nat) : Int) - 1 = T := ⟨_, rfl⟩
    have hTb : -2000 ≤ T ∧ T ≤ 2000 := by omega
    rw [hTT] at htop hr2
    have hil := itoa_len (e := T) (by omega) (by omega)
    have hF : (⟨F.toArray⟩ : ByteArray).size = F.length := by simp [ByteArray.size]
    have h0x : (⟨#[48, 120, 49]⟩ : ByteArray).size = 3 := rfl
    have hp1 : (⟨#[112]⟩ : ByteArray).size = 1 := rfl
    have hcat : (⟨#[48, 120, 49]⟩ : ByteArray) ++ ⟨F.toArray⟩ ++ ⟨#[112]⟩ ++ ⟨(Lib.itoa T).toArray⟩ = ⟨([48, 120, 49] ++ F ++ 112 :: Lib.itoa T).toArray⟩ := ByteArray.ext (Array.ext' (by simp))
    have hI : (⟨(Lib.itoa T).toArray⟩ : ByteArray).size = (Lib.itoa T).length := by simp [ByteArray.size]
    have hsig := fun W => signed_any x ⟨([48, 120, 49] ++ F ++ 112 :: Lib.itoa T).toArray⟩ W hx (by simp [ByteArray.size]; omega)
    simp only [hr2] at hsig
    have hito := fun W hP => Itoa_any T (by omega) (by omega) W hP
    generalize (⟨([48, 120, 49] ++ F ++ 112 :: Lib.itoa T).toArray⟩ : ByteArray) = B3 at *
    generalize (⟨F.toArray⟩ : ByteArray) = F1 at *
    generalize (⟨(Lib.itoa T).toArray⟩ : ByteArray) = I1 at *
    obtain ⟨B1, hB1⟩ : ∃ B, (⟨#[48, 120, 49]⟩ : ByteArray) ++ F1 = B := ⟨_, rfl⟩
    rw [hB1] at hcat
    have hB1s : B1.size = 3 + F1.size := by rw [← hB1, ByteArray.size_append, h0x]
    obtain ⟨B2, hB2⟩ : ∃ B, B1 ++ (⟨#[112]⟩ : ByteArray) = B := ⟨_, rfl⟩
    rw [hB2] at hcat
    have hB2s : B2.size = B1.size + 1 := by rw [← hB2, ByteArray.size_append, hp1]
    have HSIG := Lib.hid hsig
    have HITO := Lib.hid hito
    have HTOP := Lib.hid htop
    clear hsig hito htop HR2 hr2 HM12
    go_wp2_with fail
    refine HTOP.out.mono ?_
    rintro en w5 ⟨rfl, hb5⟩
    have hb15 := hb4.trans (hb5.mono hb4.size)
    go_wp2_with fail
    refine (HITO.out w5 (hP.call hb15)).mono ?_
    rintro en w6 ⟨rfl, hb6⟩
    have hb16 := hb15.trans (hb6.mono hb15.size)
    go_wp2_with fail
    refine (HSIG.out w6).mono ?_
    rintro en w7 ⟨rfl, hw⟩
    subst hw
    go_wp2_with fail
    go_ret
    exact ⟨rfl, hb16⟩
end Go.Proofs.YtkfbailpifmdcaaGreatDoor
end

section
namespace Go.Proofs.YtkfbailpifmdcaaGreatDoor
open Go.RowKit

/-- Digits with fuel, for reckoning. -/
def decF : Nat → Nat → List UInt8
  | 0, _ => []
  | f + 1, n => if n < 10 then [dgB n] else decF f (n / 10) ++ [dgB (n % 10)]
theorem dec_fuel : ∀ (f n : Nat), n < 10 ^ (f + 1) → Lib.decDigits n = decF (f + 1) n
  | 0, n, h => by
    have : n < 10 := by simpa using h
    rw [dec_small this, decF, if_pos this]
  | f + 1, n, h => by
    by_cases h10 : n < 10
    · rw [dec_small h10, decF, if_pos h10]
    · rw [dec_step h10, decF, if_neg h10, dec_fuel f (n / 10) (by rw [Nat.pow_succ] at h; omega)]
theorem fAbs_odd {m : Nat} (h : m % 2 = 1) : fAbs m = m := by unfold fAbs; rw [tz_odd h]; simp
theorem fExp_odd {m : Nat} {x : Int} (h : m % 2 = 1) : fExp m x = x := by
  unfold fExp; rw [tz_odd h, if_neg (by omega)]; simp

/-- An odd number rounded, without its last places told by another road. -/
theorem upB_odd {m n : Nat} (h : m % 2 = 1) : upB m n = ((m / 2 ^ (n - 1) % 2 == 1) && (decide (0 < n - 1) || (m / 2 ^ n % 18446744073709551616 % 2 == 1))) := by
  unfold upB; rw [tz_odd h]

theorem quoS_tenth : quoS 1 1 = 83 := by decide +kernel
theorem quoM_tenth : quoM 1 1 = 1934281311383406679529881 := by decide +kernel
theorem at_tenth : atP 1934281311383406679529881 (-84) (-56) = (7205759403792794, true) := by
  unfold atP atM
  rw [upB_odd (by decide)]
  decide +kernel
theorem near_tenth : nearP false 1934281311383406679529881 (-84) = (4591870180066957722, 16) := by
  have h1 : nearestP 1934281311383406679529881 (-84) = (4591870180066957722, true) := by
    unfold nearestP
    rw [show max (topP 1934281311383406679529881 (-84) - 53) (-1074) = -56 by decide +kernel, at_tenth]
    decide +kernel
  have h2 : tinyB 1934281311383406679529881 (-84) = false := by
    unfold tinyB
    rw [if_neg (by decide), if_pos (by decide +kernel)]
    decide +kernel
  unfold nearP
  rw [h1, h2]
  rfl
theorem tens_tenth : tensP false 1 1 (-1) = (4591870180066957722, 16) := by
  unfold tensP
  rw [if_neg (by decide), if_neg (by decide), if_neg (by decide), if_neg (by decide)]
  rw [show (-(-1 : Int)).toNat = 1 from rfl, quoS_tenth, quoM_tenth]
  unfold formP resultP
  rw [fAbs_odd (by decide), fExp_odd (by decide)]
  show (_, _) = _
  rw [show (false && !((1934281311383406679529881 : Nat) == 0)) = false from rfl, show (-((83 : Nat) : Int) - 1) = -84 from rfl, near_tenth]
  rfl
theorem parse_tenth : parseP [48, 46, 49] = ((4591870180066957722, 16), 0) := by
  have h1 : numberP false [48, 46, 49] = some (4591870180066957722, 16) := by
    unfold numberP
    rw [← tens_tenth]
    decide +kernel
  unfold parseP
  rw [if_neg (by decide)]
  show parseB false [48, 46, 49] = _
  unfold parseB
  rw [if_neg (by decide), if_neg (by decide), h1]
  rfl
end Go.Proofs.YtkfbailpifmdcaaGreatDoor
end

section
namespace Go.Proofs.YtkfbailpifmdcaaGreatDoor
open Go.RowKit

theorem twos_three : twosP false 24 (-3) = (4613937818241073152, 0) := by
  have htz : tz 24 = 3 := tz_unique (m := 3) (by decide) (by decide)
  have ha : fAbs 24 = 3 := by unfold fAbs; rw [htz]
  have hx : fExp 24 (-3) = 0 := by unfold fExp; rw [htz, if_neg (by decide)]; decide
  have hn : nearestP 3 0 = (4613937818241073152, false) := by
    unfold nearestP
    rw [show max (topP 3 0 - 53) (-1074) = -51 by decide +kernel]
    have h1 : atP 3 0 (-51) = (6755399441055744, false) := by
      unfold atP
      rw [if_pos (by decide)]
      decide +kernel
    rw [h1]
    decide +kernel
  unfold twosP
  rw [if_neg (by decide), if_neg (by decide +kernel), if_neg (by decide +kernel)]
  unfold formP
  rw [ha, hx]
  unfold resultP nearP
  rw [show (false && !((3 : Nat) == 0)) = false from rfl, hn]
  rfl
theorem parse_hex : parseP [48, 120, 49, 46, 56, 112, 49] = ((4613937818241073152, 0), 0) := by
  have h1 : numberP false [48, 120, 49, 46, 56, 112, 49] = some (4613937818241073152, 0) := by
    unfold numberP
    rw [← twos_three]
    decide +kernel
  unfold parseP
  rw [if_neg (by decide)]
  show parseB false [48, 120, 49, 46, 56, 112, 49] = _
  unfold parseB
  rw [if_neg (by decide), if_neg (by decide), h1]
  rfl
theorem parse_bad : (parseP [49, 101]).2 = 280 := by
  have h1 : numberP false [49, 101] = none := by
    unfold numberP
    decide +kernel
  unfold parseP
  rw [if_neg (by decide)]
  show (parseB false [49, 101]).2 = _
  unfold parseB
  rw [if_neg (by decide), if_neg (by decide), h1]
  rfl

theorem tenth_nM : nM 4591870180066957722 = 3602879701896397 := by
  have hv : vM 4591870180066957722 = 7205759403792794 := by decide +kernel
  have htz : tz 7205759403792794 = 1 := tz_unique (m := 3602879701896397) (by decide) (by decide)
  unfold nM
  rw [hv]
  unfold fAbs
  rw [htz]
theorem tenth_nE : nE 4591870180066957722 = -55 := by
  have hv : vM 4591870180066957722 = 7205759403792794 := by decide +kernel
  have htz : tz 7205759403792794 = 1 := tz_unique (m := 3602879701896397) (by decide) (by decide)
  have he : vE 4591870180066957722 = -56 := by decide +kernel
  unfold nE
  rw [hv, he]
  unfold fExp
  rw [htz]
  decide
theorem tenth_plain : plainP 4591870180066957722 [48] = ([], false) := by decide +kernel
theorem tenth_top : IsTop 3602879701896397 (-55) (-1) := by
  constructor
  · unfold geT; decide +kernel
  · unfold geT; decide +kernel
theorem tenth_digits : digitsP 4591870180066957722 20 (-1) = ([49, 46, 48, 48, 48, 48, 48, 48, 48, 48, 48, 48, 48, 48, 48, 48, 48, 48, 53, 53, 53, 101, 45, 49], 0) := by
  unfold digitsP
  rw [if_neg (by decide), tenth_plain, if_neg (by decide), tenth_nM, tenth_nE]
  have hq : rndQ (scN 3602879701896397 (-55) (20 - 1 - -1)) (scD (-55) (20 - 1 - -1)) = 10000000000000000555 := by decide +kernel
  rw [hq]
  have hd : Lib.decDigits 10000000000000000555 = [49, 48, 48, 48, 48, 48, 48, 48, 48, 48, 48, 48, 48, 48, 48, 48, 48, 53, 53, 53] := by
    rw [dec_fuel 19 10000000000000000555 (by decide)]
    decide +kernel
  unfold digS
  rw [hd, if_neg (by decide)]
  unfold sciL Lib.itoa
  rw [if_pos (by decide), show ((([49, 48, 48, 48, 48, 48, 48, 48, 48, 48, 48, 48, 48, 48, 48, 48, 48, 53, 53, 53] : List UInt8), (-1 : Int)).2).natAbs = 1 from rfl, dec_small (by decide)]
  decide +kernel
theorem hex_one : hexT 1 = [48, 120, 49, 112, 45, 49, 48, 55, 52] := by
  have hv : vM 1 = 1 := by decide +kernel
  have he : vE 1 = -1074 := by decide +kernel
  have hm : nM 1 = 1 := by unfold nM; rw [hv]; exact fAbs_odd (by decide)
  have hx : nE 1 = -1074 := by unfold nE; rw [hv, he]; exact fExp_odd (by decide)
  unfold hexT hexF
  rw [hm, hx, if_neg (by decide +kernel), show (-1074 : Int) + ((bl 1 : Nat) : Int) - 1 = -1074 by decide +kernel]
  unfold Lib.itoa
  rw [if_pos (by decide), show (-1074 : Int).natAbs = 1074 from rfl, dec_fuel 3 1074 (by decide)]
  decide +kernel
theorem exact_eighth : exactL 4593671619917905920 = [48, 46, 49, 50, 53] := by
  have hv : vM 4593671619917905920 = 4503599627370496 := by decide +kernel
  have he : vE 4593671619917905920 = -55 := by decide +kernel
  have htz : tz 4503599627370496 = 52 := tz_unique (m := 1) (by decide) (by decide)
  have hm : nM 4593671619917905920 = 1 := by unfold nM; rw [hv]; unfold fAbs; rw [htz]
  have hx : nE 4593671619917905920 = -3 := by unfold nE; rw [hv, he]; unfold fExp; rw [htz]; decide
  unfold exactL
  rw [hm, hx, if_neg (by decide)]
  rw [show (1 : Nat) / 2 ^ (- -3 : Int).toNat = 0 by decide, show (1 : Nat) % 2 ^ (- -3 : Int).toNat * 5 ^ (- -3 : Int).toNat = 125 by decide, dec_fuel 0 0 (by decide), dec_fuel 2 125 (by decide)]
  decide +kernel
theorem tenth_short : ShortIs 4591870180066957722 1 (-1) ∧ shortL 4591870180066957722 1 (-1) = [49, 101, 45, 49] := by
  have hs : shortAt 3602879701896397 (-55) (-1) 1 = ⟨1, -1, true⟩ := by
    unfold shortAt
    rw [show scN 3602879701896397 (-55) ((1 : Nat) - 1 - -1) = 36028797018963970 by decide +kernel, show scD (-55) ((1 : Nat) - 1 - -1) = 36028797018963968 by decide +kernel]
    congr 1
  have hr : readsP 4591870180066957722 1 (-1) = true := by
    unfold readsP
    rw [dec_small (by decide)]
    show ((tensP false 1 1 (-1)).1 == _) = true
    rw [tens_tenth]
    decide +kernel
  have hd : (ShortStep.mk 1 (-1) true).down 4591870180066957722 (-1) = true := by
    show (!((1 : Nat) == 0) && readsP 4591870180066957722 1 (-1)) = true
    rw [hr]; rfl
  constructor
  · refine ⟨by decide, by decide, by rw [tenth_nM, tenth_nE]; exact tenth_top, ?_, fun j h1 h2 => absurd h1 (by omega)⟩
    rw [tenth_nM, tenth_nE, hs]
    show (ShortStep.mk 1 (-1) true).ok 4591870180066957722 (-1) = true
    unfold ShortStep.ok
    rw [hd]; rfl
  · unfold shortL
    rw [tenth_nM, tenth_nE, hs]
    have hp : (ShortStep.mk 1 (-1) true).pick 4591870180066957722 (-1) = 1 := by
      unfold ShortStep.pick
      rw [hd, show upP (ShortStep.mk 1 (-1) true).c (ShortStep.mk 1 (-1) true).lo = false by decide, Bool.and_false]
      rfl
    show sciL 4591870180066957722 (Lib.trimRightB (Lib.decDigits ((ShortStep.mk 1 (-1) true).pick 4591870180066957722 (-1))) 48) (-1 + ((Lib.decDigits ((ShortStep.mk 1 (-1) true).pick 4591870180066957722 (-1))).length : Nat) - 1) = _
    rw [hp, dec_small (by decide)]
    unfold sciL Lib.itoa
    rw [show (-1 + (([dgB 1] : List UInt8).length : Nat) - 1 : Int) = -1 from rfl, if_pos (by decide), show (-1 : Int).natAbs = 1 from rfl, dec_small (by decide)]
    decide +kernel
end Go.Proofs.YtkfbailpifmdcaaGreatDoor
end

section
namespace Go.Proofs.YtkfbailpifmdcaaGreatDoor
open Go.RowKit

set_option maxRecDepth 100000 in
set_option maxHeartbeats 8000000 in
theorem begins_any (w : World) (hT : TabW w) (hP : TabP w) :
    Calls Tryz.prog 11 #[] w fun e w' => e = .returned (.bool true) ∧ Below w.heap.size w w' := by
  have p1 := fun W hT => Parse_any ⟨#[48, 46, 49]⟩ W hT
  have p2 := fun W hT => Parse_any ⟨#[48, 120, 49, 46, 56, 112, 49]⟩ W hT
  have p3 := fun W hT => Parse_any ⟨#[49, 101]⟩ W hT
  have d1 := fun W hT hP => Digits_any 4591870180066957722 20 (-1) W (by decide) (by decide) (by decide) (fun _ => by rw [tenth_nM, tenth_nE]; exact tenth_top) (by decide) (by decide) hT hP
  have s1 := fun W hT hP => Shortest_any 4591870180066957722 1 (-1) W (by decide) (by rw [tenth_plain]) tenth_short.1 (by decide) (by decide) hT hP
  have h1 := fun W hT hP => Hex_any 1 W (by decide) (by decide +kernel) (by rw [show nM 1 = 1 from fAbs_odd (m := vM 1) (by decide +kernel)]; decide) hT hP
  have x1 := fun W hT hP => Exact_any 4593671619917905920 W (by decide) (by decide +kernel) hT hP
  rw [show (⟨#[48, 46, 49]⟩ : ByteArray).data.toList = [48, 46, 49] from rfl, parse_tenth] at p1
  rw [show (⟨#[48, 120, 49, 46, 56, 112, 49]⟩ : ByteArray).data.toList = [48, 120, 49, 46, 56, 112, 49] from rfl, parse_hex] at p2
  rw [show (⟨#[49, 101]⟩ : ByteArray).data.toList = [49, 101] from rfl, parse_bad] at p3
  rw [tenth_digits] at d1
  rw [tenth_short.2] at s1
  rw [hex_one] at h1
  rw [exact_eighth] at x1
  generalize (parseP [49, 101]).1 = bad at p3
  have P1 := Lib.hid p1
  have P2 := Lib.hid p2
  have P3 := Lib.hid p3
  have D1 := Lib.hid d1
  have S1 := Lib.hid s1
  have H1 := Lib.hid h1
  have X1 := Lib.hid x1
  clear p1 p2 p3 d1 s1 h1 x1
  go_enter Tryz.func11, Tryz.ntmps11
  go_wp2_with fail
  refine (P1.out w hT).mono ?_
  rintro e w1 ⟨rfl, hb1⟩
  have hb11 := hb1.alloc hb1.size (.cells #[.int .u64 4591870180066957722, .int .u8 16] 25)
  have hk1 := Blk.new w1 #[.int .u64 4591870180066957722, .int .u8 16] 25
  go_wp2_with fail
  refine (P2.out _ (hT.call hb11)).mono ?_
  rintro e w2 ⟨rfl, hb2⟩
  have hb12 := hb11.trans (hb2.mono hb11.size)
  have hk2 := hk1.call hb2
  have hb13 := hb12.alloc hb12.size (.cells #[.int .u64 4613937818241073152, .int .u8 0] 25)
  have hk3 := hk2.alloc (.cells #[.int .u64 4613937818241073152, .int .u8 0] 25)
  have hq3 := Blk.new w2 #[.int .u64 4613937818241073152, .int .u8 0] 25
  go_wp2_with fail
  refine (P3.out _ (hT.call hb13)).mono ?_
  rintro e w3 ⟨rfl, hb3⟩
  have hb14 := hb13.trans (hb3.mono hb13.size)
  have hb15 := hb14.alloc hb14.size (.cells #[.int .u64 ((bad.1 : Nat) : Int), .int .u8 ((bad.2 : Nat) : Int)] 25)
  have hk4 := (hk3.call hb3).alloc (.cells #[.int .u64 ((bad.1 : Nat) : Int), .int .u8 ((bad.2 : Nat) : Int)] 25)
  have hq4 := (hq3.call hb3).alloc (.cells #[.int .u64 ((bad.1 : Nat) : Int), .int .u8 ((bad.2 : Nat) : Int)] 25)
  go_wp2_with fail
  refine (D1.out _ (hT.call hb15) (hP.call hb15)).mono ?_
  rintro e w4 ⟨rfl, hb4⟩
  have hb16 := hb15.trans (hb4.mono hb15.size)
  have hk5 := hk4.call hb4
  have hq5 := hq4.call hb4
  have k0 := hk5.cell 0 _ rfl
  have k1 := hk5.cell 1 _ rfl
  have q0 := hq5.cell 0 _ rfl
  have q1 := hq5.cell 1 _ rfl
  clear P1 P2 P3 D1 hb1 hb11 hb2 hb12 hb13 hb3 hb14 hb15 hb4 hk1 hk2 hk3 hq3 hk4 hq4
  go_wp2_with fail
  refine (S1.out w4 (hT.call hb16) (hP.call hb16)).mono ?_
  rintro e w5 ⟨rfl, hb5⟩
  have hb17 := hb16.trans (hb5.mono hb16.size)
  go_wp2_with fail
  refine (H1.out w5 (hT.call hb17) (hP.call hb17)).mono ?_
  rintro e w6 ⟨rfl, hb6⟩
  have hb18 := hb17.trans (hb6.mono hb17.size)
  go_wp2_with fail
  refine (X1.out w6 (hT.call hb18) (hP.call hb18)).mono ?_
  rintro e w7 ⟨rfl, hb7⟩
  have hb19 := hb18.trans (hb7.mono hb18.size)
  go_wp2_with fail
  go_ret
  exact ⟨rfl, hb19⟩
end Go.Proofs.YtkfbailpifmdcaaGreatDoor
end
