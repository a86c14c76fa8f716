/- PriD PriE PriF PriG -/
import Derived.Test.YtkfbailpifmdcaaGreatDoorMal
section
namespace Go.Proofs.YtkfbailpifmdcaaGreatDoor
open Go.RowKit

def pointL (d : List UInt8) : List UInt8 := if 1 < d.length then d.take 1 ++ 46 :: d.drop 1 else d
def sciL (x : Nat) (d : List UInt8) (e : Int) : List UInt8 := signL x (pointL d ++ 101 :: Lib.itoa e)

theorem itoa_len {e : Int} (h1 : -1000000000 ≤ e) (h2 : e ≤ 1000000000) : (Lib.itoa e).length ≤ 11 := by
  unfold Lib.itoa
  split
  · have := dec_len_le 10 e.natAbs (by decide) (by rw [show (10 : Nat) ^ 10 = 10000000000 from rfl]; omega)
    simp only [List.length_cons]; omega
  · have := dec_len_le 10 e.toNat (by decide) (by rw [show (10 : Nat) ^ 10 = 10000000000 from rfl]; omega)
    omega

theorem extract_head (s : ByteArray) (n : Nat) : s.extract 0 n = ⟨(s.data.toList.take n).toArray⟩ := by
  apply ByteArray.ext
  simp
  apply Array.ext'
  simp [Array.toList_extract, List.extract]

set_option maxRecDepth 100000 in
set_option maxHeartbeats 4000000 in
theorem scientific_any (x : Nat) (d : List UInt8) (e : Int) (w : World) (hx : x < 18446744073709551616) (hd : d.length ≤ 100000) (he1 : -1000000000 ≤ e) (he2 : e ≤ 1000000000) (hP : TabP w) :
    Calls Tryz.prog 42 #[.int .u64 ((x : Nat) : Int), .string ⟨d.toArray⟩, .int .i64 e] w fun en w' => en = .returned (.string ⟨(sciL x d e).toArray⟩) ∧ Below w.heap.size w w' := by
  have hsz : (⟨d.toArray⟩ : ByteArray).size = d.length := by simp [ByteArray.size]
  go_enter Tryz.func42, Tryz.ntmps42
  go_upto_if 9 with fail
  go_cut [1] (fun u1 wx => u1 = .string ⟨(pointL d).toArray⟩ ∧ ∃ m, wx = w.drewN m)
  case first =>
    by_cases h1 : 1 < d.length
    · have h1i : (1 : Int) < (((⟨d.toArray⟩ : ByteArray).size : Nat) : Int) := by omega
      have h1j : (1 : Int) ≤ (((⟨d.toArray⟩ : ByteArray).size : Nat) : Int) := by omega
      have hdi : decide ((1 : Int) < ((d.length : Nat) : Int)) = true := decide_eq_true (by omega)
      have hw1 : IntKind.i64.wrap 1 = 1 := wi64 (by omega) (by omega)
      go_wp2_with fail
      go_quiet (fail)
      go_wp2_with fail
      go_meet
      refine ⟨?_, _, rfl⟩
      rw [pointL, if_pos h1]
      have e1 := extract_head ⟨d.toArray⟩ 1
      have e2 := extract_tail ⟨d.toArray⟩ 1
      rw [hsz] at e2
      rw [e1, e2]
      refine congrArg Value.string (ByteArray.ext (Array.ext' ?_))
      simp
    · have hdi : decide ((1 : Int) < ((d.length : Nat) : Int)) = false := decide_eq_false (by omega)
      go_wp2_with fail
      go_meet
      exact ⟨by rw [pointL, if_neg h1], 0, rfl⟩
  case rest =>
    obtain ⟨rfl, m, rfl⟩ := hcut
    have hpl : (pointL d).length ≤ d.length + 1 := by
      unfold pointL
      split
      · rw [List.length_append, List.length_cons, List.length_take, List.length_drop]; omega
      · omega
    have hil := itoa_len he1 he2
    have hb1 : Below w.heap.size w (w.drewN m) := below_drewN _ _ _
    have hsp : (⟨(pointL d).toArray⟩ : ByteArray).size = (pointL d).length := by simp [ByteArray.size]
    have hsi : (⟨(Lib.itoa e).toArray⟩ : ByteArray).size = (Lib.itoa e).length := by simp [ByteArray.size]
    have hse : (⟨#[101]⟩ : ByteArray).size = 1 := rfl
    have hcat : (⟨(pointL d).toArray⟩ : ByteArray) ++ ⟨#[101]⟩ ++ ⟨(Lib.itoa e).toArray⟩ = ⟨(pointL d ++ 101 :: Lib.itoa e).toArray⟩ := by
      refine ByteArray.ext (Array.ext' ?_)
      simp
    have hP2 := hP.call hb1
    have hsc : ((⟨(pointL d).toArray⟩ : ByteArray) ++ ⟨#[101]⟩).size = (pointL d).length + 1 := by
      rw [ByteArray.size_append, hsp, hse]
    have hsig := fun w => signed_any x ⟨(pointL d ++ 101 :: Lib.itoa e).toArray⟩ w hx (by simp [ByteArray.size]; omega)
    have HSIG := Lib.hid hsig
    have HCAT := Lib.hid hcat
    have HP2 := Lib.hid hP2
    clear hsig hcat hP2 hsz
    go_wp2_with fail
    refine (Itoa_any e (by omega) (by omega) (w.drewN m) HP2.out).mono ?_
    rintro en w2 ⟨rfl, hb2⟩
    have hb3 := hb1.trans (hb2.mono hb1.size)
    go_wp2_with fail
    rw [HCAT.out]
    refine (HSIG.out w2).mono ?_
    rintro en w3 ⟨rfl, hw⟩
    subst hw
    go_wp2_with fail
    go_ret
    exact ⟨rfl, hb3⟩
end Go.Proofs.YtkfbailpifmdcaaGreatDoor
end

section
namespace Go.Proofs.YtkfbailpifmdcaaGreatDoor
open Go.RowKit

def upP (c : Int) (q : Nat) : Bool := decide (0 < c) || (c == 0 && q % 2 == 1)
/-- A fraction, rounded to a whole number, ties to even. -/
def rndQ (N D : Nat) : Nat := if upP (cmpN (N % D * 2) D) (N / D) then N / D + 1 else N / D
/-- So many digits, and the exponent. -/
def digS (q n : Nat) (t : Int) : List UInt8 × Int := if n < (Lib.decDigits q).length then ((Lib.decDigits q).take n, t + 1) else (Lib.decDigits q, t)
/-- A number's whole part, odd, and its exponent. -/
def nM (x : Nat) : Nat := fAbs (vM x)
def nE (x : Nat) : Int := fExp (vM x) (vE x)
def digitsP (x : Nat) (n : Int) (t : Int) : List UInt8 × Nat :=
  if n < 1 ∨ 1024 < n then ([], 2) else if (plainP x [48]).2 then ((plainP x [48]).1, 0) else
  (sciL x (digS (rndQ (scN (nM x) (nE x) (n - 1 - t)) (scD (nE x) (n - 1 - t))) n.toNat t).1 (digS (rndQ (scN (nM x) (nE x) (n - 1 - t)) (scD (nE x) (n - 1 - t))) n.toNat t).2, 0)

theorem vM_lt (x : Nat) : vM x < 9007199254740992 := by
  have : x % 4503599627370496 < 4503599627370496 := Nat.mod_lt _ (by decide)
  unfold vM
  split <;> omega
theorem nM_bl (x : Nat) : bl (nM x) ≤ 53 := bl_le (Nat.lt_of_le_of_lt (fAbs_le _) (vM_lt x))
theorem nE_le (x : Nat) : -1074 ≤ nE x ∧ nE x ≤ 1100 := by
  have h1 : -1074 ≤ vE x ∧ vE x ≤ 972 := by
    have : expN x < 2048 := Nat.mod_lt _ (by decide)
    unfold vE
    split <;> omega
  unfold nE fExp
  by_cases h0 : vM x = 0
  · rw [if_pos h0]; omega
  · rw [if_neg h0]
    have h2 := tz_le h0
    have h3 := bl_le (k := 53) (vM_lt x)
    omega
theorem bl_succ (q : Nat) : bl (q + 1) ≤ bl q + 1 := bl_le (Nat.lt_of_le_of_lt (bl_lt q) (Nat.pow_lt_pow_right (by decide) (by omega)))
theorem scN_bl (m : Nat) (x k : Int) : bl (scN m x k) ≤ bl m + x.toNat + 1 + 4 * (k.toNat + 1) := by
  unfold scN
  have h1 := bl_mul (m * 2 ^ x.toNat) (10 ^ k.toNat)
  have h2 := bl_mul m (2 ^ x.toNat)
  rw [bl_two] at h2
  have h3 := bl_ten (n := 10 ^ k.toNat) (d := k.toNat + 1) (Nat.pow_lt_pow_right (by decide) (by omega))
  omega

set_option maxRecDepth 100000 in
set_option maxHeartbeats 8000000 in
theorem Digits_any (x : Nat) (n t : Int) (w : World) (hx : x < 18446744073709551616) (hn1 : -9223372036854775808 ≤ n) (hn2 : n ≤ 9223372036854775807) (ht : (plainP x [48]).2 = false → IsTop (nM x) (nE x) t) (ht1 : -2000 ≤ t) (ht2 : t ≤ 2000) (hT : TabW w) (hP : TabP w) :
    Calls Tryz.prog 13 #[.int .u64 ((x : Nat) : Int), .int .i64 n] w fun en w' => en = .returned (.tuple #[.string ⟨(digitsP x n t).1.toArray⟩, .int .i64 (((digitsP x n t).2 : Nat) : Int)]) ∧ Below w.heap.size w w' := by
  obtain ⟨R, hR⟩ : ∃ R, digitsP x n t = R := ⟨_, rfl⟩
  rw [hR]
  unfold digitsP at hR
  have HR := Lib.hid hR
  clear hR
  by_cases hbad : n < 1 ∨ 1024 < n
  · have hr := HR.out
    rw [if_pos hbad] at hr
    subst hr
    clear HR
    go_enter Tryz.func13, Tryz.ntmps13
    rcases hbad with h | h
    · go_wp2_with fail
      go_ret2
      exact ⟨rfl, Below.refl _ _⟩
    · go_wp2_with fail
      go_ret2
      exact ⟨rfl, Below.refl _ _⟩
  have hr := HR.out
  rw [if_neg hbad] at hr
  have hn1 : 1 ≤ n := by omega
  have hn2 : n ≤ 1024 := by omega
  have hpl := fun w => plain_any x ⟨#[48]⟩ w hx (by decide)
  simp only at hpl
  have HPL := Lib.hid hpl
  clear hpl HR hbad
  cases hp2 : (plainP x [48]).2 with
  | true =>
    rw [hp2, if_pos rfl] at hr
    subst hr
    have HPL2 := HPL
    rw [hp2] at HPL2
    generalize (plainP x [48]).1 = pl at *
    clear HPL hp2 ht
    go_enter Tryz.func13, Tryz.ntmps13
    go_wp2_with fail
    refine (HPL2.out w).mono ?_
    rintro e w1 ⟨rfl, hw⟩
    subst hw
    go_wp2_with fail
    go_ret2
    exact ⟨rfl, Below.refl _ _⟩
  | false =>
    have htop := ht hp2
    rw [hp2, if_neg (by decide)] at hr
    have HPL2 := HPL
    rw [hp2] at HPL2
    generalize (plainP x [48]).1 = pl at *
    have hmb := nM_bl x
    have hel := nE_le x
    have hval := fun w hT => value_any x w hx hT
    rw [show fAbs (vM x) = nM x from rfl, show fExp (vM x) (vE x) = nE x from rfl] at hval
    generalize nM x = m at *
    generalize nE x = e0 at *
    have hNb := scN_bl m e0 (n - 1 - t)
    have hsc := fun lo v neg w hd hT => scaled_any lo v neg m e0 (n - 1 - t) w hd (by omega) (by omega) (by omega) (by omega) (by omega) hT
    have hdt := fun lo v neg w hd hT => decimalTop_any lo v neg m e0 t w hd (by omega) (by omega) (by omega) htop (by omega) (by omega) hT
    unfold ScaledPost at hsc
    unfold rndQ at hr
    have hqb : bl (scN m e0 (n - 1 - t) / scD e0 (n - 1 - t)) ≤ bl (scN m e0 (n - 1 - t)) := bl_mono (Nat.div_le_self _ _)
    generalize scN m e0 (n - 1 - t) / scD e0 (n - 1 - t) = q at *
    generalize cmpN (scN m e0 (n - 1 - t) % scD e0 (n - 1 - t) * 2) (scD e0 (n - 1 - t)) = c at *
    generalize (!(scN m e0 (n - 1 - t) % scD e0 (n - 1 - t) == 0)) = lb at *
    have hqb2 : bl q ≤ 30000 := by omega
    have HV := Lib.hid hval
    have HSC := Lib.hid hsc
    have HDT := Lib.hid hdt
    have HR2 := Lib.hid hr
    clear hval hsc hdt hr HPL hp2 ht htop hNb hqb hmb
    go_enter Tryz.func13, Tryz.ntmps13
    go_wp2_with fail
    refine (HPL2.out w).mono ?_
    rintro e w1 ⟨rfl, hw⟩
    subst hw
    clear HPL2
    go_wp2_with fail
    refine (HV.out w hT).mono ?_
    rintro e w2 ⟨v2, rfl, ⟨a2, rfl, ha2⟩, hb2⟩
    clear HV
    obtain ⟨x2, c2, rfl⟩ := ha2.slice'
    have hb3 := hb2.alloc hb2.size (.cells #[.bool false, .slice x2 (limbsOf m).length c2, .int .i64 e0] 62)
    have hk3 := Blk.new w2 #[.bool false, .slice x2 (limbsOf m).length c2, .int .i64 e0] 62
    go_wp2_with fail
    refine (HDT.out _ _ false _ ⟨_, rfl, ha2.call ((Below.refl w2.heap.size w2).alloc (Nat.le_refl _) _)⟩ (hT.call hb3)).mono ?_
    rintro e w4 ⟨rfl, hb4⟩
    clear HDT
    have hb14 := hb3.trans (hb4.mono hb3.size)
    have hk4 := hk3.call hb4
    have ha4 := (ha2.call ((Below.refl w2.heap.size w2).alloc (Nat.le_refl _) (.cells #[.bool false, .slice x2 (limbsOf m).length c2, .int .i64 e0] 62))).call hb4
    have k0 := hk4.cell 0 _ rfl
    have k1 := hk4.cell 1 _ rfl
    have k2 := hk4.cell 2 _ rfl
    clear hb2 hb3 hk3 ha2
    go_wp2_with fail
    refine (HSC.out _ _ false _ ⟨_, rfl, ha4⟩ (hT.call hb14)).mono ?_
    rintro e w5 ⟨v5, rfl, hv5, hb5⟩
    clear HSC
    have hb15 := hb14.trans (hb5.mono hb14.size)
    clear hk4 k0 k1 k2 hb4 hb14 ha4
    go_upto_region 9 with fail
    go_cut [50] (fun u50 wx => u50 = .bool (upP c q) ∧ wx = w5)
    case first =>
      have hbit := Bit_any 0 v5 (limbsOf q) 0 w5 (hv5.words.mono (Nat.zero_le _)) (by decide)
      rw [valN_limbsOf, Nat.pow_zero, Nat.div_one] at hbit
      rcases Int.lt_trichotomy c 0 with h | h | h
      · have e1 : upP c q = false := by unfold upP; rw [decide_eq_false (by omega), beq_eq_false_iff_ne.2 (by omega)]; rfl
        have e2 : decide ((0 : Int) < c) = false := decide_eq_false (by omega)
        have e3 : (c == 0) = false := beq_eq_false_iff_ne.2 (by omega)
        clear h hbit
        go_wp2_with fail
        go_meet
        exact ⟨by rw [e1], rfl⟩
      · subst h
        have e1 : upP 0 q = (q % 2 == 1) := by unfold upP; rw [decide_eq_false (by omega)]; rfl
        generalize (q % 2 == 1) = b at *
        go_wp2_with fail
        refine hbit.mono ?_
        rintro e w6 ⟨rfl, hw⟩
        subst hw
        go_wp2_with fail
        go_meet
        exact ⟨by rw [e1], rfl⟩
      · have e1 : upP c q = true := by unfold upP; rw [decide_eq_true h]; rfl
        clear hbit
        go_wp2_with fail
        go_meet
        exact ⟨by rw [e1], rfl⟩
    case rest =>
      obtain ⟨rfl, rfl⟩ := hcut
      have hq' : bl (if upP c q = true then q + 1 else q) ≤ 30001 := by
        have h1 := bl_succ q
        split <;> omega
      have hlq := limbs_bl (n := q) (k := 1000) (by omega)
      go_upto_if 50 with fail
      go_cut [10] (fun u10 wx => Num 0 wx u10 (if upP c q = true then q + 1 else q) ∧ Below wc.heap.size wc wx)
      case first =>
        cases hup : upP c q with
        | false =>
          go_wp2_with fail
          go_meet
          exact ⟨by rw [hup, if_neg (by decide)]; exact hv5.mono (Nat.zero_le _), Below.refl _ _⟩
        | true =>
          go_wp2_with fail
          refine (Of_any 1 _ (by decide) (by decide)).mono ?_
          rintro e w6 ⟨v6, rfl, hv6, hb6⟩
          have hadd := Add_any 0 v5 v6 (limbsOf q) (limbsOf 1) w6 ((hv5.call hb6).words.mono (Nat.zero_le _)) (hv6.words.mono (Nat.zero_le _)) (by omega) (by have := ten_len 0; rw [Nat.pow_zero] at this; omega)
          rw [valN_limbsOf, valN_limbsOf] at hadd
          go_wp2_with fail
          refine hadd.mono ?_
          rintro e w7 ⟨v7, rfl, hv7, hb7⟩
          go_wp2_with fail
          go_meet
          exact ⟨by rw [hup, if_pos rfl]; exact hv7.mono (Nat.zero_le _), hb6.trans (hb7.mono hb6.size)⟩
      case rest =>
        obtain ⟨hv6, hb6⟩ := hcut
        have hb16 := hb15.trans (hb6.mono hb15.size)
        clear hv5 hb5 hb15 hb6 hlq
        generalize (if upP c q = true then q + 1 else q) = Q at *
        have hQl : (Lib.decDigits Q).length ≤ 30001 := by
          by_cases h0 : Q = 0
          · subst h0; rw [dec_small (by decide)]; simp
          · have := dec_bl Q h0; omega
        have hsz : (⟨(Lib.decDigits Q).toArray⟩ : ByteArray).size = (Lib.decDigits Q).length := by simp [ByteArray.size]
        go_wp2_with fail
        refine (decimals_any 0 _ Q _ hv6 (by omega) (hP.call hb16)).mono ?_
        rintro e w7 ⟨rfl, hb7⟩
        have hb17 := hb16.trans (hb7.mono hb16.size)
        obtain ⟨nn, rfl⟩ : ∃ nn : Nat, n = (nn : Int) := ⟨n.toNat, by omega⟩
        rw [Int.toNat_natCast] at HR2
        clear hv6 hb16 hb7
        go_upto_if 59 with fail
        go_cut [13, 9] (fun u13 u9 wx => u13 = .string ⟨(digS Q nn t).1.toArray⟩ ∧ u9 = .int .i64 (digS Q nn t).2 ∧ wx = w7)
        case first =>
          by_cases hlong : nn < (Lib.decDigits Q).length
          · have hli : decide (((nn : Nat) : Int) < (((Lib.decDigits Q).length : Nat) : Int)) = true := decide_eq_true (by omega)
            have hlj : ((nn : Nat) : Int) ≤ (((⟨(Lib.decDigits Q).toArray⟩ : ByteArray).size : Nat) : Int) := by omega
            have e1 : digS Q nn t = ((Lib.decDigits Q).take nn, t + 1) := by rw [digS, if_pos hlong]
            have e2 := extract_head ⟨(Lib.decDigits Q).toArray⟩ nn
            go_wp2_with fail
            go_meet
            exact ⟨by rw [e1], by rw [e1], rfl⟩
          · have hli : decide (((nn : Nat) : Int) < (((Lib.decDigits Q).length : Nat) : Int)) = false := decide_eq_false (by omega)
            have e1 : digS Q nn t = (Lib.decDigits Q, t) := by rw [digS, if_neg hlong]
            go_wp2_with fail
            go_meet
            exact ⟨by rw [e1], by rw [e1], rfl⟩
        case rest =>
          obtain ⟨rfl, rfl, rfl⟩ := hcut
          have hds : (digS Q nn t).1.length ≤ 100000 ∧ -5000 ≤ (digS Q nn t).2 ∧ (digS Q nn t).2 ≤ 5000 := by
            unfold digS
            split
            · simp only [List.length_take]; omega
            · simp only; omega
          generalize digS Q nn t = ds at *
          go_wp2_with fail
          refine (scientific_any x ds.1 ds.2 _ hx hds.1 (by omega) (by omega) (hP.call hb17)).mono ?_
          rintro e w8 ⟨rfl, hb8⟩
          go_wp2_with fail
          go_ret2
          exact ⟨by rw [← HR2.out]; rfl, hb17.trans (hb8.mono hb17.size)⟩
end Go.Proofs.YtkfbailpifmdcaaGreatDoor
end

section
namespace Go.Proofs.YtkfbailpifmdcaaGreatDoor
open Go.RowKit

/-- Are digits, times 10^k, read as a number? -/
def readsP (x n : Nat) (k : Int) : Bool := (tensP false n (Lib.decDigits n).length k).1 == absN x
theorem dec_lt (n : Nat) : n < 10 ^ (Lib.decDigits n).length := by rw [Lib.decDigits_length]; exact Lib.lt_pow_nDigits n
theorem dec_len4 {n : Nat} (h : bl n ≤ 4200) : (Lib.decDigits n).length ≤ 4200 := by
  by_cases h0 : n = 0
  · subst h0; rw [dec_small (by decide)]; simp
  · exact Nat.le_trans (dec_bl n h0) h

set_option maxRecDepth 100000 in
set_option maxHeartbeats 4000000 in
theorem reads_any (lo : Nat) (x : Nat) (a : Value) (n : Nat) (k : Int) (w : World) (hx : x < 18446744073709551616) (ha : Num lo w a n) (hn : bl n ≤ 4200) (hk1 : -1099511627776 ≤ k) (hk2 : k ≤ 1099511627776) (hT : TabW w) (hP : TabP w) :
    Calls Tryz.prog 43 #[.int .u64 ((x : Nat) : Int), a, .int .i64 k] w fun en w' => en = .returned (.bool (readsP x n k)) ∧ Below w.heap.size w w' := by
  have han := andNot_sign hx
  have hdl := dec_len4 hn
  have hsz : (⟨(Lib.decDigits n).toArray⟩ : ByteArray).size = (Lib.decDigits n).length := by simp [ByteArray.size]
  have hdt := dec_lt n
  have htens := fun lo w ha hT => tens_any lo false a n (Lib.decDigits n).length k w ha hdt hdl hk1 hk2 hT
  have hdec := fun lo w ha hP => decimals_any lo a n w ha (by omega) hP
  obtain ⟨r, hr⟩ : ∃ r, readsP x n k = r := ⟨_, rfl⟩
  rw [hr]
  unfold readsP at hr
  generalize tensP false n (Lib.decDigits n).length k = T at *
  generalize absN x = y at *
  have HTENS := Lib.hid htens
  have HDEC := Lib.hid hdec
  have HR := Lib.hid hr
  clear htens hdec hr hdt
  have hfd : ∀ w : World, (Instr.field 25 (.agg #[.int .u64 ((T.1 : Nat) : Int), .int .u8 ((T.2 : Nat) : Int)]) 0).run Tryz.prog w = .ok (.int .u64 ((T.1 : Nat) : Int)) w := fun _ => by kernel_rfl
  go_enter Tryz.func43, Tryz.ntmps43
  go_wp2_with fail
  refine (HDEC.out lo w ha hP).mono ?_
  rintro e w1 ⟨rfl, hb1⟩
  go_wp2_with fail
  refine (HTENS.out lo w1 (ha.call hb1) (hT.call hb1)).mono ?_
  rintro e w2 ⟨rfl, hb2⟩
  go_wp2_with fail
  go_ret
  exact ⟨ret_bool (by rw [← HR.out, Bool.eq_iff_iff, beq_iff_eq, beq_iff_eq]; omega), hb1.trans (hb2.mono hb1.size)⟩
end Go.Proofs.YtkfbailpifmdcaaGreatDoor
end

section
namespace Go.Proofs.YtkfbailpifmdcaaGreatDoor
open Go.RowKit

theorem scale_mul (m : Nat) (x k : Int) (j : Nat) : scN m x (k + j) * scD x k = scN m x k * 10 ^ j * scD x (k + j) := by
  unfold scN scD
  have h : 10 ^ (k + j).toNat * 10 ^ (-k).toNat = 10 ^ k.toNat * 10 ^ j * 10 ^ (-(k + j)).toNat := by
    rw [← Nat.pow_add, ← Nat.pow_add, ← Nat.pow_add]
    congr 1
    omega
  generalize 10 ^ (k + j).toNat = a at *
  generalize 10 ^ (-k).toNat = b at *
  generalize 10 ^ k.toNat = c at *
  generalize 10 ^ j = d at *
  generalize 10 ^ (-(k + j)).toNat = e at *
  generalize 2 ^ x.toNat = f at *
  generalize 2 ^ (-x).toNat = g at *
  have e1 : m * f * a * (g * b) = m * f * g * (a * b) := by grind
  have e2 : m * f * c * d * (g * e) = m * f * g * (c * d * e) := by grind
  rw [e1, e2, h]
theorem q_lt {m : Nat} {x t : Int} (ht : ¬ geT m x (t + 1)) (n : Nat) : scN m x (n - 1 - t) / scD x (n - 1 - t) < 10 ^ n := by
  have h1 := scale_mul m x (-(t + 1)) n
  rw [show -(t + 1) + (n : Int) = n - 1 - t by omega] at h1
  unfold geT at ht
  have h2 : scN m x (-(t + 1)) < scD x (-(t + 1)) := by omega
  have h3 := scD_pos x (n - 1 - t)
  have h4 := scD_pos x (-(t + 1))
  rw [Nat.div_lt_iff_lt_mul h3]
  generalize scN m x (n - 1 - t) = A at *
  generalize scD x (n - 1 - t) = B at *
  generalize scN m x (-(t + 1)) = C at *
  generalize scD x (-(t + 1)) = D at *
  have hP : 0 < 10 ^ n := Nat.pow_pos (by decide)
  generalize 10 ^ n = P at *
  rcases Nat.lt_or_ge A (P * B) with h | h
  · exact h
  · have h5 : P * B * D ≤ A * D := Nat.mul_le_mul_right _ h
    have h6 : C * P * B = C * (P * B) := Nat.mul_assoc _ _ _
    have h7 : P * B * D = D * (P * B) := Nat.mul_comm _ _
    have hPB : 0 < P * B := Nat.mul_pos hP h3
    have h8 : C * (P * B) < D * (P * B) := Nat.mul_lt_mul_of_pos_right h2 hPB
    omega

structure ShortStep where
  lo : Nat
  c : Int
  left : Bool
def shortAt (m : Nat) (x t : Int) (n : Nat) : ShortStep :=
  ⟨scN m x (n - 1 - t) / scD x (n - 1 - t), cmpN (scN m x (n - 1 - t) % scD x (n - 1 - t) * 2) (scD x (n - 1 - t)), !(scN m x (n - 1 - t) % scD x (n - 1 - t) == 0)⟩
def ShortStep.down (s : ShortStep) (x : Nat) (k : Int) : Bool := !(s.lo == 0) && readsP x s.lo k
def ShortStep.up (s : ShortStep) (x : Nat) (k : Int) : Bool := s.left && readsP x (s.lo + 1) k
def ShortStep.ok (s : ShortStep) (x : Nat) (k : Int) : Bool := s.down x k || s.up x k
def ShortStep.pick (s : ShortStep) (x : Nat) (k : Int) : Nat := if !s.down x k || (s.up x k && upP s.c s.lo) then s.lo + 1 else s.lo
/-- The text of so many digits that are read back. -/
def shortL (x n : Nat) (t : Int) : List UInt8 :=
  let k := t - n + 1
  let s := Lib.decDigits ((shortAt (nM x) (nE x) t n).pick x k)
  sciL x (Lib.trimRightB s 48) (k + (s.length : Nat) - 1)
def ShortIs (x n : Nat) (t : Int) : Prop := 1 ≤ n ∧ n ≤ 1000 ∧ IsTop (nM x) (nE x) t ∧ (shortAt (nM x) (nE x) t n).ok x (t - n + 1) = true ∧ ∀ j, 1 ≤ j → j < n → (shortAt (nM x) (nE x) t j).ok x (t - j + 1) = false

set_option maxRecDepth 100000 in
set_option maxHeartbeats 8000000 in
theorem Shortest_any (x n : Nat) (t : Int) (w : World) (hx : x < 18446744073709551616) (hpl : (plainP x [48]).2 = false) (hsh : ShortIs x n t) (ht1 : -2000 ≤ t) (ht2 : t ≤ 2000) (hT : TabW w) (hP : TabP w) :
    Calls Tryz.prog 15 #[.int .u64 ((x : Nat) : Int)] w fun en w' => en = .returned (.string ⟨(shortL x n t).toArray⟩) ∧ Below w.heap.size w w' := by
  obtain ⟨hn1, hn2, htop, hok, hno⟩ := hsh
  obtain ⟨R, hR⟩ : ∃ R, shortL x n t = R := ⟨_, rfl⟩
  rw [hR]
  unfold shortL at hR
  have HR := Lib.hid hR
  have hpla := fun w => plain_any x ⟨#[48]⟩ w hx (by decide)
  simp only at hpla
  rw [show plainP x (⟨#[48]⟩ : ByteArray).data.toList = plainP x [48] from rfl, hpl] at hpla
  have hmb := nM_bl x
  have hel := nE_le x
  have hval := fun w hT => value_any x w hx hT
  rw [show fAbs (vM x) = nM x from rfl, show fExp (vM x) (vE x) = nE x from rfl] at hval
  generalize (plainP x [48]).1 = pl at *
  generalize nM x = m at *
  generalize nE x = e0 at *
  have hdt := fun lo v neg w hd hT => decimalTop_any lo v neg m e0 t w hd (by omega) (by omega) (by omega) htop (by omega) (by omega) hT
  have HPL := Lib.hid hpla
  have HV := Lib.hid hval
  have HDT := Lib.hid hdt
  have HTOP := Lib.hid htop
  have HNO := Lib.hid hno
  have HOK := Lib.hid hok
  clear hpla hval hdt htop hno hok hR hpl
  go_enter Tryz.func15, Tryz.ntmps15
  go_wp2_with fail
  refine (HPL.out w).mono ?_
  rintro e w1 ⟨rfl, hw⟩
  subst hw
  clear HPL
  go_wp2_with fail
  refine (HV.out w hT).mono ?_
  rintro e w2 ⟨v2, rfl, ⟨a2, rfl, ha2⟩, hb2⟩
  clear HV
  obtain ⟨x2, c2, rfl⟩ := ha2.slice'
  have hb3 := hb2.alloc hb2.size (.cells #[.bool false, .slice x2 (limbsOf m).length c2, .int .i64 e0] 62)
  have hk3 := Blk.new w2 #[.bool false, .slice x2 (limbsOf m).length c2, .int .i64 e0] 62
  have ha3 := (ha2.call ((Below.refl w2.heap.size w2).alloc (Nat.le_refl _) (.cells #[.bool false, .slice x2 (limbsOf m).length c2, .int .i64 e0] 62)))
  go_wp2_with fail
  refine (HDT.out _ _ false _ ⟨_, rfl, ha3⟩ (hT.call hb3)).mono ?_
  rintro e w4 ⟨rfl, hb4⟩
  clear HDT
  have hb14 := hb3.trans (hb4.mono hb3.size)
  have hk4 := hk3.call hb4
  have ha4 := (ha3.call hb4).mono (Nat.zero_le _)
  clear hb2 hb3 hk3 ha2 ha3 hb4
  go_wp2_with fail
  go_loopw [7] (fun u7 wr => ∃ j : Nat, 1 ≤ j ∧ j ≤ n ∧ u7 = .int .i64 ((j : Nat) : Int) ∧ Below w.heap.size w wr ∧ Num 0 wr (.slice x2 (limbsOf m).length c2) m ∧ Blk wr w2.heap.size #[.bool false, .slice x2 (limbsOf m).length c2, .int .i64 e0] 62) (fun u7 _ => n - (intOf u7).toNat)
  case atStart => exact ⟨1, Nat.le_refl _, hn1, rfl, hb14, ha4, hk4⟩
  case round =>
    clear hb14 hk4 ha4
    obtain ⟨j, hj1, hjn, rfl, hbw, ha5, hk5⟩ := hrel
    have k0 := hk5.cell 0 _ rfl
    have k1 := hk5.cell 1 _ rfl
    have k2 := hk5.cell 2 _ rfl
    obtain ⟨k, hk⟩ : ∃ k : Int, t - j + 1 = k := ⟨_, rfl⟩
    have hkn : -k = (j : Int) - 1 - t := by omega
    have hsc := scaled_any 0 _ false m e0 ((j : Int) - 1 - t) wr ⟨_, rfl, ha5⟩ (by omega) (by omega) (by omega) (by omega) (by omega) (hT.call hbw)
    have hlt := q_lt HTOP.out.2 j
    have HST := Lib.hid (show shortAt m e0 t j = ⟨scN m e0 (j - 1 - t) / scD e0 (j - 1 - t), cmpN (scN m e0 (j - 1 - t) % scD e0 (j - 1 - t) * 2) (scD e0 (j - 1 - t)), !(scN m e0 (j - 1 - t) % scD e0 (j - 1 - t) == 0)⟩ from rfl)
    unfold ScaledPost at hsc
    generalize scN m e0 (j - 1 - t) / scD e0 (j - 1 - t) = q at *
    generalize cmpN (scN m e0 (j - 1 - t) % scD e0 (j - 1 - t) * 2) (scD e0 (j - 1 - t)) = c at *
    generalize (!(scN m e0 (j - 1 - t) % scD e0 (j - 1 - t) == 0)) = lb at *
    have hqb := bl_ten hlt
    rw [← hkn] at hsc
    have HSC := Lib.hid hsc
    clear hsc hlt hkn
    have hkb : -3100 ≤ k ∧ k ≤ 3100 := by omega
    go_wp2_with fail
    refine HSC.out.mono ?_
    rintro en w5 ⟨v5, rfl, hv5, hb5⟩
    clear HSC
    have hbw5 := hbw.trans (hb5.mono hbw.size)
    have hk6 := hk5.call hb5
    have ha6 := ha5.call hb5
    clear k0 k1 k2 hk5 ha5
    have hlq := limbs_bl (n := q) (k := 1000) (by omega)
    go_wp2_with fail
    refine (Of_any 1 _ (by decide) (by decide)).mono ?_
    rintro en w6 ⟨v6, rfl, hv6, hb6⟩
    have hadd := Add_any 0 v5 v6 (limbsOf q) (limbsOf 1) w6 ((hv5.call hb6).words.mono (Nat.zero_le _)) (hv6.words.mono (Nat.zero_le _)) (by omega) (by have := ten_len 0; rw [Nat.pow_zero] at this; omega)
    rw [valN_limbsOf, valN_limbsOf] at hadd
    go_wp2_with fail
    refine hadd.mono ?_
    rintro en w7 ⟨v7, rfl, hv7, hb7⟩
    clear hadd
    have hbw7 := (hbw5.trans (hb6.mono hbw5.size)).trans (hb7.mono (hbw5.trans (hb6.mono hbw5.size)).size)
    have hlo7 := ((hv5.call hb6).call hb7).mono (Nat.zero_le _)
    have hhi7 := hv7.mono (Nat.zero_le _)
    have hk7 := (hk6.call hb6).call hb7
    have ha7 := (ha6.call hb6).call hb7
    clear hb5 hb6 hb7 hbw5 hv5 hv6 hv7 hk6 ha6
    have hql : bl (q + 1) ≤ 4200 := Nat.le_trans (bl_succ q) (by omega)
    have hrl := fun lo a w (ha : Num lo w a q) hT hP => reads_any lo x a q k w hx ha (by omega) (by omega) (by omega) hT hP
    have hrh := fun lo a w (ha : Num lo w a (q + 1)) hT hP => reads_any lo x a (q + 1) k w hx ha hql (by omega) (by omega) hT hP
    have hds : (shortAt m e0 t j).down x k = (!(q == 0) && readsP x q k) := by rw [HST.out]; rfl
    have hus : (shortAt m e0 t j).up x k = (lb && readsP x (q + 1) k) := by rw [HST.out]; rfl
    have hps : (shortAt m e0 t j).pick x k = if !(shortAt m e0 t j).down x k || ((shortAt m e0 t j).up x k && upP c q) then q + 1 else q := by unfold ShortStep.pick; rw [HST.out]
    have hoks : (shortAt m e0 t j).ok x k = ((shortAt m e0 t j).down x k || (shortAt m e0 t j).up x k) := rfl
    generalize (shortAt m e0 t j).down x k = dn at *
    generalize (shortAt m e0 t j).up x k = upb at *
    have HRL := Lib.hid hrl
    have HRH := Lib.hid hrh
    have HPS := Lib.hid hps
    have HOKS := Lib.hid hoks
    have HUS := Lib.hid hus
    have HDS := Lib.hid hds
    have hqz := @limbsOf_len_zero q
    clear hrl hrh hps hoks hus hds
    obtain ⟨x5, c5, rfl⟩ := hlo7.slice'
    go_upto_region 11 with fail
    go_cut [13] (fun u13 wx => u13 = .bool dn ∧ Below w7.heap.size w7 wx)
    case first =>
      by_cases hq0 : q = 0
      · have e1 : dn = false := by rw [HDS.out, hq0]; rfl
        have e2 : decide (0 < (limbsOf q).length) = false := decide_eq_false (by have := hqz.2 hq0; omega)
        clear hqz hq0
        go_wp2_with fail
        go_meet
        exact ⟨by rw [e1], Below.refl _ _⟩
      · have e1 : dn = readsP x q k := by rw [HDS.out, beq_eq_false_iff_ne.2 hq0]; rfl
        have e2 : decide (0 < (limbsOf q).length) = true := decide_eq_true (by have := mt hqz.1 hq0; omega)
        clear hqz hq0
        go_wp2_with fail
        refine (HRL.out 0 _ w7 hlo7 (hT.call hbw7) (hP.call hbw7)).mono ?_
        rintro en w8 ⟨rfl, hb8⟩
        go_wp2_with fail
        go_meet
        exact ⟨by rw [e1], hb8⟩
    case rest =>
      obtain ⟨rfl, hb8⟩ := hcut
      have hbw8 := hbw7.trans (hb8.mono hbw7.size)
      have hlo8 := hlo7.call hb8
      have hhi8 := hhi7.call hb8
      have hk8 := hk7.call hb8
      have ha8 := ha7.call hb8
      clear hbw7 hlo7 hhi7 hk7 ha7 hqz
      go_upto_region 12 with fail
      go_cut [14] (fun u14 wx => u14 = .bool upb ∧ Below wc.heap.size wc wx)
      case first =>
        cases lb with
        | false =>
          have e1 : upb = false := HUS.out
          go_wp2_with fail
          go_meet
          exact ⟨by rw [e1], Below.refl _ _⟩
        | true =>
          have e1 : upb = readsP x (q + 1) k := HUS.out
          go_wp2_with fail
          refine (HRH.out 0 _ wc hhi8 (hT.call hbw8) (hP.call hbw8)).mono ?_
          rintro en w9 ⟨rfl, hb9⟩
          go_wp2_with fail
          go_meet
          exact ⟨by rw [e1], hb9⟩
      case rest =>
        obtain ⟨rfl, hb9⟩ := hcut
        have hbw9 := hbw8.trans (hb9.mono hbw8.size)
        have hlo9 := hlo8.call hb9
        have hhi9 := hhi8.call hb9
        have hk9 := hk8.call hb9
        have ha9 := ha8.call hb9
        clear hbw8 hlo8 hhi8 hk8 ha8 hb8 hb9 HRL HRH
        go_upto_region 13 with fail
        go_cut [67] (fun u67 wx => u67 = .bool (!(dn || upb)) ∧ wx = wc)
        case first =>
          cases dn <;> cases upb <;> (go_wp2_with fail; go_meet; exact ⟨rfl, rfl⟩)
        case rest =>
          obtain ⟨rfl, rfl⟩ := hcut
          cases hokb : (dn || upb) with
          | false =>
            have hjlt : j < n := by
              rcases Nat.lt_or_ge j n with h | h
              · exact h
              · obtain rfl : j = n := by omega
                have h1 := HOK.out
                rw [hk, HOKS.out, hokb] at h1
                exact absurd h1 (by decide)
            clear HOKS hokb
            go_wp2_with fail
            go_roundw
            case rel => exact ⟨j + 1, by omega, by omega, by go_num, hbw9, ha9, hk9⟩
            case measure => simp [intOf]; omega
          | true =>
            have hjn2 : j = n := by
              rcases Nat.lt_or_ge j n with h | h
              · have h1 := HNO.out j hj1 h
                rw [hk, HOKS.out, hokb] at h1
                exact absurd h1 (by decide)
              · omega
            subst hjn2
            have hr := HR.out
            rw [hk, HPS.out] at hr
            have HR3 := Lib.hid hr
            clear HOKS HR hr HPS HOK HNO hokb
            have hlq2 := limbs_bl (n := q + 1) (k := 1000) (by omega)
            have hbit := fun w h => Bit_any 0 (.slice x5 (limbsOf q).length c5) (limbsOf q) 0 w h (by decide)
            rw [valN_limbsOf, Nat.pow_zero, Nat.div_one] at hbit
            have hup : upP c q = (decide (0 < c) || (c == 0 && q % 2 == 1)) := rfl
            have HBIT := Lib.hid hbit
            have HUP := Lib.hid hup
            clear hbit hup
            generalize (q % 2 == 1) = od at *
            generalize upP c q = uq at *
            go_upto_region 15 with fail
            go_cut [85] (fun u85 wx => u85 = .bool (!dn || (upb && uq)) ∧ wx = wc)
            case first =>
              cases dn with
              | false =>
                go_wp2_with fail
                go_meet
                exact ⟨rfl, rfl⟩
              | true =>
                cases upb with
                | false =>
                  go_wp2_with fail
                  go_meet
                  exact ⟨rfl, rfl⟩
                | true =>
                  rcases Int.lt_trichotomy c 0 with h | h | h
                  · have e1 : uq = false := by rw [HUP.out, decide_eq_false (by omega), beq_eq_false_iff_ne.2 (by omega)]; rfl
                    have e2 : decide ((0 : Int) < c) = false := decide_eq_false (by omega)
                    have e3 : (c == 0) = false := beq_eq_false_iff_ne.2 (by omega)
                    clear h
                    go_wp2_with fail
                    go_meet
                    exact ⟨by rw [e1]; rfl, rfl⟩
                  · subst h
                    have e1 : uq = od := by rw [HUP.out, decide_eq_false (by omega)]; rfl
                    go_wp2_with fail
                    refine (HBIT.out wc hlo9).mono ?_
                    rintro en w10 ⟨rfl, hw⟩
                    subst hw
                    go_wp2_with fail
                    go_meet
                    exact ⟨by rw [e1]; rfl, rfl⟩
                  · have e1 : uq = true := by rw [HUP.out, decide_eq_true h]; rfl
                    go_wp2_with fail
                    go_meet
                    exact ⟨by rw [e1]; rfl, rfl⟩
            case rest =>
              obtain ⟨rfl, rfl⟩ := hcut
              generalize (!dn || (upb && uq)) = pk at *
              go_upto_if 85 with fail
              go_cut [15] (fun u15 wx => Num 0 wc u15 (if pk = true then q + 1 else q) ∧ wx = wc)
              case first =>
                cases pk with
                | false =>
                  go_wp2_with fail
                  go_meet
                  exact ⟨by rw [if_neg (by decide)]; exact hlo9, rfl⟩
                | true =>
                  go_wp2_with fail
                  go_meet
                  exact ⟨by rw [if_pos trivial]; exact hhi9, rfl⟩
              case rest =>
                obtain ⟨hQ, rfl⟩ := hcut
                have hQb : bl (if pk = true then q + 1 else q) ≤ 4200 := by split <;> omega
                generalize (if pk = true then q + 1 else q) = Q at *
                have hdl := dec_len4 hQb
                have hsz : (⟨(Lib.decDigits Q).toArray⟩ : ByteArray).size = (Lib.decDigits Q).length := by simp [ByteArray.size]

                go_wp2_with fail
                refine (decimals_any 0 _ Q _ hQ (by omega) (hP.call hbw9)).mono ?_
                rintro en w10 ⟨rfl, hb10⟩
                have hbw10 := hbw9.trans (hb10.mono hbw9.size)
                go_wp2_with fail
                refine (Tryz.strings_TrimRight_one ⟨(Lib.decDigits Q).toArray⟩ 48 (by decide) w10 (by rw [hsz]; omega)).mono ?_
                rintro en w11 ⟨rfl, hw⟩
                subst hw
                have htl : (Lib.trimRightB (Lib.decDigits Q) 48).length ≤ 100000 := by
                  have h := (List.dropWhile_sublist (· == (48 : UInt8)) (l := (Lib.decDigits Q).reverse)).length_le
                  rw [List.length_reverse] at h
                  unfold Lib.trimRightB
                  rw [List.length_reverse]
                  omega
                have hsci := fun e w h1 h2 hP => scientific_any x (Lib.trimRightB (Lib.decDigits Q) 48) e w hx htl h1 h2 hP
                have HSCI := Lib.hid hsci
                clear hsci
                go_wp2_with fail
                refine (HSCI.out _ _ (by omega) (by omega) (hP.call hbw10)).mono ?_
                rintro en w12 ⟨rfl, hb12⟩
                go_wp2_with fail
                go_ret
                exact ⟨by rw [← HR3.out]; rfl, hbw10.trans (hb12.mono hbw10.size)⟩
end Go.Proofs.YtkfbailpifmdcaaGreatDoor
end
