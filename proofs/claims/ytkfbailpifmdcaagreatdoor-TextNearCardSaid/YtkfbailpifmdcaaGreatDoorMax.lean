/- RefM RefN -/
import Derived.Test.YtkfbailpifmdcaaGreatDoorMaw
import Derived.Test.YtkfbailpifmdcaaGreatDoorMah
import Derived.Deep.RegionHeld3
section
namespace Go.Proofs.YtkfbailpifmdcaaGreatDoor
open Go.RowKit

def upC (m n : Nat) : Bool := (m / 2 ^ (n - 1) % 2 == 1) && (decide (tz m < n - 1) || (m / 2 ^ n % 2 == 1))
/-- A number's amount to a whole number of 2 ^ e, ties to even. -/
def cutN (m : Nat) (x e : Int) : Nat × Bool := if e ≤ x then (m * 2 ^ (x - e).toNat, false) else (m / 2 ^ (e - x).toNat + (if upC m (e - x).toNat then 1 else 0), lostN m (e - x).toNat)
theorem up_none {m n : Nat} (h : lostN m (n + 1) = false) : upC m (n + 1) = false := by
  unfold lostN at h
  have hd : m % 2 ^ (n + 1) = 0 := by simpa using h
  obtain ⟨u, hu⟩ := Nat.dvd_of_mod_eq_zero hd
  unfold upC
  have e : m / 2 ^ (n + 1 - 1) % 2 = 0 := by
    rw [Nat.add_sub_cancel, hu, Nat.pow_succ, Nat.mul_assoc, Nat.mul_div_cancel_left _ (Nat.two_pow_pos n), Nat.mul_mod_right]
  rw [e]
  rfl
theorem bl_shl (m k : Nat) : bl (m * 2 ^ k) ≤ bl m + k := by
  refine bl_le ?_
  rw [Nat.pow_add]
  exact Nat.mul_lt_mul_of_pos_right (bl_lt m) (Nat.two_pow_pos k)

set_option maxRecDepth 100000 in
set_option maxHeartbeats 1000000 in
theorem cut05_any (lo : Nat) (a : Value) (m : Nat) (x e : Int) (w : World) (ha : Num lo w a m) (hm : bl m ≤ 1000000) (hx1 : -1000000 ≤ x) (hx2 : x ≤ 1000000) (he1 : -1000000 ≤ e) (he2 : e ≤ 1000000) :
    Calls Tryz.prog 128 #[a, .int .i64 x, .int .i64 e] w fun en w' => ∃ v, en = .returned (.tuple #[v, .bool (cutN m x e).2]) ∧ Num w.heap.size w' v (cutN m x e).1 ∧ Below w.heap.size w w' := by
  have hl : (limbsOf m).length ≤ 1000000 := limbs3 (by omega)
  have E1 := valN_limbsOf m
  unfold cutN
  by_cases hle : e ≤ x
  · rw [if_pos hle]
    obtain ⟨k, hk⟩ : ∃ k, (x - e).toNat = k := ⟨_, rfl⟩
    have hki : x - e = ((k : Nat) : Int) := by omega
    have hsh := Shl03_any lo a (limbsOf m) k w ha.words (by omega) (by omega)
    rw [E1] at hsh
    rw [hk]
    have HS := Lib.hid hsh
    clear hsh E1 hk
    obtain ⟨px, cx, rfl⟩ : ∃ xx cc, a = .slice xx (limbsOf m).length cc := by
      obtain ⟨xx, cc, e, _⟩ := ha
      exact ⟨xx, cc, e⟩
    go_enter Tryz.func128, Tryz.ntmps128
    go_wp2_with fail
    refine HS.out.mono ?_
    rintro en w1 ⟨v, rfl, hv, hb⟩
    go_wp2_with fail
    go_ret2
    exact ⟨_, rfl, hv, hb⟩
  · rw [if_neg hle]
    obtain ⟨n, hn⟩ : ∃ n, (e - x).toNat = n + 1 := ⟨(e - x).toNat - 1, by omega⟩
    rw [hn]
    have hni : e - x = ((n + 1 : Nat) : Int) := by omega
    have hni2 : ((n + 1 : Nat) : Int) - 1 = ((n : Nat) : Int) := by omega
    have hnl : n ≤ 3000000 := by omega
    have hN := fun w ha => Norm03_any lo a (limbsOf m) w ha (by omega)
    have hS := fun lo v w hv => Shr03_any lo v (limbsOf m) (n + 1) w hv (by omega) (by omega)
    have hB := fun w ha => Bit03_any lo a (limbsOf m) n w ha (by omega)
    have hL := fun w ha => Low03_any lo a (limbsOf m) w ha (by omega)
    have hqb : bl (m / 2 ^ (n + 1)) ≤ bl m := bl_mono (Nat.div_le_self _ _)
    have hql : (limbsOf (m / 2 ^ (n + 1))).length ≤ 1000000 := limbs3 (by omega)
    have hup := @up_none m n
    have hupd : upC m (n + 1) = ((m / 2 ^ n % 2 == 1) && (decide (tz m < n) || (m / 2 ^ (n + 1) % 2 == 1))) := rfl
    rw [E1] at hN hS hB hL
    have hge : ¬ (e : Int) ≤ x := hle
    obtain ⟨nn, hnn⟩ : ∃ nn, n + 1 = nn := ⟨_, rfl⟩
    rw [hnn] at hni hni2 hS hup hupd hqb hql ⊢
    have hqq : ∀ lo v w (hv : Num lo w v (m / 2 ^ nn)), Calls Tryz.prog 147 #[v, .int .i64 ((0 : Nat) : Int)] w fun e w' => e = .returned (.bool (m / 2 ^ nn % 2 == 1)) ∧ w = w' := fun lo v w hv => by
      have h := Bit03_any lo v _ 0 w hv.words (by decide)
      rw [valN_limbsOf, Nat.pow_zero, Nat.div_one] at h
      exact h
    have hadd : ∀ lo v lo2 v2 w (hv : Num lo w v (m / 2 ^ nn)) (hv2 : Num lo2 w v2 1), Calls Tryz.prog 97 #[v, v2] w (NumPost w w.heap.size (m / 2 ^ nn + 1)) := fun lo v lo2 v2 w hv hv2 => by
      have h := Add03_any 0 v v2 _ _ w (hv.words.mono (Nat.zero_le _)) (hv2.words.mono (Nat.zero_le _)) (by omega) (by have : (limbsOf 1).length ≤ 1 := limbs3 (by decide); omega)
      rw [valN_limbsOf, valN_limbsOf] at h
      exact h
    generalize m / 2 ^ nn = Q at *
    obtain ⟨H, hH⟩ : ∃ H, (m / 2 ^ n % 2 == 1) = H := ⟨_, rfl⟩
    obtain ⟨O, hO⟩ : ∃ O, decide (tz m < n) = O := ⟨_, rfl⟩
    obtain ⟨B0, hB0⟩ : ∃ B0, (Q % 2 == 1) = B0 := ⟨_, rfl⟩
    obtain ⟨L, hLo⟩ : ∃ L, lostN m nn = L := ⟨_, rfl⟩
    rw [hH] at hB hupd
    rw [hO, hB0] at hupd
    rw [hB0] at hqq
    rw [hLo] at hS hup ⊢
    generalize upC m nn = U at *
    have HN := Lib.hid hN
    have HS := Lib.hid hS
    have HB := Lib.hid hB
    have HL := Lib.hid hL
    have HQ := Lib.hid hqq
    have HA := Lib.hid hadd
    obtain ⟨tzm, htz⟩ : ∃ t, tz m = t := ⟨_, rfl⟩
    rw [htz] at HL hO
    clear hN hS hB hL hqq hadd hB0 hLo hH htz hqb hql hle hn hnn E1 hm
    obtain ⟨px, cx, rfl⟩ : ∃ xx cc, a = .slice xx (limbsOf m).length cc := by
      obtain ⟨xx, cc, e, _⟩ := ha
      exact ⟨xx, cc, e⟩
    cases L with
    | false =>
      have hU := hup rfl
      rw [hU, if_neg (by decide)]
      clear hup hupd hU HA HQ HB HL hO
      go_enter Tryz.func128, Tryz.ntmps128
      go_wp2_with fail
      refine (HN.out _ ha.words).mono ?_
      rintro en w1 ⟨v1, rfl, hv1, hb1⟩
      go_wp2_with fail
      refine (HS.out _ _ _ hv1.words).mono ?_
      rintro en w2 ⟨v2, rfl, hv2, hb2⟩
      go_wp2_with fail
      go_ret2
      exact ⟨_, rfl, hv2.mono hb1.size, hb1.trans (hb2.mono hb1.size)⟩
    | true =>
      clear hup
      obtain ⟨T, hT⟩ : ∃ T, Q + (if U then 1 else 0) = T := ⟨_, rfl⟩
      rw [hT]
      have HT := Lib.hid hT
      clear hT
      go_enter Tryz.func128, Tryz.ntmps128
      go_wp2_with fail
      refine (HN.out _ ha.words).mono ?_
      rintro en w1 ⟨v1, rfl, hv1, hb1⟩
      go_wp2_with fail
      refine (HS.out _ _ _ hv1.words).mono ?_
      rintro en w2 ⟨v2, rfl, hv2, hb2⟩
      have hb12 := hb1.trans (hb2.mono hb1.size)
      go_wp2_with fail
      refine (HB.out _ (ha.call hb12).words).mono ?_
      rintro en w3 ⟨rfl, hw⟩
      subst hw
      go_wp2_with fail
      refine (HL.out _ (ha.call hb12).words).mono ?_
      rintro en w4 ⟨rfl, hb4⟩
      have hv4 := hv2.call hb4
      have hb14 := hb12.trans (hb4.mono hb12.size)
      have hv5 := hv4.mono hb1.size
      clear hb1 hb2 hb4 hv1 hv2 hb12 HN HS HB HL ha
      cases H with
      | false =>
        rw [Bool.false_and] at hupd
        subst hupd
        have hTQ : Q = T := by have := HT.out; rw [if_neg (by decide), Nat.add_zero] at this; exact this
        rw [hTQ] at hv5
        clear hTQ HT
        go_wp2_with fail
        go_ret2
        exact ⟨_, rfl, hv5, hb14⟩
      | true =>
        rw [Bool.true_and] at hupd
        cases O with
        | true =>
          rw [Bool.true_or] at hupd
          subst hupd
          have hTQ : Q + 1 = T := by have := HT.out; rw [if_pos rfl] at this; exact this
          rw [hTQ] at HA
          clear hTQ HT
          go_wp2_with fail
          refine (Of03_any 1 _ (by decide) (by decide)).mono ?_
          rintro en w6 ⟨v6, rfl, hv6, hb6⟩
          go_wp2_with fail
          refine (HA.out _ _ _ _ _ (hv4.call hb6) hv6).mono ?_
          rintro en w7 ⟨v7, rfl, hv7, hb7⟩
          have hb16 := hb14.trans (hb6.mono hb14.size)
          go_wp2_with fail
          go_ret2
          exact ⟨_, rfl, hv7.mono hb16.size, hb16.trans (hb7.mono hb16.size)⟩
        | false =>
          rw [Bool.false_or] at hupd
          subst hupd
          go_wp2_with fail
          refine (HQ.out _ _ _ hv4).mono ?_
          rintro en w5 ⟨rfl, hw⟩
          subst hw
          cases U with
          | false =>
            have hTQ : Q = T := by have := HT.out; rw [if_neg (by decide), Nat.add_zero] at this; exact this
            rw [hTQ] at hv5
            clear hTQ HT
            go_wp2_with fail
            go_ret2
            exact ⟨_, rfl, hv5, hb14⟩
          | true =>
            have hTQ : Q + 1 = T := by have := HT.out; rw [if_pos rfl] at this; exact this
            rw [hTQ] at HA
            clear hTQ HT
            go_wp2_with fail
            refine (Of03_any 1 _ (by decide) (by decide)).mono ?_
            rintro en w6 ⟨v6, rfl, hv6, hb6⟩
            go_wp2_with fail
            refine (HA.out _ _ _ _ _ (hv4.call hb6) hv6).mono ?_
            rintro en w7 ⟨v7, rfl, hv7, hb7⟩
            have hb16 := hb14.trans (hb6.mono hb14.size)
            go_wp2_with fail
            go_ret2
            exact ⟨_, rfl, hv7.mono hb16.size, hb16.trans (hb7.mono hb16.size)⟩
end Go.Proofs.YtkfbailpifmdcaaGreatDoor
end

section
namespace Go.Proofs.YtkfbailpifmdcaaGreatDoor
open Go.RowKit

theorem wrapi3 {x : Int} (h0 : -9223372036854775808 ≤ x) (h1 : x ≤ 9223372036854775807) : IntKind.i64.wrap x = x := by
  rw [IntKind.wrap_i64]
  omega
theorem keep32 {W W' : World} {p1 p2 : Addr} {v1 v2 : Value} (hb : Below W.heap.size W W') (h : W.cell? p1 = some v1 ∧ W.cell? p2 = some v2) : W'.cell? p1 = some v1 ∧ W'.cell? p2 = some v2 :=
  ⟨(hb.cell (World.block_lt_of_cell? W _ h.1)).trans h.1, (hb.cell (World.block_lt_of_cell? W _ h.2)).trans h.2⟩

set_option maxRecDepth 100000 in
set_option maxHeartbeats 1000000 in
theorem top05_any (lo : Nat) (v : Value) (neg : Bool) (m : Nat) (x : Int) (w : World) (hd : Dy lo w v neg m x) (hm : bl m ≤ 1000000) (hx1 : -1000000 ≤ x) (hx2 : x ≤ 1000000) :
    Calls Tryz.prog 127 #[v] w fun e w' => e = .returned (.int .i64 (topP m x)) ∧ Below w.heap.size w w' := by
  obtain ⟨a, rfl, ha⟩ := hd
  have hl : (limbsOf m).length ≤ 1000000 := limbs3 (by omega)
  have hL := fun w ha => Len03_any lo a (limbsOf m) w ha (by omega)
  rw [valN_limbsOf] at hL
  obtain ⟨T, hT⟩ : ∃ T, topP m x = T := ⟨_, rfl⟩
  rw [hT]
  unfold topP at hT
  generalize bl m = b at *
  have hwT : IntKind.i64.wrap T = T := by exact wrapi3 (by omega) (by omega)
  obtain ⟨px, cx, rfl⟩ : ∃ xx cc, a = .slice xx (limbsOf m).length cc := by
    obtain ⟨xx, cc, e, _⟩ := ha
    exact ⟨xx, cc, e⟩
  have hba := (Below.refl w.heap.size w).alloc (Nat.le_refl _) (.cells #[.bool neg, .slice px (limbsOf m).length cx, .int .i64 x] 62)
  have hk := Blk.new w #[.bool neg, .slice px (limbsOf m).length cx, .int .i64 x] 62
  have ha1 := ha.call hba
  clear ha
  go_enter Tryz.func127, Tryz.ntmps127
  go_upto_region 1 with fail
  generalize hW : w.alloc (.cells #[.bool neg, .slice px (limbsOf m).length cx, .int .i64 x] 62) = w1 at *
  generalize w.heap.size = g at hk
  clear hW
  have k1 := hk.cell 1 _ rfl
  have k2 := hk.cell 2 _ rfl
  have hL2 := fun w' (h : Below w1.heap.size w1 w') => hL w' (ha1.call h).words
  have HL := Lib.hid hL2
  clear hL hL2 hk ha1
  go_cut [2] (fun u2 wx => u2 = .int .i64 T ∧ Below w1.heap.size w1 wx)
  case first =>
    have hw1 : Below w1.heap.size w1 w1.drew := below_drewN _ _ 1
    go_region_held3 (fun w' => w'.cell? ⟨g, 1, none⟩ = some (.slice px (limbsOf m).length cx) ∧ w'.cell? ⟨g, 2, none⟩ = some (.int .i64 x)) (first | assumption | go_keep)
      (first
        | (go_at_call 104; refine (HL.out _ hw1).mono ?_; rintro en w5 ⟨rfl, hb5⟩; have Y := keep32 hb5 (by assumption)))
    all_goals (go_wp2_with fail; go_meet; exact ⟨by first | rfl | rw [hwT], hw1.trans (hb5.mono hw1.size)⟩)
  case rest =>
    obtain ⟨rfl, hb5⟩ := hcut
    go_wp2_with fail
    go_ret
    exact ⟨rfl, hba.trans (hb5.mono hba.size)⟩

theorem cut_at {m : Nat} {x e : Int} (hb : (bl m : Int) + x - e ≤ 54) : cutN m x e = atP m x e := by
  unfold cutN atP
  by_cases hle : e ≤ x
  · rw [if_pos hle, if_pos hle]
  · rw [if_neg hle, if_neg hle]
    have hQ : m / 2 ^ (e - x).toNat < 18014398509481984 := by
      refine Nat.div_lt_of_lt_mul (Nat.lt_of_lt_of_le (bl_lt m) ?_)
      rw [show (18014398509481984 : Nat) = 2 ^ 54 from rfl, ← Nat.pow_add]
      exact Nat.pow_le_pow_right (by decide) (by omega)
    have hu : upC m (e - x).toNat = upB m (e - x).toNat := by
      unfold upC upB
      rw [Nat.mod_eq_of_lt (a := m / 2 ^ (e - x).toNat) (b := 18446744073709551616) (by omega)]
    rw [hu]
    unfold atM
    rw [Nat.mod_eq_of_lt (a := m / 2 ^ (e - x).toNat) (b := 18446744073709551616) (by omega), Nat.mod_eq_of_lt (by split <;> omega)]
theorem bl53 (q : Nat) : bl q ≤ 53 ↔ q < 9007199254740992 := by
  constructor
  · intro h
    exact Nat.lt_of_lt_of_le (bl_lt q) (Nat.pow_le_pow_right (by decide) h)
  · intro h
    exact bl_le (k := 53) h
theorem bl0 (q : Nat) : bl q = 0 ↔ q = 0 := by
  constructor
  · intro h
    have := bl_lt q
    rw [h] at this
    omega
  · intro h
    rw [h]
    rfl

set_option maxRecDepth 100000 in
set_option maxHeartbeats 1000000 in
theorem tiny05_any (lo : Nat) (v : Value) (neg : Bool) (m : Nat) (x : Int) (w : World) (hd : Dy lo w v neg m x) (hm : bl m ≤ 500000) (hx1 : -400000 ≤ x) (hx2 : x ≤ 400000) :
    Calls Tryz.prog 131 #[v] w fun e w' => e = .returned (.bool (tinyB m x)) ∧ Below w.heap.size w w' := by
  have hd0 := hd
  obtain ⟨a, rfl, ha⟩ := hd
  have hl : (limbsOf m).length ≤ 1000000 := limbs3 (by omega)
  have hL := fun w ha => Len03_any lo a (limbsOf m) w ha (by omega)
  rw [valN_limbsOf] at hL
  have hT := fun w hd => top05_any lo (.agg #[.bool neg, a, .int .i64 x]) neg m x w hd (by omega) (by omega) (by omega)
  have hC := fun e w ha h1 h2 => cut05_any lo a m x e w ha (by omega) (by omega) (by omega) h1 h2
  have hz := bl0 m
  have htp : topP m x = ((bl m : Nat) : Int) + x := rfl
  obtain ⟨R, hR⟩ : ∃ R, tinyB m x = R := ⟨_, rfl⟩
  rw [hR]
  unfold tinyB at hR
  have hcat := @cut_at m x (topP m x - 53)
  obtain ⟨px, cx, rfl⟩ : ∃ xx cc, a = .slice xx (limbsOf m).length cc := by
    obtain ⟨xx, cc, e, _⟩ := ha
    exact ⟨xx, cc, e⟩
  obtain ⟨t, ht⟩ : ∃ t, topP m x = t := ⟨_, rfl⟩
  rw [ht] at hT hR htp hcat
  have hba := (Below.refl w.heap.size w).alloc (Nat.le_refl _) (.cells #[.bool neg, .slice px (limbsOf m).length cx, .int .i64 x] 62)
  have hk := Blk.new w #[.bool neg, .slice px (limbsOf m).length cx, .int .i64 x] 62
  have hd1 := hd0.call hba
  have ha1 := ha.call hba
  have HL := Lib.hid hL
  have HT := Lib.hid hT
  have HC := Lib.hid hC
  have HR := Lib.hid hR
  have ht1 : -1000000 ≤ t := by omega
  have ht2 : t ≤ 1000000 := by omega
  have HTP := Lib.hid htp
  clear hL hT hC hR ha hd0 ht htp
  go_enter Tryz.func131, Tryz.ntmps131
  go_upto_region 1 with fail
  generalize hW : w.alloc (.cells #[.bool neg, .slice px (limbsOf m).length cx, .int .i64 x] 62) = w1 at *
  generalize w.heap.size = g at hk
  clear hW
  have k0 := hk.cell 0 _ rfl
  have k1 := hk.cell 1 _ rfl
  have k2 := hk.cell 2 _ rfl
  go_wp2_with fail
  refine (HL.out _ ha1.words).mono ?_
  rintro en w2 ⟨rfl, hb2⟩
  have hb12 := hba.trans (hb2.mono hba.size)
  have hk2 := hk.call hb2
  by_cases hm0 : m = 0
  · have hr := HR.out
    rw [if_pos hm0] at hr
    subst hr
    have e0 : bl m = 0 := hz.2 hm0
    have hbe : (((bl m : Nat) : Int) == 0) = true := by rw [e0]; rfl
    clear e0 hm0 HR
    go_wp2_with fail
    go_ret
    exact ⟨rfl, hb12⟩
  · have hr := HR.out
    rw [if_neg hm0] at hr
    have e0 : bl m ≠ 0 := fun h => hm0 (hz.1 h)
    have hbe : (((bl m : Nat) : Int) == 0) = false := beq_eq_false_iff_ne.2 (by omega)
    have HR2 := Lib.hid hr
    have n0 := hk2.cell 0 _ rfl
    have n1 := hk2.cell 1 _ rfl
    have n2 := hk2.cell 2 _ rfl
    have hd2 := hd1.call hb2
    have ha2 := ha1.call hb2
    clear hr HR e0 k0 k1 k2 hz
    go_wp2_with fail
    refine (HT.out _ hd2).mono ?_
    rintro en w3 ⟨rfl, hb3⟩
    have hb13 := hb12.trans (hb3.mono hb12.size)
    have hk3 := hk2.call hb3
    have ha3 := ha2.call hb3
    by_cases h1 : -1022 < t
    · have hr := HR2.out
      rw [if_pos (by omega), decide_eq_false (by omega)] at hr
      subst hr
      clear HR2
      go_wp2_with fail
      go_ret
      exact ⟨rfl, hb13⟩
    by_cases h2 : t < -1022
    · have hr := HR2.out
      rw [if_pos (by omega), decide_eq_true (by omega)] at hr
      subst hr
      clear HR2
      go_wp2_with fail
      go_ret
      exact ⟨rfl, hb13⟩
    · have hr := HR2.out
      rw [if_neg (by omega), ← hcat (by have := HTP.out; omega)] at hr
      have hc := HC.out (t - 53) w3 ha3 (by omega) (by omega)
      have hcb : (cutN m x (t - 53)).1 ≤ 9007199254740992 := by
        rw [hcat (by have := HTP.out; omega)]
        exact atP_le (by have := HTP.out; unfold topP; omega) hm0
      generalize cutN m x (t - 53) = c at *
      have HCC := Lib.hid hc
      have HR3 := Lib.hid hr
      have n1 := hk3.cell 1 _ rfl
      have n2 := hk3.cell 2 _ rfl
      clear hc hr HR2 HC
      go_wp2_with fail
      refine HCC.out.mono ?_
      rintro en w4 ⟨v4, rfl, hv4, hb4⟩
      have hb14 := hb13.trans (hb4.mono hb13.size)
      have hq : (limbsOf c.1).length ≤ 1 := limbs3 (bl_le (Nat.lt_of_le_of_lt hcb (by decide)))
      have hdec : decide (bl c.1 ≤ 53) = R := by rw [← HR3.out, decide_eq_decide]; exact bl53 _
      have hL4 := Len03_any _ v4 _ w4 hv4.words (by omega)
      rw [valN_limbsOf] at hL4
      go_wp2_with fail
      refine hL4.mono ?_
      rintro en w5 ⟨rfl, hb5⟩
      have hb15 := hb14.trans (hb5.mono hb14.size)
      go_wp2_with fail
      go_ret
      exact ⟨ret_bool (show decide (((bl c.1 : Nat) : Int) ≤ 53) = R by rw [← hdec, decide_eq_decide]; omega), hb15⟩

set_option maxRecDepth 100000 in
set_option maxHeartbeats 1000000 in
theorem put05_any (lo : Nat) (a : Value) (q : Nat) (e : Int) (w : World) (ha : Num lo w a q) (hq : q ≤ 9007199254740992) (he1 : -1100 ≤ e) (he2 : e ≤ 400000) (hge : q < 4503599627370496 ∨ -1075 ≤ e) :
    Calls Tryz.prog 130 #[a, .int .i64 e] w fun en w' => en = .returned (.int .u64 (((putP q false e).1 : Nat) : Int)) ∧ w = w' := by
  obtain ⟨R, hR⟩ : ∃ R, (putP q false e).1 = R := ⟨_, rfl⟩
  rw [hR]
  unfold putP at hR
  by_cases h0 : q = 0
  · subst h0
    rw [if_pos (by decide)] at hR
    subst hR
    obtain ⟨px, cx, rfl, _⟩ := ha
    have e0 : (limbsOf 0).length = 0 := by rw [limbsOf_zero]; rfl
    go_enter Tryz.func130, Tryz.ntmps130
    go_wp2_with fail
    go_ret
    exact ⟨rfl, rfl⟩
  · have hl : limbsOf q = [q] := by
      rw [limbsOf_pos h0, Nat.mod_eq_of_lt (by omega), Nat.div_eq_of_lt (by omega), limbsOf_zero]
    unfold Num at ha
    rw [hl] at ha
    obtain ⟨px, cx, rfl, hcx, hcm, _, hx⟩ := ha
    obtain ⟨b, off, rfl, _, hc⟩ := hx 0 (by simp)
    have hg : gw [q] 0 = q := rfl
    rw [hg, Nat.add_zero] at hc
    have hlen : ([q] : List Nat).length = 1 := rfl
    rw [hlen] at hcx ⊢
    clear hx hl hg hlen h0
    by_cases h1 : q < 4503599627370496
    · rw [if_pos h1] at hR
      subst hR
      have d1 : decide (((q : Nat) : Int) < 4503599627370496) = true := decide_eq_true (by omega)
      clear h1 hge
      go_enter Tryz.func130, Tryz.ntmps130
      generalize (4503599627370496 : Int) = Z at *
      go_wp2_with fail
      go_ret
      exact ⟨rfl, rfl⟩
    · rw [if_neg h1] at hR
      have d1 : decide (((q : Nat) : Int) < 4503599627370496) = false := decide_eq_false (by omega)
      by_cases h2 : 971 < e
      · rw [if_pos h2] at hR
        subst hR
        clear hge h1
        go_enter Tryz.func130, Tryz.ntmps130
        generalize (4503599627370496 : Int) = Z at *
        go_wp2_with fail
        go_ret
        exact ⟨rfl, rfl⟩
      · rw [if_neg h2] at hR
        obtain ⟨E, hE⟩ : ∃ E, (e + 1075).toNat = E := ⟨_, rfl⟩
        rw [hE] at hR
        have hEi : e + 1075 = ((E : Nat) : Int) := by omega
        obtain ⟨p, hp⟩ : ∃ p, E * 4503599627370496 = p := ⟨_, rfl⟩
        obtain ⟨s, hs⟩ : ∃ s, p + q = s := ⟨_, rfl⟩
        have hEl : E ≤ 2046 := by omega
        have w0 : IntKind.i64.wrap (e + 1075) = ((E : Nat) : Int) := by rw [hEi]; exact wrapi3 (by omega) (by omega)
        have w1 : IntKind.u64.wrap ((E : Nat) : Int) = ((E : Nat) : Int) := wrap_nat (by omega)
        have w2 : IntKind.u64.wrap (((E : Nat) : Int) * 4503599627370496) = ((p : Nat) : Int) := by rw [IntKind.wrap_u64]; omega
        have w3 : IntKind.u64.wrap (((p : Nat) : Int) + ((q : Nat) : Int)) = ((s : Nat) : Int) := by rw [IntKind.wrap_u64]; omega
        have w4 : IntKind.u64.wrap (((s : Nat) : Int) - 4503599627370496) = ((R : Nat) : Int) := by rw [IntKind.wrap_u64]; omega
        have h2i : e ≤ 971 := by omega
        clear hge h1 hE hp hs hR h2
        go_enter Tryz.func130, Tryz.ntmps130
        generalize (4503599627370496 : Int) = Z at *
        go_wp2_with fail
        go_ret
        exact ⟨rfl, rfl⟩
end Go.Proofs.YtkfbailpifmdcaaGreatDoor
end
