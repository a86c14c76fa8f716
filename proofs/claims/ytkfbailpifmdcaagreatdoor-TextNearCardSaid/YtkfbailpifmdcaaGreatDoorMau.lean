/- RefA RefB RefC RefD RefE -/
import Derived.Test.YtkfbailpifmdcaaGreatDoorMae
import Derived.Test.YtkfbailpifmdcaaGreatDoorMaa
import Derived.Test.YtkfbailpifmdcaaGreatDoorMab
section
namespace Go.Proofs.YtkfbailpifmdcaaGreatDoor
open Go.RowKit

theorem keep_num {lo : Nat} {w : World} {x : Option Addr} {cap k : Nat} {l : List Nat} (hk : k ≤ l.length) (hz : ∀ j, k ≤ j → gw l j = 0) (hl : k = 0 ∨ gw l (k - 1) ≠ 0) (h : Words lo w (.slice x l.length cap) l) :
    Num lo w (.slice x k cap) (valN l) := by
  have hc : l.length ≤ cap := by
    obtain ⟨_, _, e, hc, _⟩ := h
    injection e with _ _ e
    subst e; exact hc
  have h1 := h.take k cap hk (Nat.le_trans hk hc) (Nat.le_refl _)
  have h2 := take_limbs h.ok k hk hz hl
  unfold Num
  rw [← h2]
  exact h1
theorem row_slice {w : World} {B n : Nat} {e : TypeId} {v : Value} {xs : List Value} (h : w.ownsRow B e 1 v n xs) : ∃ x c, v = .slice x n c := by
  rcases h.2 with ⟨h1, h2⟩ | ⟨g, cap, cur, a, _⟩
  · exact ⟨none, 0, by rw [h1, h2]⟩
  · exact ⟨_, cap, a⟩

set_option maxHeartbeats 1000000 in
theorem Norm03_any (lo : Nat) (a : Value) (l : List Nat) (w : World) (ha : Words lo w a l) (hl : l.length ≤ 1099511627776) :
    Calls Tryz.prog 124 #[a] w (NumPost w w.heap.size (valN l)) := by
  have ha0 := ha
  obtain ⟨x, cap, rfl, hcap, hcm, hok, hx⟩ := ha
  have HA := Lib.hid ha0
  have HX := Lib.hid hx
  have hlen := limbsOf_len (valN_lt hok.1)
  clear ha0 hx
  go_enter Tryz.func124, Tryz.ntmps124
  go_wp2_with fail
  go_loop [3] (fun i => ∃ k : Nat, k ≤ l.length ∧ i = .int .i64 k ∧ Hid (∀ j, k ≤ j → gw l j = 0)) (fun i => (intOf i).toNat)
  case atStart => exact ⟨l.length, Nat.le_refl _, rfl, fun j hj => gw_ge hj⟩
  case round =>
    obtain ⟨k, hk, rfl, hz⟩ := hrel
    by_cases h0 : k = 0
    · subst h0
      have hN := Lib.hid (keep_num (k := 0) hk hz.out (.inl rfl) HA.out)
      go_wp2_with (at_builtin; refine wpList_clone2 rfl _ _ _ _ rfl Tryz.underlying51 Tryz.underlying51 rfl lo _ hN.out.words (by omega) ?_; intro v' w' hv' hb')
      go_ret
      exact ⟨_, rfl, hv', hb'⟩
    · obtain ⟨m, rfl⟩ : ∃ m, k = m + 1 := ⟨k - 1, by omega⟩
      obtain ⟨b, off, rfl, hlo, hc⟩ := HX.out m (by omega)
      have hcast : (((m + 1 : Nat) : Int) - 1) = ((m : Nat) : Int) := by omega
      cases hv : (((gw l m : Nat) : Int) == 0)
      · have hne : m + 1 = 0 ∨ gw l (m + 1 - 1) ≠ 0 := .inr (by rw [Nat.add_sub_cancel]; have := beq_eq_false_iff_ne.1 hv; omega)
        have hN := Lib.hid (keep_num hk hz.out hne HA.out)
        clear hne
        go_wp2_with (at_builtin; refine wpList_clone2 rfl _ _ _ _ rfl Tryz.underlying51 Tryz.underlying51 rfl lo _ hN.out.words (by omega) ?_; intro v' w' hv' hb')
        go_ret
        exact ⟨_, rfl, hv', hb'⟩
      · have hz' : Hid (∀ j, m ≤ j → gw l j = 0) := fun j hj => by
          by_cases e : m = j
          · subst e; have := beq_iff_eq.1 hv; omega
          · exact hz.out j (by omega)
        clear hz
        go_wp2
        go_round
        case rel => exact ⟨m, by omega, rfl, hz'⟩
        case measure => simp [intOf]

set_option maxHeartbeats 1000000 in
theorem Of03_any (n : Int) (w : World) (h0 : 0 ≤ n) (h1 : n < 18446744073709551616) :
    Calls Tryz.prog 99 #[.int .u64 n] w (NumPost w w.heap.size n.toNat) := by
  have hn : ((n.toNat : Nat) : Int) = n := Int.toNat_of_nonneg h0
  have hw : wArr [n.toNat] = #[Value.int .u64 n] := by simp [wArr, hn]
  have hb : Blk (w.alloc (.cells (wArr [n.toNat]) 22)) w.heap.size (wArr [n.toNat]) 22 := Blk.new _ _ _
  have hW := Words.ofBlk_all (lo := w.heap.size) hb (Nat.le_refl _) (okW_cons (by omega) okW_nil) (by simp)
  rw [hw] at hW
  have hbl := (Below.refl w.heap.size w).alloc (Nat.le_refl _) (.cells #[Value.int .u64 n] 22)
  have hv : valN [n.toNat] = n.toNat := by simp [valN]
  have hN := Norm03_any w.heap.size _ _ _ hW (by simp)
  rw [hv] at hN
  have HN := Lib.hid hN
  clear hn hw hb hv hN hW
  go_enter Tryz.func99, Tryz.ntmps99
  go_wp2_with fail
  refine HN.out.mono ?_
  rintro e w1 ⟨v, rfl, hv, hb1⟩
  go_wp2
  go_ret
  exact ⟨_, rfl, hv.mono hbl.size, hbl.trans (hb1.mono hbl.size)⟩

set_option maxHeartbeats 1000000 in
theorem word03_any (lo : Nat) (a : Value) (l : List Nat) (i : Nat) (w : World) (ha : Words lo w a l) :
    Calls Tryz.prog 123 #[a, .int .i64 ((i : Nat) : Int)] w fun e w' => e = .returned (.int .u64 ((gw l i : Nat) : Int)) ∧ w = w' := by
  obtain ⟨x, cap, rfl, hcap, hcm, hok, hx⟩ := ha
  have HX := Lib.hid hx
  clear hx
  go_enter Tryz.func123, Tryz.ntmps123
  by_cases h : i < l.length
  · obtain ⟨b, off, rfl, hlo, hc⟩ := HX.out i h
    have hd : ((i : Nat) : Int) < ((l.length : Nat) : Int) := by omega
    go_wp2
    go_ret
    exact ⟨rfl, rfl⟩
  · have hg : gw l i = 0 := gw_ge (by omega)
    have hd : ¬ ((i : Nat) : Int) < ((l.length : Nat) : Int) := by omega
    rw [hg]
    go_wp2
    go_ret
    exact ⟨rfl, rfl⟩

def natV : Value → Nat
  | .int _ n => n.toNat
  | _ => 0
theorem bl_half {n : Nat} (h : n ≠ 0) : bl n = bl (n / 2) + 1 := by
  by_cases h1 : n / 2 = 0
  · have : n = 1 := by omega
    subst this
    decide
  · have h2 := bl_pos h1
    have h3 := bl_ge h1
    have h4 := bl_lt (n / 2)
    have e : bl (n / 2) = (bl (n / 2) - 1) + 1 := by omega
    refine bl_unique ?_ ?_
    · rw [e, Nat.pow_succ]; omega
    · rw [Nat.pow_succ]; omega

set_option maxHeartbeats 1000000 in
theorem Len03_any (lo : Nat) (a : Value) (l : List Nat) (w : World) (ha : Words lo w a l) (hl : l.length ≤ 1099511627776) :
    Calls Tryz.prog 104 #[a] w fun e w' => e = .returned (.int .i64 ((bl (valN l) : Nat) : Int)) ∧ Below w.heap.size w w' := by
  have hlen := limbsOf_len (valN_lt ha.ok)
  generalize hn : valN l = n at *
  have HN := Lib.hid hn
  clear hn
  go_enter Tryz.func104, Tryz.ntmps104
  go_wp2_with fail
  refine (Norm03_any lo _ l _ ha hl).mono ?_
  rintro e w1 ⟨v, rfl, hv, hb1⟩
  rw [HN.out] at hv
  obtain ⟨x, cap, rfl, hcap, hcm, hok, hx⟩ := hv
  by_cases h0 : n = 0
  · subst h0
    have e0 : (limbsOf 0).length = 0 := by rw [limbsOf_zero]; rfl
    clear hx hok
    go_wp2
    go_ret
    exact ⟨rfl, hb1⟩
  · have hL : (limbsOf n).length ≠ 0 := by rw [Ne, limbsOf_len_zero]; exact h0
    have hgw := okW_gw hok.1 ((limbsOf n).length - 1)
    have hbl := bl_limbs h0
    have hb2 := bl_bitLen (gw (limbsOf n) ((limbsOf n).length - 1))
    rw [← hb2.resolve_right (by omega)] at hbl
    obtain ⟨m, hm⟩ : ∃ m, (limbsOf n).length = m + 1 := ⟨_, (Nat.succ_pred_eq_of_ne_zero hL).symm⟩
    obtain ⟨b, off, rfl, hlo, hc⟩ := hx m (by omega)
    rw [hm] at hlen hcap hgw hbl
    rw [Nat.add_sub_cancel] at hgw hbl
    have hbe : (((m : Nat) : Int) + 1 == 0) = false := beq_eq_false_iff_ne.2 (by omega)
    have HM := Lib.hid hm
    generalize gw (limbsOf n) m = t at *
    have h64 : bl t ≤ 64 := bl_le (by omega)
    have HBL := Lib.hid hbl
    clear hbl hx hok
    rw [HM.out]
    clear hm h0 hL
    have e1 : (64 : Int) * ((((m + 1 : Nat) : Int)) - 1) = ((64 * m : Nat) : Int) := by omega
    clear hb2
    go_wp2_with fail
    go_loop [3, 4] (fun u3 u4 => ∃ (k t' : Nat), u3 = .int .i64 ((k : Nat) : Int) ∧ u4 = .int .u64 ((t' : Nat) : Int) ∧ t' < 18446744073709551616 ∧ k ≤ 64 * m + 64 ∧ Hid (k + bl t' = bl n)) (fun _ u4 => natV u4)
    case atStart => exact ⟨64 * m, t, by go_num, rfl, hgw, by omega, by show _ = _; rw [HBL.out]⟩
    case round =>
      obtain ⟨k, t', rfl, rfl, ht', hk, HK⟩ := hrel
      by_cases h0 : t' = 0
      · subst h0
        have hz : decide ((((0 : Nat) : Nat) : Int) > 0) = false := by decide
        have hk2 := HK.out
        rw [bl_zero] at hk2
        clear HK
        go_wp2_with fail
        go_ret
        exact ⟨ret_int (by omega), hb1⟩
      · have hz : decide ((((t' : Nat) : Nat) : Int) > 0) = true := decide_eq_true (by omega)
        have hh := bl_half h0
        have HK2 := Lib.hid (show k + 1 + bl (t' / 2) = bl n by have := HK.out; omega)
        have hk3 : k + 1 ≤ 64 * m + 64 := by
          have h1 := HK.out
          have h2 := HBL.out
          omega
        obtain ⟨q, hq⟩ : ∃ q, t' / 2 = q := ⟨_, rfl⟩
        rw [hq] at HK2
        have hdiv : ((t' : Nat) : Int) / 2 = ((q : Nat) : Int) := by omega
        clear HK hh
        go_wp2_with fail
        refine ⟨⟨k + 1, q, by go_num, rfl, by omega, hk3, HK2.out⟩, ?_⟩
        simp only [natV]
        omega
end Go.Proofs.YtkfbailpifmdcaaGreatDoor
end

section
namespace Go.Proofs.YtkfbailpifmdcaaGreatDoor
open Go.RowKit

set_option maxHeartbeats 1000000 in
theorem Bit03_any (lo : Nat) (a : Value) (l : List Nat) (i : Nat) (w : World) (ha : Words lo w a l) (hi : i ≤ 4611686018427387904) :
    Calls Tryz.prog 147 #[a, .int .i64 ((i : Nat) : Int)] w fun e w' => e = .returned (.bool (valN l / 2 ^ i % 2 == 1)) ∧ w = w' := by
  have hb := bit_words ha.ok i
  have hg := okW_gw ha.ok (i / 64)
  obtain ⟨q, hq⟩ : ∃ q, i / 64 = q := ⟨_, rfl⟩
  obtain ⟨r, hr⟩ : ∃ r, i % 64 = r := ⟨_, rfl⟩
  rw [hq, hr] at hb
  rw [hq] at hg
  have hqi : ((i : Nat) : Int) / 64 = ((q : Nat) : Int) := by omega
  have hri : ((i : Nat) : Int) % 64 = ((r : Nat) : Int) := by omega
  have hr64 : r < 64 := by omega
  have hw := fun w ha => word03_any lo a l q w ha
  obtain ⟨t, ht⟩ : ∃ t, gw l q / 2 ^ r % 2 = t := ⟨_, rfl⟩
  have hti : (((gw l q : Nat) : Int) / 2 ^ r).tmod 2 = ((t : Nat) : Int) := by rw [shr_cast, Int.tmod_eq_emod_of_nonneg (Int.natCast_nonneg _)]; omega
  rw [hb, ht]
  have hfin : (((t : Nat) : Int) == 1) = (t == 1) := by
    rw [Bool.eq_iff_iff, beq_iff_eq, beq_iff_eq]; omega
  have HF := Lib.hid hfin
  have HW := Lib.hid hw
  have HA := Lib.hid ha
  clear hb ht hq hr hfin hw ha
  generalize gw l q = g at *
  go_enter Tryz.func147, Tryz.ntmps147
  go_wp2_with fail
  refine (HW.out _ HA.out).mono ?_
  rintro e w1 ⟨rfl, hw⟩
  subst hw
  go_wp2_with fail
  go_ret
  exact ⟨by rw [← HF.out]; rfl, rfl⟩

theorem tz_bits {n : Nat} (h0 : n ≠ 0) : (∀ k, k < tz n → (n / 2 ^ k % 2 == 1) = false) ∧ (n / 2 ^ tz n % 2 == 1) = true := by
  obtain ⟨m, hm1, hm2⟩ := tz_spec h0
  constructor
  · intro k hk
    rw [beq_eq_false_iff_ne]
    have e : n / 2 ^ k % 2 = 0 := by
      have e2 : n = 2 ^ k * (2 ^ (tz n - k) * m) := by
        rw [← Nat.mul_assoc, ← Nat.pow_add, show k + (tz n - k) = tz n by omega]; exact hm1
      conv => lhs; arg 1; arg 1; rw [e2]
      rw [Nat.mul_div_cancel_left _ (Nat.two_pow_pos k), show tz n - k = (tz n - k - 1) + 1 by omega, Nat.pow_succ]
      have : 2 ^ (tz n - k - 1) * 2 * m = 2 * (2 ^ (tz n - k - 1) * m) := by ac_rfl
      rw [this]
      omega
    omega
  · have e : n / 2 ^ tz n = m := by
      conv => lhs; arg 1; rw [hm1]
      exact Nat.mul_div_cancel_left _ (Nat.two_pow_pos _)
    rw [e, hm2]
    rfl

set_option maxHeartbeats 1000000 in
theorem Low03_any (lo : Nat) (a : Value) (l : List Nat) (w : World) (ha : Words lo w a l) (hl : l.length ≤ 1099511627776) :
    Calls Tryz.prog 133 #[a] w fun e w' => e = .returned (.int .i64 ((tz (valN l) : Nat) : Int)) ∧ Below w.heap.size w w' := by
  have hlen := Len03_any lo a l w ha hl
  have hok := valN_lt ha.ok
  have hbl : bl (valN l) ≤ 64 * l.length := bl_le (by rw [← pw_two]; exact hok)
  have hbit := fun i w ha hi => Bit03_any lo a l i w ha hi
  clear hok
  generalize valN l = n at *
  have HL := Lib.hid hlen
  have HB := Lib.hid hbit
  clear hlen hbit
  by_cases h0 : n = 0
  · subst h0
    rw [tz_zero]
    rw [bl_zero] at HL
    go_enter Tryz.func133, Tryz.ntmps133
    go_wp2_with fail
    refine HL.out.mono ?_
    rintro e w1 ⟨rfl, hb1⟩
    clear HL
    go_wp2_with fail
    go_ret
    exact ⟨rfl, hb1⟩
  · have hbp := bl_pos h0
    have htz := tz_le h0
    obtain ⟨hlow, hhi⟩ := tz_bits h0
    have HLO := Lib.hid hlow
    have HHI := Lib.hid hhi
    clear hlow hhi
    generalize tz n = z at *
    generalize hbn : bl n = b at *
    clear hbn
    have hb0 : (((b : Nat) : Int) == 0) = false := beq_eq_false_iff_ne.2 (by omega)
    go_enter Tryz.func133, Tryz.ntmps133
    go_wp2_with fail
    refine HL.out.mono ?_
    rintro e w1 ⟨rfl, hb1⟩
    clear HL
    have ha1 := ha.call hb1
    clear ha
    go_wp2_with fail
    go_loop [3] (fun u3 => ∃ k : Nat, k ≤ z ∧ u3 = .int .i64 ((k : Nat) : Int)) (fun u3 => z - (intOf u3).toNat)
    case atStart => exact ⟨0, Nat.zero_le _, rfl⟩
    case round =>
      obtain ⟨k, hk, rfl⟩ := hrel
      by_cases hkz : k = z
      · subst hkz
        have hbk := HB.out k w1 ha1 (by omega)
        rw [HHI.out] at hbk
        have HBK := Lib.hid hbk
        clear hbk
        go_wp2_with fail
        refine HBK.out.mono ?_
        rintro e w2 ⟨rfl, hw⟩
        subst hw
        go_wp2_with fail
        go_ret
        exact ⟨rfl, hb1⟩
      · have hbk := HB.out k w1 ha1 (by omega)
        rw [HLO.out k (by omega)] at hbk
        have HBK := Lib.hid hbk
        clear hbk
        go_wp2_with fail
        refine HBK.out.mono ?_
        rintro e w2 ⟨rfl, hw⟩
        subst hw
        go_wp2_with fail
        go_round
        case rel => exact ⟨k + 1, by omega, by go_num⟩
        case measure => simp [intOf]; omega

theorem vt_split_cmp {x y : List Nat} (hx : okW x) {k : Nat} (hs : ∀ j, k < j → gw x j = gw y j) (h : gw x k < gw y k) : cmpN (valN x) (valN y) = -1 ∧ cmpN (valN y) (valN x) = 1 := by
  have hlt : valN x < valN y := by
    let n := max x.length y.length + k + 1
    have e1 := vt_all x n (by omega)
    have e2 := vt_all y n (by omega)
    have step : ∀ d, vt x (k + 1 + d) < vt y (k + 1 + d) := by
      intro d
      induction d with
      | zero =>
        rw [Nat.add_zero, vt_succ, vt_succ]
        have h1 := vt_lt hx k
        have h2 : (gw x k + 1) * pw k ≤ gw y k * pw k := Nat.mul_le_mul_right _ h
        rw [Nat.add_mul, Nat.one_mul] at h2
        omega
      | succ d ih =>
        rw [show k + 1 + (d + 1) = (k + 1 + d) + 1 by omega, vt_succ, vt_succ, hs _ (by omega)]
        omega
    have h1 := step (max x.length y.length)
    rw [show k + 1 + max x.length y.length = n by omega] at h1
    omega
  unfold cmpN
  rw [if_pos hlt, if_neg (by omega), if_pos hlt]
  exact ⟨rfl, rfl⟩
theorem words_same' {x y : List Nat} (hs : ∀ j, gw x j = gw y j) : valN x = valN y := by
  have e1 := vt_all x (x.length + y.length) (by omega)
  have e2 := vt_all y (x.length + y.length) (by omega)
  rw [← e1, ← e2]
  generalize x.length + y.length = n
  induction n with
  | zero => rfl
  | succ n ih => rw [vt_succ, vt_succ, ih, hs]

set_option maxRecDepth 100000 in
set_option maxHeartbeats 2000000 in
theorem Cmp03_any (lo : Nat) (a b : Value) (x y : List Nat) (w : World) (ha : Words lo w a x) (hb : Words lo w b y) :
    Calls Tryz.prog 134 #[a, b] w fun e w' => e = .returned (.int .i64 (cmpN (valN x) (valN y))) ∧ w = w' := by
  have hwa := fun i => word03_any lo a x i w ha
  have hwb := fun i => word03_any lo b y i w hb
  have hokx := ha.ok
  have hoky := hb.ok
  obtain ⟨pa, ca, rfl, hca, hcma, _, hxa⟩ := ha
  obtain ⟨pb, cb, rfl, hcb, hcmb, _, hxb⟩ := hb
  have HWA := Lib.hid hwa
  have HWB := Lib.hid hwb
  clear hwa hwb hxa hxb
  obtain ⟨R, hR⟩ : ∃ R, cmpN (valN x) (valN y) = R := ⟨_, rfl⟩
  rw [hR]
  have HR := Lib.hid hR
  clear hR
  obtain ⟨M, hM⟩ : ∃ M, max x.length y.length = M := ⟨_, rfl⟩
  have hMi : max ((x.length : Nat) : Int) ((y.length : Nat) : Int) = ((M : Nat) : Int) := by omega
  go_enter Tryz.func134, Tryz.ntmps134
  go_wp2_with fail
  go_loop [5] (fun u => ∃ k : Nat, k ≤ M ∧ u = .int .i64 (((k : Nat) : Int) - 1) ∧ Hid (∀ j, k ≤ j → gw x j = gw y j)) (fun u => (intOf u + 1).toNat)
  case atStart => exact ⟨M, Nat.le_refl _, by rw [← hMi], fun j hj => by rw [gw_ge (by omega), gw_ge (by omega)]⟩
  case round =>
    obtain ⟨k, hk, rfl, hs⟩ := hrel
    by_cases h0 : k = 0
    · subst h0
      have hv := words_same' (fun j => hs.out j (by omega))
      have hf : cmpN (valN x) (valN y) = 0 := by unfold cmpN; rw [if_neg (by omega), if_neg (by omega)]
      rw [HR.out] at hf
      subst hf
      clear hs hv HR
      go_wp2_with fail
      go_ret
      exact ⟨rfl, rfl⟩
    · obtain ⟨m, rfl⟩ : ∃ m, k = m + 1 := ⟨k - 1, by omega⟩
      have hcast : (((m + 1 : Nat) : Int) - 1) = ((m : Nat) : Int) := by omega
      rw [hcast]
      have hgx := okW_gw hokx m
      have hgy := okW_gw hoky m
      have hA := HWA.out m
      have hB := HWB.out m
      by_cases h1 : gw x m < gw y m
      · obtain ⟨hf, _⟩ := vt_split_cmp hokx (fun j hj => hs.out j hj) h1
        rw [HR.out] at hf
        subst hf
        have HA := Lib.hid hA
        have HB := Lib.hid hB
        have d1 : decide (((gw x m : Nat) : Int) < ((gw y m : Nat) : Int)) = true := decide_eq_true (by omega)
        clear hs HR hcast hA hB
        generalize gw x m = gx at *
        generalize gw y m = gy at *
        go_wp2_with fail
        refine HA.out.mono ?_
        rintro e w1 ⟨rfl, hw⟩
        subst hw
        go_wp2_with fail
        refine HB.out.mono ?_
        rintro e w1 ⟨rfl, hw⟩
        subst hw
        go_wp2_with fail
        go_ret
        exact ⟨rfl, rfl⟩
      by_cases h2 : gw y m < gw x m
      · obtain ⟨_, hf⟩ := vt_split_cmp hoky (fun j hj => (hs.out j hj).symm) h2
        rw [HR.out] at hf
        subst hf
        have HA := Lib.hid hA
        have HB := Lib.hid hB
        clear hs HR hcast hA hB
        generalize gw x m = gx at *
        generalize gw y m = gy at *
        have d1 : decide (((gx : Nat) : Int) < ((gy : Nat) : Int)) = false := decide_eq_false (by omega)
        have d2 : decide (((gy : Nat) : Int) < ((gx : Nat) : Int)) = true := decide_eq_true (by omega)
        go_wp2_with fail
        refine HA.out.mono ?_
        rintro e w1 ⟨rfl, hw⟩
        subst hw
        go_wp2_with fail
        refine HB.out.mono ?_
        rintro e w1 ⟨rfl, hw⟩
        subst hw
        go_wp2_with fail
        go_ret
        exact ⟨rfl, rfl⟩
      · have hs2 : Hid (∀ j, m ≤ j → gw x j = gw y j) := fun j hj => by
          by_cases e : j = m
          · subst e; omega
          · exact hs.out j (by omega)
        have HA := Lib.hid hA
        have HB := Lib.hid hB
        have he : gw x m = gw y m := by omega
        rw [he] at HA
        clear hs hcast hA hB h1 h2 hgx he
        generalize gw y m = gy at *
        have d1 : decide (((gy : Nat) : Int) < ((gy : Nat) : Int)) = false := decide_eq_false (by omega)
        go_wp2_with fail
        refine HA.out.mono ?_
        rintro e w1 ⟨rfl, hw⟩
        subst hw
        go_wp2_with fail
        refine HB.out.mono ?_
        rintro e w1 ⟨rfl, hw⟩
        subst hw
        go_wp2_with fail
        go_round
        case rel => exact ⟨m, by omega, rfl, hs2⟩
        case measure => simp [intOf]
end Go.Proofs.YtkfbailpifmdcaaGreatDoor
end

section
namespace Go.Proofs.YtkfbailpifmdcaaGreatDoor
open Go.RowKit

theorem wVals_snoc (z : List Nat) (s : Nat) : wVals (z ++ [s]) = wVals z ++ [Value.int .u64 ((s : Nat) : Int)] := by simp [wVals]
theorem okW_snoc {z : List Nat} {s : Nat} (h : okW z) (hs : s < 18446744073709551616) : okW (z ++ [s]) := okW_append h (okW_cons hs okW_nil)
theorem valN_snoc (z : List Nat) (s : Nat) : valN (z ++ [s]) = valN z + s * pw z.length := by
  rw [valN_append]
  simp [valN, Nat.mul_comm]
theorem vt_len (z : List Nat) : vt z z.length = valN z := vt_all z z.length (Nat.le_refl _)
theorem vt_snoc (z : List Nat) (s : Nat) : vt (z ++ [s]) (z.length + 1) = vt z z.length + s * pw z.length := by
  rw [vt_len, ← valN_snoc, vt_all _ _ (by simp)]

set_option maxRecDepth 100000 in
set_option maxHeartbeats 4000000 in
theorem Add03_any (lo : Nat) (a b : Value) (x y : List Nat) (w : World) (ha : Words lo w a x) (hb : Words lo w b y) (hla : x.length ≤ 1000000000) (hlb : y.length ≤ 1000000000) :
    Calls Tryz.prog 97 #[a, b] w (NumPost w w.heap.size (valN x + valN y)) := by
  obtain ⟨i0, hi, hz0, hz1, hz2⟩ := info_parts Tryz.infoW
  have hwa := fun wr (h : Below w.heap.size w wr) i => word03_any lo a x i wr (ha.call h)
  have hwb := fun wr (h : Below w.heap.size w wr) i => word03_any lo b y i wr (hb.call h)
  have hokx := ha.ok
  have hoky := hb.ok
  obtain ⟨pa, ca, rfl, hca, hcma, _, hxa⟩ := ha
  obtain ⟨pb, cb, rfl, hcb, hcmb, _, hxb⟩ := hb
  have HWA := Lib.hid hwa
  have HWB := Lib.hid hwb
  clear hwa hwb hxa hxb
  obtain ⟨M, hM⟩ : ∃ M, max x.length y.length = M := ⟨_, rfl⟩
  have hMi : max ((x.length : Nat) : Int) ((y.length : Nat) : Int) = ((M : Nat) : Int) := by omega
  have HM := Lib.hid hM
  have hMl : M ≤ 1000000000 := by omega
  clear hM
  go_enter Tryz.func97, Tryz.ntmps97
  go_wp2_with fail
  go_loopw [5, 6, 7] (fun u5 u6 u7 wr => ∃ (i c : Nat) (z : List Nat), i ≤ M ∧ u7 = .int .i64 ((i : Nat) : Int) ∧ u6 = .int .u64 ((c : Nat) : Int) ∧ c ≤ 1 ∧ z.length = i ∧ okW z ∧ Hid (vt z i + c * pw i = vt x i + vt y i) ∧ wr.ownsRow w.heap.size 22 1 u5 z.length (wVals z) ∧ Below w.heap.size w wr) (fun _ _ u7 _ => M - (intOf u7).toNat)
  case atStart => exact ⟨0, 0, [], Nat.zero_le _, rfl, rfl, by omega, rfl, okW_nil, by show _ = _; simp [vt], World.ownsRow_nil _ _ _ _, Below.refl _ _⟩
  case round =>
    obtain ⟨i, c, z, hiM, rfl, rfl, hc, hzl, hzo, HS, hown, hbw⟩ := hrel
    obtain ⟨x5, c5, rfl⟩ := row_slice hown
    by_cases hlt : i < M
    · have hA := HWA.out wr hbw i
      have hB := HWB.out wr hbw i
      have hgx := okW_gw hokx i
      have hgy := okW_gw hoky i
      have hst : ∀ s c', s + 18446744073709551616 * c' = gw x i + gw y i + c → vt (z ++ [s]) (i + 1) + c' * pw (i + 1) = vt x (i + 1) + vt y (i + 1) := by
        intro s c' h
        rw [← hzl, vt_snoc, pw_succ, vt_succ, vt_succ, hzl]
        exact step_sum HS.out h
      have HA := Lib.hid hA
      have HB := Lib.hid hB
      have HST := Lib.hid hst
      clear hA hB hst HS
      generalize gw x i = gx at *
      generalize gw y i = gy at *
      obtain ⟨s1, hs1⟩ : ∃ s1, (gx + gy) % 18446744073709551616 = s1 := ⟨_, rfl⟩
      obtain ⟨s, hs⟩ : ∃ s, (gx + gy + c) % 18446744073709551616 = s := ⟨_, rfl⟩
      obtain ⟨c', hc'⟩ : ∃ c', (gx + gy + c) / 18446744073709551616 = c' := ⟨_, rfl⟩
      have hw1 : IntKind.u64.wrap (((gx : Nat) : Int) + ((gy : Nat) : Int)) = ((s1 : Nat) : Int) := by rw [IntKind.wrap_u64]; omega
      have hw2 : IntKind.u64.wrap (((s1 : Nat) : Int) + ((c : Nat) : Int)) = ((s : Nat) : Int) := by rw [IntKind.wrap_u64]; omega
      have heq : s + 18446744073709551616 * c' = gx + gy + c := by omega
      have hsl : s < 18446744073709551616 := by omega
      have hcl : c' ≤ 1 := by omega
      have HST2 := Lib.hid (HST.out s c' heq)
      have HEQ := Lib.hid heq
      obtain ⟨q, hq⟩ : ∃ q, decide (c' = 1) = q := ⟨_, rfl⟩
      have HQ := Lib.hid hq
      clear hs1 hs hc' heq HST hq
      go_wp2_with fail
      refine HA.out.mono ?_
      rintro e w1 ⟨rfl, hw⟩
      subst hw
      go_wp2_with fail
      refine HB.out.mono ?_
      rintro e w1 ⟨rfl, hw⟩
      subst hw
      go_upto_region 8 with fail
      go_cut [5, 6, 7, 8, 9, 10, 46] (fun u5 u6 u7 u8 u9 u10 u46 wx => u5 = .slice x5 z.length c5 ∧ u6 = .int .u64 ((c : Nat) : Int) ∧ u7 = .int .i64 ((i : Nat) : Int) ∧ u8 = .int .u64 ((gx : Nat) : Int) ∧ u9 = .int .u64 ((gy : Nat) : Int) ∧ u10 = .int .u64 ((s : Nat) : Int) ∧ u46 = .bool q ∧ wr = wx)
      case first =>
        have heq := HEQ.out
        have hqd := HQ.out
        clear HA HB HST2 HEQ HQ hw1 hw2 hown hbw
        by_cases h1 : s < gx
        · have d1 : decide (s < gx) = true := decide_eq_true (by omega)
          have hqt : q = true := by rw [← hqd]; exact decide_eq_true (by omega)
          subst hqt
          clear heq hqd h1
          go_wp2_with fail
          go_meet
          exact ⟨by rw [hzl], rfl, rfl, rfl, rfl, rfl, rfl, rfl⟩
        have d1 : decide (s < gx) = false := decide_eq_false (by omega)
        by_cases h2 : s = gx
        · have b2 : (((s : Nat) : Int) == ((gx : Nat) : Int)) = true := beq_iff_eq.2 (by omega)
          by_cases h3 : c = 1
          · have b3 : (((c : Nat) : Int) == 1) = true := beq_iff_eq.2 (by omega)
            have hqg : decide (0 < gy) = q := by
              rw [← hqd, decide_eq_decide]
              omega
            clear heq hqd h1 h2 h3
            go_wp2_with fail
            go_meet
            exact ⟨by rw [hzl], rfl, rfl, rfl, rfl, rfl, by first | rfl | rw [hqg] | simp [hqg], rfl⟩
          · have b3 : (((c : Nat) : Int) == 1) = false := beq_eq_false_iff_ne.2 (by omega)
            have hqt : q = false := by rw [← hqd]; exact decide_eq_false (by omega)
            subst hqt
            clear heq hqd h1 h2 h3
            go_wp2_with fail
            go_meet
            exact ⟨by rw [hzl], rfl, rfl, rfl, rfl, rfl, rfl, rfl⟩
        · have b2 : (((s : Nat) : Int) == ((gx : Nat) : Int)) = false := beq_eq_false_iff_ne.2 (by omega)
          have hqt : q = false := by rw [← hqd]; exact decide_eq_false (by omega)
          subst hqt
          clear heq hqd h1 h2
          go_wp2_with fail
          go_meet
          exact ⟨by rw [hzl], rfl, rfl, rfl, rfl, rfl, rfl, rfl⟩
      case rest =>
        obtain ⟨rfl, rfl, rfl, rfl, rfl, rfl, rfl, rfl⟩ := hcut
        have hqd := HQ.out
        clear HA HB HEQ HQ hw1 hw2
        cases q
        all_goals first
          | (have hcv : c' = 1 := of_decide_eq_true hqd; subst hcv)
          | (have hcn := of_decide_eq_false hqd; have hcv : c' = 0 := (by omega); subst hcv; clear hcn)
        all_goals
          clear hqd
          go_wp2_with (at_builtin; refine wpList_append1 rfl _ _ 51 rfl w.heap.size 22 i0 (.int .u64 0) 8 Tryz.underlying51 hi hz0 hz1 hz2 rfl _ _ _ rfl hown _ _ rfl rfl (by unfold maxLen; omega) (by omega) hbw.size ?_; intro v' w3 hown3 hg3)
          have hg4 : wr.grownBy w3 (Value.slice x5 z.length c5).ownBlock := hg3
          have hbw3 := Below.grownB hbw hg4 hbw.size hown
          go_roundw
          case rel =>
            refine ⟨i + 1, _, z ++ [s], by omega, by go_num, rfl, by decide, by simp [hzl], okW_snoc hzo hsl, HST2.out, ?_, hbw3⟩
            rw [List.length_append, List.length_singleton, wVals_snoc]
            exact hown3
          case measure => simp [intOf]; omega
    · have hval : valN (z ++ [c]) = valN x + valN y := by
        have h := HS.out
        have hMM := HM.out
        have e : i = M := by omega
        rw [vt_all x i (by omega), vt_all y i (by omega), ← hzl, vt_len] at h
        rw [valN_snoc]
        exact h
      have HV := Lib.hid hval
      clear hval HS
      go_wp2_with (at_builtin; refine wpList_append1 rfl _ _ 51 rfl w.heap.size 22 i0 (.int .u64 0) 8 Tryz.underlying51 hi hz0 hz1 hz2 rfl _ _ _ rfl hown _ _ rfl rfl (by unfold maxLen; omega) (by omega) hbw.size ?_; intro v' w3 hown3 hg3)
      have hg4 : wr.grownBy w3 (Value.slice x5 z.length c5).ownBlock := hg3
      have hbw3 := Below.grownB hbw hg4 hbw.size hown
      have hown4 : w3.ownsRow w.heap.size 22 1 v' (z ++ [c]).length (wVals (z ++ [c])) := by
        rw [List.length_append, List.length_singleton, wVals_snoc]
        exact hown3
      have hN := Norm03_any w.heap.size v' (z ++ [c]) w3 (Words.ofRow hown4 (Nat.le_refl _) (okW_snoc hzo (by omega))) (by rw [List.length_append, List.length_singleton]; omega)
      rw [HV.out] at hN
      refine hN.mono ?_
      rintro e w4 ⟨v4, rfl, hv4, hb4⟩
      go_wp2_with fail
      go_ret
      exact ⟨_, rfl, hv4.mono hbw3.size, hbw3.trans (hb4.mono hbw3.size)⟩
end Go.Proofs.YtkfbailpifmdcaaGreatDoor
end

section
namespace Go.Proofs.YtkfbailpifmdcaaGreatDoor
open Go.RowKit

theorem prod_le {a b : Nat} (ha : a < 4294967296) (hb : b < 4294967296) : a * b ≤ 18446744065119617025 := by
  have : a * b ≤ 4294967295 * 4294967295 := Nat.mul_le_mul (by omega) (by omega)
  omega
theorem halves_mul {x y : Nat} {a b c d : Nat} (hx : x = a + 4294967296 * b) (hy : y = c + 4294967296 * d) : x * y = a * c + 4294967296 * (b * c + a * d) + 18446744073709551616 * (b * d) := by
  subst hx hy
  grind

set_option maxRecDepth 100000 in
set_option maxHeartbeats 2000000 in
theorem times_any (x y : Nat) (w : World) (hx : x < 18446744073709551616) (hy : y < 18446744073709551616) :
    Calls Tryz.prog 125 #[.int .u64 ((x : Nat) : Int), .int .u64 ((y : Nat) : Int)] w fun e w' => e = .returned (.tuple #[.int .u64 ((mL x y : Nat) : Int), .int .u64 ((mH x y : Nat) : Int)]) ∧ w = w' := by
  obtain ⟨a, ha⟩ : ∃ a, x % 4294967296 = a := ⟨_, rfl⟩
  obtain ⟨b, hb⟩ : ∃ b, x / 4294967296 = b := ⟨_, rfl⟩
  obtain ⟨c, hc⟩ : ∃ c, y % 4294967296 = c := ⟨_, rfl⟩
  obtain ⟨d, hd⟩ : ∃ d, y / 4294967296 = d := ⟨_, rfl⟩
  have hxi : x = a + 4294967296 * b := by omega
  have hyi : y = c + 4294967296 * d := by omega
  have hmul := halves_mul hxi hyi
  have p1 := prod_le (a := a) (b := c) (by omega) (by omega)
  have p2 := prod_le (a := b) (b := c) (by omega) (by omega)
  have p3 := prod_le (a := a) (b := d) (by omega) (by omega)
  have p4 := prod_le (a := b) (b := d) (by omega) (by omega)
  have i1 : ((x : Nat) : Int) % 4294967296 = ((a : Nat) : Int) := by omega
  have i2 : ((x : Nat) : Int) / 4294967296 = ((b : Nat) : Int) := by omega
  have i3 : ((y : Nat) : Int) % 4294967296 = ((c : Nat) : Int) := by omega
  have i4 : ((y : Nat) : Int) / 4294967296 = ((d : Nat) : Int) := by omega
  have e1 : ((a : Nat) : Int) * ((c : Nat) : Int) = ((a * c : Nat) : Int) := by simp
  have e2 : ((b : Nat) : Int) * ((c : Nat) : Int) = ((b * c : Nat) : Int) := by simp
  have e3 : ((a : Nat) : Int) * ((d : Nat) : Int) = ((a * d : Nat) : Int) := by simp
  have e4 : ((b : Nat) : Int) * ((d : Nat) : Int) = ((b * d : Nat) : Int) := by simp
  have hL := mL_mH x y
  have hLl := mL_lt x y
  generalize mL x y = L at *
  generalize mH x y = H at *
  generalize x * y = xy at *
  generalize a * c = P at *
  generalize b * c = Q at *
  generalize a * d = R at *
  generalize b * d = S at *
  obtain ⟨l0, hl0⟩ : ∃ v, P % 4294967296 = v := ⟨_, rfl⟩
  obtain ⟨l1, hl1⟩ : ∃ v, P / 4294967296 = v := ⟨_, rfl⟩
  obtain ⟨mid, hmid⟩ : ∃ v, Q + l1 = v := ⟨_, rfl⟩
  obtain ⟨m0, hm0⟩ : ∃ v, mid % 4294967296 = v := ⟨_, rfl⟩
  obtain ⟨m1, hm1⟩ : ∃ v, mid / 4294967296 = v := ⟨_, rfl⟩
  obtain ⟨o, ho⟩ : ∃ v, R + m0 = v := ⟨_, rfl⟩
  obtain ⟨o0, ho0⟩ : ∃ v, o % 4294967296 = v := ⟨_, rfl⟩
  obtain ⟨o1, ho1⟩ : ∃ v, o / 4294967296 = v := ⟨_, rfl⟩
  obtain ⟨t, ht⟩ : ∃ v, o0 * 4294967296 = v := ⟨_, rfl⟩
  obtain ⟨s, hs⟩ : ∃ v, S + m1 = v := ⟨_, rfl⟩
  have w1 : IntKind.u64.wrap (((a : Nat) : Int) * ((c : Nat) : Int)) = ((P : Nat) : Int) := by rw [e1, IntKind.wrap_u64]; omega
  have w2 : IntKind.u64.wrap (((b : Nat) : Int) * ((c : Nat) : Int)) = ((Q : Nat) : Int) := by rw [e2, IntKind.wrap_u64]; omega
  have w3 : IntKind.u64.wrap (((a : Nat) : Int) * ((d : Nat) : Int)) = ((R : Nat) : Int) := by rw [e3, IntKind.wrap_u64]; omega
  have w4 : IntKind.u64.wrap (((b : Nat) : Int) * ((d : Nat) : Int)) = ((S : Nat) : Int) := by rw [e4, IntKind.wrap_u64]; omega
  have j1 : ((P : Nat) : Int) % 4294967296 = ((l0 : Nat) : Int) := by omega
  have j2 : ((P : Nat) : Int) / 4294967296 = ((l1 : Nat) : Int) := by omega
  have w5 : IntKind.u64.wrap (((Q : Nat) : Int) + ((l1 : Nat) : Int)) = ((mid : Nat) : Int) := by rw [IntKind.wrap_u64]; omega
  have j3 : ((mid : Nat) : Int) % 4294967296 = ((m0 : Nat) : Int) := by omega
  have j4 : ((mid : Nat) : Int) / 4294967296 = ((m1 : Nat) : Int) := by omega
  have w6 : IntKind.u64.wrap (((R : Nat) : Int) + ((m0 : Nat) : Int)) = ((o : Nat) : Int) := by rw [IntKind.wrap_u64]; omega
  have j5 : ((o : Nat) : Int) % 4294967296 = ((o0 : Nat) : Int) := by omega
  have j6 : ((o : Nat) : Int) / 4294967296 = ((o1 : Nat) : Int) := by omega
  have w7 : IntKind.u64.wrap (((o0 : Nat) : Int) * 4294967296) = ((t : Nat) : Int) := by rw [IntKind.wrap_u64]; omega
  have w8 : IntKind.u64.wrap (((l0 : Nat) : Int) + ((t : Nat) : Int)) = ((L : Nat) : Int) := by rw [IntKind.wrap_u64]; omega
  have w9 : IntKind.u64.wrap (((S : Nat) : Int) + ((m1 : Nat) : Int)) = ((s : Nat) : Int) := by rw [IntKind.wrap_u64]; omega
  have w10 : IntKind.u64.wrap (((s : Nat) : Int) + ((o1 : Nat) : Int)) = ((H : Nat) : Int) := by rw [IntKind.wrap_u64]; omega
  have v1 : IntKind.u64.wrap ((b : Nat) : Int) = ((b : Nat) : Int) := by rw [IntKind.wrap_u64]; omega
  have v2 : IntKind.u64.wrap ((d : Nat) : Int) = ((d : Nat) : Int) := by rw [IntKind.wrap_u64]; omega
  have v3 : IntKind.u64.wrap ((l1 : Nat) : Int) = ((l1 : Nat) : Int) := by rw [IntKind.wrap_u64]; omega
  have v4 : IntKind.u64.wrap ((m1 : Nat) : Int) = ((m1 : Nat) : Int) := by rw [IntKind.wrap_u64]; omega
  have v5 : IntKind.u64.wrap ((o1 : Nat) : Int) = ((o1 : Nat) : Int) := by rw [IntKind.wrap_u64]; omega
  clear ha hb hc hd hxi hyi hmul p1 p2 p3 p4 e1 e2 e3 e4 hL hLl hl0 hl1 hmid hm0 hm1 ho ho0 ho1 ht hs hx hy
  go_enter Tryz.func125, Tryz.ntmps125
  go_wp2_with fail
  go_ret2
  exact ⟨rfl, rfl⟩

end Go.Proofs.YtkfbailpifmdcaaGreatDoor
end

section
namespace Go.Proofs.YtkfbailpifmdcaaGreatDoor
open Go.RowKit

def Mul3In (g : Nat) (w : World) (x y : List Nat) (i : Nat) (u8 u35 : Value) (wr : World) : Prop :=
  ∃ (j c : Nat) (z : List Nat), j ≤ y.length ∧ u35 = .int .i64 ((j : Nat) : Int) ∧ u8 = .int .u64 ((c : Nat) : Int) ∧ c < 18446744073709551616 ∧ Hid (z.length = x.length + y.length + 1) ∧ okW z ∧
    Hid (vt z (i + y.length) + c * pw (i + j) = vt x i * valN y + gw x i * pw i * vt y j ∧ ∀ j, i + y.length ≤ j → gw z j = 0) ∧ Blk wr g (wArr z) 22 ∧ Below w.heap.size w wr
def Mul3Out (g : Nat) (w : World) (x y : List Nat) (u28 : Value) (wr : World) : Prop :=
  ∃ (i : Nat) (z : List Nat), i ≤ x.length ∧ u28 = .int .i64 ((i : Nat) : Int) ∧ Hid (z.length = x.length + y.length + 1) ∧ okW z ∧ Hid (vt z (i + y.length) = vt x i * valN y ∧ ∀ j, i + y.length ≤ j → gw z j = 0) ∧ Blk wr g (wArr z) 22 ∧ Below w.heap.size w wr
theorem vt_zeros {z : List Nat} {k : Nat} (h : ∀ j, k ≤ j → gw z j = 0) : ∀ d, vt z (k + d) = vt z k
  | 0 => rfl
  | d + 1 => by rw [← Nat.add_assoc, vt_succ, h _ (by omega), vt_zeros h d]; simp
theorem gw_rep (n j : Nat) : gw (List.replicate n 0) j = 0 := by
  by_cases h : j < (List.replicate n 0).length
  · rw [gw_of_lt h]; simp
  · exact gw_ge (by omega)
theorem mul3_in_close {g : Nat} {w wr : World} {x y z : List Nat} {i j c s h : Nat} {e : Int} (he : e = ((h : Nat) : Int)) (hg : w.heap.size ≤ g) (hi : i < x.length) (hj : j < y.length) (hzl : z.length = x.length + y.length + 1) (hzo : okW z)
    (hs : vt z (i + y.length) + c * pw (i + j) = vt x i * valN y + gw x i * pw i * vt y j ∧ ∀ j, i + y.length ≤ j → gw z j = 0) (h1 : s < 18446744073709551616) (h2 : h ≤ 18446744073709551615)
    (h3 : s + 18446744073709551616 * h = gw x i * gw y j + c + gw z (i + j)) (hz : Blk wr g (wArr z) 22) (hb : Below w.heap.size w wr) :
    Mul3In g w x y i (.int .u64 e) (.int .i64 (((j : Nat) : Int) + 1)) (wr.setCell ⟨g, i + j, none⟩ (.int .u64 ((s : Nat) : Int))) := by
  subst he
  obtain ⟨hs, hz0⟩ := hs
  refine ⟨j + 1, h, z.set (i + j) s, by omega, by go_num, rfl, by omega, by show _ = _; rw [List.length_set]; exact hzl, okW_set hzo _ _ h1, ⟨?_, fun k hk => ?_⟩, blk_setW hz (i + j) s, hb.setCell hg _⟩
  · have e := vt_set_in z (i + j) s (by omega) (i + y.length) (by omega)
    rw [vt_succ, ← Nat.add_assoc, pw_succ, pw_add]
    rw [pw_add] at e hs
    generalize vt (z.set (i + j) s) (i + y.length) = V' at *
    generalize vt z (i + y.length) = V at *
    generalize gw z (i + j) = zk at *
    generalize gw x i = xi at *
    generalize gw y j = yj at *
    generalize pw i = P at *
    generalize pw j = Q at *
    generalize vt y j = Yj at *
    generalize vt x i * valN y = W at *
    grind
  · rw [gw_set_other _ _ _ _ (by omega)]
    exact hz0 k hk
theorem mul3_out_close {g : Nat} {w wr : World} {x y z : List Nat} {i c : Nat} (hg : w.heap.size ≤ g) (hi : i < x.length) (hzl : z.length = x.length + y.length + 1) (hzo : okW z) (hc : c < 18446744073709551616)
    (hs : vt z (i + y.length) + c * pw (i + y.length) = vt x i * valN y + gw x i * pw i * vt y y.length ∧ ∀ j, i + y.length ≤ j → gw z j = 0) (hz : Blk wr g (wArr z) 22) (hb : Below w.heap.size w wr) :
    Mul3Out g w x y (.int .i64 (((i : Nat) : Int) + 1)) (wr.setCell ⟨g, i + y.length, none⟩ (.int .u64 ((c : Nat) : Int))) := by
  obtain ⟨hs, hz0⟩ := hs
  refine ⟨i + 1, z.set (i + y.length) c, by omega, by go_num, by show _ = _; rw [List.length_set]; exact hzl, okW_set hzo _ _ hc, ⟨?_, fun k hk => ?_⟩, blk_setW hz _ c, hb.setCell hg _⟩
  · rw [show i + 1 + y.length = (i + y.length) + 1 by omega, vt_succ, vt_set _ _ _ _ (Nat.le_refl _), gw_set_same _ _ _ (by omega), hs, vt_all y _ (Nat.le_refl _), vt_succ, Nat.add_mul]
  · rw [gw_set_other _ _ _ _ (by omega)]
    exact hz0 k (by omega)

set_option maxRecDepth 100000 in
set_option maxHeartbeats 4000000 in
theorem Mul03_any (lo : Nat) (a b : Value) (xa xb : List Nat) (w : World) (ha : Words lo w a xa) (hb : Words lo w b xb) (hla : xa.length ≤ 1000000000) (hlb : xb.length ≤ 1000000000) :
    Calls Tryz.prog 98 #[a, b] w (NumPost w w.heap.size (valN xa * valN xb)) := by
  have hna := limbsOf_len (valN_lt ha.ok)
  have hnb := limbsOf_len (valN_lt hb.ok)
  have e1 := valN_limbsOf (valN xa)
  have e2 := valN_limbsOf (valN xb)
  go_enter Tryz.func98, Tryz.ntmps98
  go_wp2_with fail
  refine (Norm03_any lo _ xa _ ha (by omega)).mono ?_
  rintro e w1 ⟨v1, rfl, hv1, hb1⟩
  go_wp2_with fail
  refine (Norm03_any lo _ xb _ (hb.call hb1) (by omega)).mono ?_
  rintro e w2 ⟨v2, rfl, hv2, hb2⟩
  have hv1' := (hv1.call hb2).words
  have hv2' := hv2.words
  have hb12 := hb1.trans (hb2.mono hb1.size)
  clear hv1 hv2 ha hb hb1 hb2
  generalize limbsOf (valN xa) = x at *
  generalize limbsOf (valN xb) = y at *
  have E1 := Lib.hid e1
  have E2 := Lib.hid e2
  clear e1 e2
  have hokx := hv1'.ok
  have hoky := hv2'.ok
  obtain ⟨pa, ca, rfl, hca, hcma, _, hxa⟩ := hv1'
  obtain ⟨pb, cb, rfl, hcb, hcmb, _, hxb⟩ := hv2'
  have HXA := Lib.hid hxa
  have HXB := Lib.hid hxb
  have hlx : x.length ≤ 1000000000 := Nat.le_trans hna hla
  have hly : y.length ≤ 1000000000 := Nat.le_trans hnb hlb
  clear hxa hxb hna hnb hla hlb
  have hmk := make_words 51 Tryz.underlying51 (x.length + y.length + 1) (by omega)
  have hmk' : ∀ w : World, (Instr.makeSlice 51 (.int .i64 (((x.length : Nat) : Int) + ((y.length : Nat) : Int) + 1)) (.int .i64 (((x.length : Nat) : Int) + ((y.length : Nat) : Int) + 1))).run Tryz.prog w = .ok (.slice (some ⟨w.heap.size, 0, none⟩) (x.length + y.length + 1) (x.length + y.length + 1)) (w.alloc (.cells (wArr (List.replicate (x.length + y.length + 1) 0)) 22)) := fun w => by
    rw [show ((x.length : Nat) : Int) + ((y.length : Nat) : Int) + 1 = ((x.length + y.length + 1 : Nat) : Int) by omega]; exact hmk w
  clear hmk
  go_wp2_with fail
  clear hmk'
  have hsz := hb12.size
  go_loopw [28] (fun u28 wr => Mul3Out w2.heap.size w x y u28 wr ∧ Below w2.heap.size w2 wr) (fun u28 _ => x.length - (intOf u28).toNat)
  case atStart => exact ⟨⟨0, List.replicate (x.length + y.length + 1) 0, by omega, rfl, by show _ = _; simp, okW_replicate _, ⟨by rw [vt_replicate]; simp [vt], fun j _ => gw_rep _ j⟩, Blk.new _ _ _, hb12.alloc hsz _⟩, (Below.refl _ _).alloc (Nat.le_refl _) _⟩
  case round =>
    obtain ⟨⟨i, z, hi, rfl, hzl, hzo, hsum, hz, hbl⟩, hbl2⟩ := hrel
    by_cases hlt : i < x.length
    · obtain ⟨b1, o1, rfl, hb1lo, hcx⟩ := HXA.out i hlt
      have hcx' := (hbl2.cell (World.block_lt_of_cell? w2 _ hcx)).trans hcx
      have hxi := okW_gw hokx i
      have start : Mul3In w2.heap.size w x y i (.int .u64 0) (.int .i64 0) wr := ⟨0, 0, z, by omega, rfl, rfl, by omega, hzl, hzo, ⟨by rw [hsum.out.1]; simp [vt], hsum.out.2⟩, hz, hbl⟩
      clear hcx hzl hzo hsum hz hbl
      go_wp2_with fail
      obtain ⟨wo, hwo⟩ : ∃ wo : World, wo = wr := ⟨_, rfl⟩
      go_loopw [8, 35] (fun u8 u35 wr => Mul3In w2.heap.size w x y i u8 u35 wr ∧ Below w2.heap.size w2 wr) (fun _ u35 _ => y.length - (intOf u35).toNat)
      case atStart => exact ⟨start, hbl2⟩
      case round =>
        clear start hcx' hbl2 hwo
        obtain ⟨⟨j, c, z, hj, rfl, rfl, hc, HZ, hzo, HS, hz, hbl⟩, hbl2⟩ := hrel
        by_cases hlt2 : j < y.length
        · obtain ⟨b2, o2, rfl, _, hcy⟩ := HXB.out j hlt2
          have hcy' := (hbl2.cell (World.block_lt_of_cell? w2 _ hcy)).trans hcy
          have hyj := okW_gw hoky j
          have hzk := okW_gw hzo (i + j)
          have zc := hz.cell (i + j) _ (wArr_get z (i + j) (by have := HZ.out; omega))
          have zf := hz.free (i + j)
          have htm := fun w => times_any (gw x i) (gw y j) w hxi hyj
          have hlh := mL_mH (gw x i) (gw y j)
          have hll := mL_lt (gw x i) (gw y j)
          have hhl := mH_le hxi hyj
          have hpr : gw x i * gw y j ≤ 18446744073709551615 * 18446744073709551615 := Nat.mul_le_mul (by omega) (by omega)
          have hcl : ∀ s h : Nat, s < 18446744073709551616 → h ≤ 18446744073709551615 → s + 18446744073709551616 * h = gw x i * gw y j + c + gw z (i + j) → Mul3In w2.heap.size w x y i (.int .u64 ((h : Nat) : Int)) (.int .i64 (((j : Nat) : Int) + 1)) (wr.setCell ⟨w2.heap.size, i + j, none⟩ (.int .u64 ((s : Nat) : Int))) :=
            fun s h h1 h2 h3 => mul3_in_close rfl hsz hlt hlt2 HZ.out hzo HS.out h1 h2 h3 hz hbl
          have HCL := Lib.hid hcl
          clear hcy hcl HS hz hbl hzo
          generalize gw x i * gw y j = pr at *
          generalize mL (gw x i) (gw y j) = low at *
          generalize mH (gw x i) (gw y j) = high at *
          generalize gw z (i + j) = zk at *
          obtain ⟨s, hs⟩ : ∃ v, (zk + low) % 18446744073709551616 = v := ⟨_, rfl⟩
          obtain ⟨k1, hk1⟩ : ∃ v, (zk + low) / 18446744073709551616 = v := ⟨_, rfl⟩
          obtain ⟨t, ht⟩ : ∃ v, (s + c) % 18446744073709551616 = v := ⟨_, rfl⟩
          obtain ⟨k2, hk2⟩ : ∃ v, (s + c) / 18446744073709551616 = v := ⟨_, rfl⟩
          have w1 : IntKind.u64.wrap (((zk : Nat) : Int) + ((low : Nat) : Int)) = ((s : Nat) : Int) := by rw [IntKind.wrap_u64]; omega
          have w2' : IntKind.u64.wrap (((s : Nat) : Int) + ((c : Nat) : Int)) = ((t : Nat) : Int) := by rw [IntKind.wrap_u64]; omega
          have HT := Lib.hid htm
          clear htm
          have hbset := hbl2.setCell (show w2.heap.size ≤ (⟨w2.heap.size, i + j, none⟩ : Addr).block from Nat.le_refl _) (.int .u64 ((t : Nat) : Int))
          by_cases c1 : k1 = 0
          · have d1 : decide (s < low) = false := decide_eq_false (by omega)
            by_cases c2 : k2 = 0
            · have d2 : decide (t < c) = false := decide_eq_false (by omega)
              have hfin := Lib.hid (HCL.out t high (by omega) (by omega) (by omega))
              clear hs hk1 ht hk2 c1 c2 HCL hlh hpr
              go_wp2_with fail
              refine (HT.out _).mono ?_
              rintro e w3 ⟨rfl, hw⟩
              subst hw
              go_wp2_with fail
              go_roundw
              case rel => exact ⟨hfin.out, hbset⟩
              case measure => simp [intOf]; omega
            · have d2 : decide (t < c) = true := decide_eq_true (by omega)
              have w3 : IntKind.u64.wrap (((high : Nat) : Int) + 1) = ((high + 1 : Nat) : Int) := by rw [IntKind.wrap_u64]; omega
              have hfin := Lib.hid (HCL.out t (high + 1) (by omega) (by omega) (by omega))
              generalize hh1 : high + 1 = high1 at *
              clear hs hk1 ht hk2 c1 c2 HCL hlh hpr hh1
              go_wp2_with fail
              refine (HT.out _).mono ?_
              rintro e w3 ⟨rfl, hw⟩
              subst hw
              go_wp2_with fail
              go_roundw
              case rel => exact ⟨hfin.out, hbset⟩
              case measure => simp [intOf]; omega
          · have d1 : decide (s < low) = true := decide_eq_true (by omega)
            have w3 : IntKind.u64.wrap (((high : Nat) : Int) + 1) = ((high + 1 : Nat) : Int) := by rw [IntKind.wrap_u64]; omega
            by_cases c2 : k2 = 0
            · have d2 : decide (t < c) = false := decide_eq_false (by omega)
              have hfin := Lib.hid (HCL.out t (high + 1) (by omega) (by omega) (by omega))
              generalize hh1 : high + 1 = high1 at *
              clear hs hk1 ht hk2 c1 c2 HCL hlh hpr hh1
              go_wp2_with fail
              refine (HT.out _).mono ?_
              rintro e w3 ⟨rfl, hw⟩
              subst hw
              go_wp2_with fail
              go_roundw
              case rel => exact ⟨hfin.out, hbset⟩
              case measure => simp [intOf]; omega
            · have d2 : decide (t < c) = true := decide_eq_true (by omega)
              have w4 : IntKind.u64.wrap (((high + 1 : Nat) : Int) + 1) = ((high + 2 : Nat) : Int) := by rw [IntKind.wrap_u64]; omega
              have hfin := Lib.hid (HCL.out t (high + 2) (by omega) (by omega) (by omega))
              generalize hh1 : high + 1 = high1 at *
              generalize hh2 : high + 2 = high2 at *
              clear hs hk1 ht hk2 c1 c2 HCL hlh hpr hh1 hh2
              go_wp2_with fail
              refine (HT.out _).mono ?_
              rintro e w3 ⟨rfl, hw⟩
              subst hw
              go_wp2_with fail
              go_roundw
              case rel => exact ⟨hfin.out, hbset⟩
              case measure => simp [intOf]; omega
        · obtain rfl : j = y.length := by omega
          have zc := hz.cell (i + y.length) _ (wArr_get z (i + y.length) (by have := HZ.out; omega))
          have zf := hz.free (i + y.length)
          have hfin := Lib.hid (mul3_out_close hsz hlt HZ.out hzo hc HS.out hz hbl)
          have hbset := hbl2.setCell (show w2.heap.size ≤ (⟨w2.heap.size, i + y.length, none⟩ : Addr).block from Nat.le_refl _) (.int .u64 ((c : Nat) : Int))
          clear HS
          go_wp2_with fail
          go_roundw
          case rel => exact ⟨hfin.out, hbset⟩
          case measure => simp [intOf]; omega
    · obtain rfl : i = x.length := by omega
      have hw2 := Words.ofBlk_all (lo := w2.heap.size) hz (Nat.le_refl _) hzo (by have := hzl.out; omega)
      have hval : valN z = valN xa * valN xb := by
        obtain ⟨h1, h2⟩ := hsum.out
        have h3 := vt_zeros h2 1
        rw [vt_all z _ (by have := hzl.out; omega), h1, vt_all x _ (Nat.le_refl _), E1.out, E2.out] at h3
        exact h3
      rw [hzl.out] at hw2
      have hN := Norm03_any w2.heap.size _ z wr hw2 (by have := hzl.out; omega)
      rw [hval] at hN
      have HN := Lib.hid hN
      clear hN hval hsum hw2
      go_wp2_with fail
      refine HN.out.mono ?_
      rintro e w3 ⟨v, rfl, hv, hb3⟩
      go_wp2_with fail
      go_ret
      exact ⟨_, rfl, hv.mono hbl.size, hbl.trans (hb3.mono hbl.size)⟩
end Go.Proofs.YtkfbailpifmdcaaGreatDoor
end
