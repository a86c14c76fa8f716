/- RefF RefG RefH -/
import Derived.Test.YtkfbailpifmdcaaGreatDoorMau
import Derived.Test.YtkfbailpifmdcaaGreatDoorMac
import Derived.Test.YtkfbailpifmdcaaGreatDoorMab
section
namespace Go.Proofs.YtkfbailpifmdcaaGreatDoor
open Go.RowKit

theorem row_made {w : World} {base g : Nat} {z : List Nat} (h : Blk w g (wArr z) 22) (hlo : base ≤ g) (hm : z.length ≤ maxLen) : w.ownsRow base 22 1 (.slice (some ⟨g, 0, none⟩) z.length z.length) z.length (wVals z) :=
  ⟨by simp [wVals_len], Or.inr ⟨g, z.length, wArr z, rfl, hlo, h, Nat.le_refl _, hm, by simp [wArr], by rw [Nat.mul_one, ← wVals_arr]; simp [← wVals_len z]⟩⟩
theorem or3_comm64 {a b : Nat} (ha : a < 18446744073709551616) (hb : b < 18446744073709551616) : bits .or .u64 ((a : Nat) : Int) ((b : Nat) : Int) = bits .or .u64 ((b : Nat) : Int) ((a : Nat) : Int) := by
  rw [(bits_nat .u64 64 (by decide) wraps_u64 a b ha hb).2, (bits_nat .u64 64 (by decide) wraps_u64 b a hb ha).2, Nat.or_comm]
theorem shl_or {c x k : Nat} (hc : c < 2 ^ k) (hk : k < 64) : bits .or .u64 ((shL x k : Nat) : Int) ((c : Nat) : Int) = ((c + shL x k : Nat) : Int) := by
  have hp : (2 : Nat) ^ k ≤ 2 ^ 63 := Nat.pow_le_pow_right (by decide) (by omega)
  rw [or3_comm64 (shL_lt x k) (by omega)]
  exact or_add hc (shL_dvd x k (by omega)) (shL_lt x k) hk

set_option maxRecDepth 100000 in
set_option maxHeartbeats 4000000 in
theorem Shl03_any (lo : Nat) (a : Value) (x : List Nat) (n : Nat) (w : World) (ha : Words lo w a x) (hla : x.length ≤ 1000000000) (hn : n ≤ 17592186044416) :
    Calls Tryz.prog 108 #[a, .int .i64 ((n : Nat) : Int)] w (NumPost w w.heap.size (valN x * 2 ^ n)) := by
  obtain ⟨i0, hi, hz0, hz1, hz2⟩ := info_parts Tryz.infoW
  have hokx := ha.ok
  obtain ⟨pa, ca, rfl, hca, hcma, _, hxa⟩ := ha
  have HXA := Lib.hid hxa
  clear hxa
  obtain ⟨q, hq⟩ : ∃ q, n / 64 = q := ⟨_, rfl⟩
  obtain ⟨k, hk⟩ : ∃ k, n % 64 = k := ⟨_, rfl⟩
  have hqi : ((n : Nat) : Int) / 64 = ((q : Nat) : Int) := by omega
  have hki : ((n : Nat) : Int) % 64 = ((k : Nat) : Int) := by omega
  have hk64 : k < 64 := by omega
  have hql : q ≤ 274877906944 := by omega
  have hval : valN x * 2 ^ n = valN x * (pw q * 2 ^ k) := by rw [pw_two, ← Nat.pow_add]; congr 2; omega
  rw [hval]
  have hmk := make_words 51 Tryz.underlying51 q (by omega)
  obtain ⟨r2, hr2⟩ : ∃ r2, 64 - k = r2 := ⟨_, rfl⟩
  have hr2i : IntKind.u64.wrap (64 - ((k : Nat) : Int)) = ((r2 : Nat) : Int) := by rw [IntKind.wrap_u64]; omega
  have hr64 : r2 ≤ 64 := by omega
  clear hq hk hval
  go_enter Tryz.func108, Tryz.ntmps108
  go_wp2_with fail
  clear hmk hki hqi
  go_loopw [5, 7, 18] (fun u5 u7 u18 wr => ∃ (i c : Nat) (z : List Nat), i ≤ x.length ∧ u18 = .int .i64 ((i : Nat) : Int) ∧ u7 = .int .u64 ((c : Nat) : Int) ∧ c < 2 ^ k ∧ Hid (z.length = q + i) ∧ okW z ∧ Hid (valN z + c * pw (q + i) = vt x i * (pw q * 2 ^ k)) ∧ wr.ownsRow w.heap.size 22 1 u5 z.length (wVals z) ∧ Below w.heap.size w wr) (fun _ _ u18 _ => x.length - (intOf u18).toNat)
  case atStart =>
    have hrow := row_made (Blk.new w (wArr (List.replicate q 0)) 22) (Nat.le_refl _) (by rw [List.length_replicate]; unfold maxLen; omega)
    rw [List.length_replicate] at hrow
    exact ⟨0, 0, List.replicate q 0, by omega, rfl, rfl, Nat.two_pow_pos _, by show _ = _; simp, okW_replicate _, by show _ = _; rw [valN_replicate]; simp [vt], by rw [List.length_replicate]; exact hrow, (Below.refl _ _).alloc (Nat.le_refl _) _⟩
  case round =>
    obtain ⟨i, c, z, hix, rfl, rfl, hc, HZ, hzo, HS, hown, hbw⟩ := hrel
    obtain ⟨x5, c5, rfl⟩ := row_slice hown
    have hzlen : z.length ≤ 275877906944 := by have := HZ.out; omega
    have hp63 : (2 : Nat) ^ k ≤ 2 ^ 63 := Nat.pow_le_pow_right (by decide) (by omega)
    have hc64 : c < 18446744073709551616 := by omega
    by_cases hlt : i < x.length
    · obtain ⟨b1, o1, rfl, hb1lo, hcx⟩ := HXA.out i hlt
      have hcx' := (hbw.cell (World.block_lt_of_cell? w _ hcx)).trans hcx
      have hxi := okW_gw hokx i
      have hsl := wrap_shl (gw x i) k
      have hor := shl_or (x := gw x i) hc hk64
      have hroom := shL_room (x := gw x i) hc hk64
      have hsh := shH_shr (x := gw x i) (k := k) (by omega)
      have hhl := shH_lt hxi k
      have hst : valN (z ++ [c + shL (gw x i) k]) + shH (gw x i) k * pw (q + (i + 1)) = vt x (i + 1) * (pw q * 2 ^ k) := by
        have h1 := HS.out
        have h2 := shL_shH (gw x i) k
        rw [valN_snoc, HZ.out, vt_succ, show q + (i + 1) = (q + i) + 1 by omega, pw_succ, pw_add]
        rw [pw_add] at h1
        generalize shL (gw x i) k = sl at *
        generalize shH (gw x i) k = sh at *
        generalize gw x i = g at *
        generalize valN z = V at *
        generalize vt x i = A at *
        generalize pw q = Q at *
        generalize pw i = I at *
        generalize 2 ^ k = K at *
        grind
      have HST := Lib.hid hst
      have HLEN := Lib.hid (show (z ++ [c + shL (gw x i) k]).length = q + (i + 1) by rw [List.length_append, List.length_singleton, HZ.out]; omega)
      rw [hr2] at hsh
      have hshi : ((gw x i : Nat) : Int) / 2 ^ r2 = ((shH (gw x i) k : Nat) : Int) := by rw [shr_cast, hsh]
      have hko : okW (z ++ [c + shL (gw x i) k]) := okW_snoc hzo hroom
      have hsn := wVals_snoc z (c + shL (gw x i) k)
      have h0 : k = 0 → shH (gw x i) k = 0 := by
        intro e
        subst e
        unfold shH
        rw [Nat.pow_zero, Nat.mul_one]
        exact Nat.div_eq_of_lt hxi
      generalize c + shL (gw x i) k = s at *
      generalize shL (gw x i) k = sl at *
      generalize shH (gw x i) k = sh at *
      have HSN := Lib.hid hsn
      have HKO := Lib.hid hko
      clear hcx hst hsn hsh HS HZ hroom hko
      generalize gw x i = g at *
      by_cases hk0 : k = 0
      · have d1 : decide (0 < k) = false := decide_eq_false (by omega)
        have hs0 := h0 hk0
        subst hs0
        clear h0 hk0
        go_wp2_with (at_builtin; refine wpList_append1 rfl _ _ 51 rfl w.heap.size 22 i0 (.int .u64 0) 8 Tryz.underlying51 hi hz0 hz1 hz2 rfl _ _ _ rfl hown _ _ rfl rfl (by unfold maxLen; omega) (by omega) hbw.size ?_; intro v' w3 hown3 hg3)
        have hg4 : wr.grownBy w3 (Value.slice x5 z.length c5).ownBlock := hg3
        have hbw3 := Below.grownB hbw hg4 hbw.size hown
        go_roundw
        case rel =>
          refine ⟨i + 1, 0, z ++ [s], by omega, by go_num, rfl, Nat.two_pow_pos _, HLEN.out, HKO.out, HST.out, ?_, hbw3⟩
          rw [List.length_append, List.length_singleton, HSN.out]
          exact hown3
        case measure => simp [intOf]; omega
      · have d1 : decide (0 < k) = true := decide_eq_true (by omega)
        clear h0 hk0
        go_wp2_with (at_builtin; refine wpList_append1 rfl _ _ 51 rfl w.heap.size 22 i0 (.int .u64 0) 8 Tryz.underlying51 hi hz0 hz1 hz2 rfl _ _ _ rfl hown _ _ rfl rfl (by unfold maxLen; omega) (by omega) hbw.size ?_; intro v' w3 hown3 hg3)
        have hg4 : wr.grownBy w3 (Value.slice x5 z.length c5).ownBlock := hg3
        have hbw3 := Below.grownB hbw hg4 hbw.size hown
        go_roundw
        case rel =>
          refine ⟨i + 1, sh, z ++ [s], by omega, by go_num, by first | rfl | rw [hshi], hhl, HLEN.out, HKO.out, HST.out, ?_, hbw3⟩
          rw [List.length_append, List.length_singleton, HSN.out]
          exact hown3
        case measure => simp [intOf]; omega
    · obtain rfl : i = x.length := by omega
      have hval : valN (z ++ [c]) = valN x * (pw q * 2 ^ k) := by
        have h := HS.out
        rw [vt_len, ← HZ.out] at h
        rw [valN_snoc]
        exact h
      have HV := Lib.hid hval
      clear hval HS
      go_wp2_with (at_builtin; refine wpList_append1 rfl _ _ 51 rfl w.heap.size 22 i0 (.int .u64 0) 8 Tryz.underlying51 hi hz0 hz1 hz2 rfl _ _ _ rfl hown _ _ rfl rfl (by unfold maxLen; omega) (by omega) hbw.size ?_; intro v' w3 hown3 hg3)
      have hg4 : wr.grownBy w3 (Value.slice x5 z.length c5).ownBlock := hg3
      have hbw3 := Below.grownB hbw hg4 hbw.size hown
      have hown4 : w3.ownsRow w.heap.size 22 1 v' (z ++ [c]).length (wVals (z ++ [c])) := by
        rw [List.length_append, List.length_singleton, wVals_snoc]
        exact hown3
      have hN := Norm03_any w.heap.size v' (z ++ [c]) w3 (Words.ofRow hown4 (Nat.le_refl _) (okW_snoc hzo hc64)) (by rw [List.length_append, List.length_singleton]; omega)
      rw [HV.out] at hN
      refine hN.mono ?_
      rintro e w4 ⟨v4, rfl, hv4, hb4⟩
      go_wp2_with fail
      go_ret
      exact ⟨_, rfl, hv4.mono hbw3.size, hbw3.trans (hb4.mono hbw3.size)⟩
end Go.Proofs.YtkfbailpifmdcaaGreatDoor
end

section
namespace Go.Proofs.YtkfbailpifmdcaaGreatDoor
open Go.RowKit

theorem shr_snoc {y z : List Nat} {k m s : Nat} (hk : k ≤ 64) (hzl : z.length = m) (hs2 : s = gw y m / 2 ^ k + gw y (m + 1) % 2 ^ k * 2 ^ (64 - k)) (hs : valN z * 2 ^ k + gw y 0 % 2 ^ k = vt y m + gw y m % 2 ^ k * pw m) :
    valN (z ++ [s]) * 2 ^ k + gw y 0 % 2 ^ k = vt y (m + 1) + gw y (m + 1) % 2 ^ k * pw (m + 1) := by
  rw [valN_snoc, hzl, vt_succ, pw_succ]
  have h1 := Nat.div_add_mod (gw y m) (2 ^ k)
  have h2 := two64 hk
  subst hs2
  generalize gw y m / 2 ^ k = d at *
  generalize gw y (m + 1) % 2 ^ k = r' at *
  generalize gw y m % 2 ^ k = r at *
  generalize gw y m = t at *
  generalize 2 ^ (64 - k) = L at *
  generalize 2 ^ k = K at *
  generalize pw m = P at *
  rw [h2]
  grind
theorem val_cut (x : List Nat) (q : Nat) : valN x = vt x q + pw q * valN (x.drop q) := by
  have h := valN_split x q
  rw [← vt_take] at h
  exact h
theorem low_mod {y : List Nat} {k : Nat} (hk : k ≤ 64) : valN y % 2 ^ k = gw y 0 % 2 ^ k := by
  cases y with
  | nil => simp [valN, gw]
  | cons a t =>
    rw [valN, gw_zero, two64 hk, Nat.mul_assoc, Nat.mul_left_comm, Nat.add_mul_mod_self_left]
theorem nz_add {T P r : Nat} (hP : 0 < P) : (!(T + P * r == 0)) = (!(T == 0) || !(r == 0)) := by
  rw [Bool.eq_iff_iff]
  simp only [Bool.not_eq_true', beq_eq_false_iff_ne, Bool.or_eq_true, ne_eq]
  constructor
  · intro h
    by_cases h1 : T = 0
    · right
      intro h2
      apply h
      rw [h1, h2]
      rfl
    · exact Or.inl h1
  · intro h h2
    rcases h with h | h
    · omega
    · have := Nat.mul_ne_zero (Nat.ne_of_gt hP) h
      omega
theorem ne_cast (g : Nat) : (((g : Nat) : Int) != 0) = !(g == 0) := by
  by_cases h : g = 0
  · subst h
    rfl
  · have h2 : ((g : Nat) : Int) ≠ 0 := by omega
    rw [bne_iff_ne.2 h2]
    simp [h]
theorem lost3_words {x : List Nat} (hx : okW x) (n : Nat) : lostN (valN x) n = (!(vt x (n / 64) == 0) || !(gw x (n / 64) % 2 ^ (n % 64) == 0)) := by
  have e : 2 ^ n = pw (n / 64) * 2 ^ (n % 64) := by rw [pw_two, ← Nat.pow_add, show 64 * (n / 64) + n % 64 = n by omega]
  have hT := vt_lt hx (n / 64)
  have hm : valN x % 2 ^ n = vt x (n / 64) + pw (n / 64) * (gw x (n / 64) % 2 ^ (n % 64)) := by
    rw [e, Nat.mod_mul, val_cut x (n / 64), Nat.add_mul_mod_self_left, Nat.mod_eq_of_lt hT, Nat.add_mul_div_left _ _ (pw_pos _), Nat.div_eq_of_lt hT, Nat.zero_add, low_mod (Nat.le_of_lt (Nat.mod_lt _ (by decide))), gw_drop, Nat.add_zero]
  unfold lostN
  rw [hm]
  exact nz_add (pw_pos _)

set_option maxRecDepth 100000 in
set_option maxHeartbeats 4000000 in
theorem Shr03_any (lo : Nat) (a : Value) (x : List Nat) (n : Nat) (w : World) (ha : Words lo w a x) (hla : x.length ≤ 1000000000) (hn : n ≤ 4611686018427387904) :
    Calls Tryz.prog 129 #[a, .int .i64 ((n : Nat) : Int)] w (ShrPost w (valN x / 2 ^ n) (lostN (valN x) n)) := by
  obtain ⟨i0, hi, hz0, hz1, hz2⟩ := info_parts Tryz.infoW
  have hokx := ha.ok
  have hvx := valN_lt hokx
  by_cases hbig : 64 * x.length ≤ n
  · have hlen := Len03_any lo a x w ha (by omega)
    have hlt : valN x < 2 ^ n := Nat.lt_of_lt_of_le hvx (by rw [pw_two]; exact Nat.pow_le_pow_right (by decide) hbig)
    have hq : valN x / 2 ^ n = 0 := Nat.div_eq_of_lt hlt
    have hl : lostN (valN x) n = decide (0 < bl (valN x)) := by
      unfold lostN
      rw [Nat.mod_eq_of_lt hlt]
      by_cases h0 : valN x = 0
      · rw [h0, bl_zero]; rfl
      · have := bl_pos h0
        rw [decide_eq_true this]
        simpa using h0
    rw [hq, hl]
    obtain ⟨pa, ca, rfl, hca, hcma, _, hxa⟩ := ha
    have hge : ((64 : Int) * ((x.length : Nat) : Int)) ≤ ((n : Nat) : Int) := by omega
    have HL := Lib.hid hlen
    clear hxa hlt hq hl hlen hvx
    generalize bl (valN x) = b at *
    go_enter Tryz.func129, Tryz.ntmps129
    go_wp2_with fail
    refine HL.out.mono ?_
    rintro e w1 ⟨rfl, hb1⟩
    go_wp2_with fail
    go_ret2
    exact ⟨_, by first | rfl | simp, Num.zero _ _ _ _ (by decide), hb1⟩
  have hlo := lost3_words hokx n
  have hcut := val_cut x (n / 64)
  have hval := @shr_val (valN x) (vt x (n / 64)) (valN (x.drop (n / 64)))
  obtain ⟨q, hq⟩ : ∃ q, n / 64 = q := ⟨_, rfl⟩
  obtain ⟨k, hk⟩ : ∃ k, n % 64 = k := ⟨_, rfl⟩
  have hql : q < x.length := by omega
  have hT := vt_lt hokx q
  rw [hq] at hcut
  rw [hq, hk] at hlo
  have hwa := fun wr (h : Below w.heap.size w wr) i => word03_any lo a x i wr (ha.call h)
  obtain ⟨pa, ca, rfl, hca, hcma, _, hxa⟩ := ha
  have HXA := Lib.hid hxa
  have HWA := Lib.hid hwa
  clear hxa hwa
  have hqi : ((n : Nat) : Int) / 64 = ((q : Nat) : Int) := by omega
  have hki : ((n : Nat) : Int) % 64 = ((k : Nat) : Int) := by omega
  have hk64 : k < 64 := by omega
  obtain ⟨r2, hr2⟩ : ∃ r2, 64 - k = r2 := ⟨_, rfl⟩
  have hr2i : IntKind.u64.wrap (64 - ((k : Nat) : Int)) = ((r2 : Nat) : Int) := by rw [IntKind.wrap_u64]; omega
  have hr64 : r2 ≤ 64 := by omega
  have hge : ¬ ((64 : Int) * ((x.length : Nat) : Int)) ≤ ((n : Nat) : Int) := by omega
  obtain ⟨R, hR⟩ : ∃ R, lostN (valN x) n = R := ⟨_, rfl⟩
  rw [hR] at hlo ⊢
  have HLO := Lib.hid hlo
  have HVAL := Lib.hid (fun (z r : Nat) (h : z * 2 ^ k + r % 2 ^ k = valN (x.drop q)) => hval (z := z) (r := r) (n := n) (by rw [hq]; exact hcut) (by rw [hq]; exact hT) (by rw [hk, hq]; exact h))
  obtain ⟨V, hV⟩ : ∃ V, valN x / 2 ^ n = V := ⟨_, rfl⟩
  rw [hV] at HVAL ⊢
  clear hR hlo hval hcut hvx hV hT
  have hq2 : (q : Nat) ≤ ca := by omega
  go_enter Tryz.func129, Tryz.ntmps129
  go_wp2_with fail
  go_loop [6, 26] (fun u6 u26 => ∃ i : Nat, i ≤ q ∧ u26 = .int .i64 ((i : Nat) : Int) ∧ u6 = .bool (!(vt x i == 0))) (fun _ u26 => q - (intOf u26).toNat)
  case atStart => exact ⟨0, Nat.zero_le _, rfl, rfl⟩
  case round =>
    obtain ⟨i, hiq, rfl, rfl⟩ := hrel
    by_cases hlt : i < q
    · obtain ⟨b1, o1, rfl, hb1lo, hcx⟩ := HXA.out i (by omega)
      have hstep : (!(vt x (i + 1) == 0)) = (!(vt x i == 0) || !(gw x i == 0)) := by
        rw [vt_succ, Nat.mul_comm]
        exact nz_add (pw_pos i)
      have hne := ne_cast (gw x i)
      have HST := Lib.hid hstep
      obtain ⟨p, hp⟩ : ∃ p, (!(vt x i == 0)) = p := ⟨_, rfl⟩
      rw [hp] at HST ⊢
      clear hstep hp
      generalize gw x i = g at *
      obtain ⟨p2, hp2⟩ : ∃ p2, (!(g == 0)) = p2 := ⟨_, rfl⟩
      rw [hp2] at hne HST
      clear hp2
      cases p with
      | true =>
        clear hne
        go_wp2_with fail
        go_round
        case rel => exact ⟨i + 1, by omega, by go_num, by rw [HST.out]; rfl⟩
        case measure => simp [intOf]; omega
      | false =>
        go_wp2_with fail
        go_round
        case rel => exact ⟨i + 1, by omega, by go_num, by rw [HST.out]; rfl⟩
        case measure => simp [intOf]; omega
    · obtain rfl : i = q := by omega
      obtain ⟨p, hp⟩ : ∃ p, (!(vt x i == 0)) = p := ⟨_, rfl⟩
      rw [hp] at HLO ⊢
      clear hp
      go_wp2_with fail
      clear hki
      go_loopw [10, 11] (fun u10 u11 wr => ∃ (m : Nat) (z : List Nat), i + m ≤ x.length ∧ u11 = .int .i64 ((i + m : Nat) : Int) ∧ Hid (z.length = m) ∧ okW z ∧ Hid (valN z * 2 ^ k + gw (x.drop i) 0 % 2 ^ k = vt (x.drop i) m + gw (x.drop i) m % 2 ^ k * pw m) ∧ wr.ownsRow w.heap.size 22 1 u10 z.length (wVals z) ∧ Below w.heap.size w wr) (fun _ u11 _ => x.length - (intOf u11).toNat)
      case atStart => exact ⟨0, [], by omega, rfl, rfl, okW_nil, by show _ = _; simp [valN, vt, pw_zero], World.ownsRow_nil _ _ _ _, Below.refl _ _⟩
      case round =>
        obtain ⟨m, z, him, rfl, HZ, hzo, HS, hown, hbw⟩ := hrel
        obtain ⟨x5, c5, rfl⟩ := row_slice hown
        have hzlen : z.length ≤ 1000000000 := by have := HZ.out; omega
        by_cases hlt2 : i + m < x.length
        · obtain ⟨b1, o1, rfl, hb1lo, hcx⟩ := HXA.out (i + m) hlt2
          have hcx' := (hbw.cell (World.block_lt_of_cell? w _ hcx)).trans hcx
          have hA := HWA.out wr hbw (i + m + 1)
          rw [show ((i + m + 1 : Nat) : Int) = ((i + m : Nat) : Int) + 1 by omega] at hA
          have hxi := okW_gw hokx (i + m)
          have hxj := okW_gw hokx (i + m + 1)
          obtain ⟨d, hd⟩ : ∃ d, gw x (i + m) / 2 ^ k = d := ⟨_, rfl⟩
          have hdi : ((gw x (i + m) : Nat) : Int) / 2 ^ k = ((d : Nat) : Int) := by rw [shr_cast, hd]
          have hroom := shr_or_lt (a := gw x (i + m)) (b := gw x (i + m + 1)) (k := k) hxi (by omega)
          have hor : 0 < k → bits .or .u64 ((d : Nat) : Int) (IntKind.u64.wrap (((gw x (i + m + 1) : Nat) : Int) * 2 ^ r2)) = ((d + gw x (i + m + 1) % 2 ^ k * 2 ^ r2 : Nat) : Int) := by
            intro h0
            have := shr_or (a := gw x (i + m)) (b := gw x (i + m + 1)) hxi h0 hk64
            rwa [hdi, hd, hr2] at this
          rw [hd, hr2] at hroom
          have hst := shr_snoc (y := x.drop i) (z := z) (k := k) (m := m) (s := d + gw x (i + m + 1) % 2 ^ k * 2 ^ r2) (by omega) HZ.out (by rw [gw_drop, gw_drop, hd, hr2, ← Nat.add_assoc]) HS.out
          have h0s : k = 0 → gw x (i + m + 1) % 2 ^ k = 0 := by
            intro e
            subst e
            rw [Nat.pow_zero, Nat.mod_one]
          generalize gw x (i + m + 1) % 2 ^ k = rr at *
          obtain ⟨s, hs⟩ : ∃ s, d + rr * 2 ^ r2 = s := ⟨_, rfl⟩
          rw [hs] at hst hor hroom
          have HST := Lib.hid hst
          have HA := Lib.hid hA
          have HLEN := Lib.hid (show (z ++ [s]).length = m + 1 by rw [List.length_append, List.length_singleton, HZ.out])
          have HKO := Lib.hid (okW_snoc hzo hroom)
          have HSN := Lib.hid (wVals_snoc z s)
          clear hst hA hcx hd
          generalize gw x (i + m + 1) = gj at *
          obtain ⟨j, hj⟩ : ∃ j, i + m = j := ⟨_, rfl⟩
          have HJ := Lib.hid hj
          rw [hj] at hlt2 hcx' HA hdi hxi him ⊢
          clear hj
          by_cases hk0 : k = 0
          · have d1 : decide (0 < k) = false := decide_eq_false (by omega)
            have hrr := h0s hk0
            have hds : d = s := by rw [← hs, hrr]; simp
            clear hor h0s hk0 hs hrr
            subst hds
            generalize gw x j = g at *
            go_wp2_with (at_builtin; refine wpList_append1 rfl _ _ 51 rfl w.heap.size 22 i0 (.int .u64 0) 8 Tryz.underlying51 hi hz0 hz1 hz2 rfl _ _ _ rfl hown _ _ rfl rfl (by unfold maxLen; omega) (by omega) hbw.size ?_; intro v' w3 hown3 hg3)
            have hg4 : wr.grownBy w3 (Value.slice x5 z.length c5).ownBlock := hg3
            have hbw3 := Below.grownB hbw hg4 hbw.size hown
            go_roundw
            case rel =>
              refine ⟨m + 1, z ++ [d], by have := HJ.out; omega, by rw [← Nat.add_assoc, HJ.out]; go_num, HLEN.out, HKO.out, HST.out, ?_, hbw3⟩
              rw [List.length_append, List.length_singleton, HSN.out]
              exact hown3
            case measure => simp [intOf]; omega
          · have d1 : decide (0 < k) = true := decide_eq_true (by omega)
            have hor2 := hor (by omega)
            clear hor h0s hk0 hs
            generalize gw x j = g at *
            go_wp2_with fail
            refine HA.out.mono ?_
            rintro e w2 ⟨rfl, hw⟩
            subst hw
            go_wp2_with (at_builtin; refine wpList_append1 rfl _ _ 51 rfl w.heap.size 22 i0 (.int .u64 0) 8 Tryz.underlying51 hi hz0 hz1 hz2 rfl _ _ _ rfl hown _ _ rfl rfl (by unfold maxLen; omega) (by omega) hbw.size ?_; intro v' w3 hown3 hg3)
            have hg4 : wr.grownBy w3 (Value.slice x5 z.length c5).ownBlock := hg3
            have hbw3 := Below.grownB hbw hg4 hbw.size hown
            go_roundw
            case rel =>
              refine ⟨m + 1, z ++ [s], by have := HJ.out; omega, by rw [← Nat.add_assoc, HJ.out]; go_num, HLEN.out, HKO.out, HST.out, ?_, hbw3⟩
              rw [List.length_append, List.length_singleton, HSN.out]
              exact hown3
            case measure => simp [intOf]; omega
        · have hend : i + m = x.length := by omega
          have hvz : valN z = V := by
            have h := HS.out
            have hg : gw (x.drop i) m = 0 := gw_ge (by rw [List.length_drop]; omega)
            rw [hg, Nat.zero_mod, Nat.zero_mul, Nat.add_zero, vt_all _ m (by rw [List.length_drop]; omega)] at h
            exact HVAL.out _ _ h
          have hN := Norm03_any w.heap.size _ z wr (Words.ofRow hown (Nat.le_refl _) hzo) (by omega)
          rw [hvz] at hN
          have HN := Lib.hid hN
          obtain ⟨b1, o1, rfl, hb1lo, hcx⟩ := HXA.out i (by omega)
          have hcx' := (hbw.cell (World.block_lt_of_cell? w _ hcx)).trans hcx
          have hxi := okW_gw hokx i
          have hsw := shr_word (y := gw x i) (k := k) (by omega)
          rw [hr2] at hsw
          have hwr := wrap_shl (gw x i) r2
          have hne : (((shL (gw x i) r2 : Nat) : Int) != 0) = !(gw x i % 2 ^ k == 0) := by
            rw [hsw]
            have := Nat.two_pow_pos r2
            by_cases h2 : gw x i % 2 ^ k = 0
            · simp [h2]
            · have h3 : gw x i % 2 ^ k * 2 ^ r2 ≠ 0 := Nat.mul_ne_zero h2 (by omega)
              have h4 : ¬ ((gw x i % 2 ^ k * 2 ^ r2 : Nat) : Int) = 0 := by omega
              have h5 : (((gw x i % 2 ^ k * 2 ^ r2 : Nat) : Int) != 0) = true := bne_iff_ne.2 h4
              rw [h5]
              simp [h2]
          have hk0 : k = 0 → gw x i % 2 ^ k = 0 := by
            intro e
            subst e
            rw [Nat.pow_zero, Nat.mod_one]
          generalize shL (gw x i) r2 = sl at *
          generalize gw x i % 2 ^ k = rr at *
          have HLO2 := HLO
          obtain ⟨p3, hp3⟩ : ∃ p3, (!(rr == 0)) = p3 := ⟨_, rfl⟩
          rw [hp3] at hne HLO2
          have hp30 : k = 0 → p3 = false := by
            intro e
            rw [← hp3, hk0 e]
            rfl
          clear hN hvz HS hsw hcx hp3 hk0 hown HLO
          obtain ⟨j, hj⟩ : ∃ j, i + m = j := ⟨_, rfl⟩
          rw [hj] at hlt2 hend ⊢
          clear him HZ hj
          subst hend
          generalize gw x i = g at *
          by_cases hk0 : k = 0
          · have d1 : decide (0 < k) = false := decide_eq_false (by omega)
            have e := hp30 hk0
            subst e
            clear hp30 hk0 hne
            go_wp2_with fail
            refine HN.out.mono ?_
            rintro e w4 ⟨v4, rfl, hv4, hb4⟩
            go_wp2_with fail
            go_ret2
            exact ⟨_, by rw [HLO2.out]; first | rfl | simp, hv4.mono hbw.size, hbw.trans (hb4.mono hbw.size)⟩
          · have d1 : decide (0 < k) = true := decide_eq_true (by omega)
            clear hp30 hk0
            cases p with
            | true =>
              clear hne
              go_wp2_with fail
              refine HN.out.mono ?_
              rintro e w4 ⟨v4, rfl, hv4, hb4⟩
              go_wp2_with fail
              go_ret2
              exact ⟨_, by rw [HLO2.out]; first | rfl | simp, hv4.mono hbw.size, hbw.trans (hb4.mono hbw.size)⟩
            | false =>
              go_wp2_with fail
              refine HN.out.mono ?_
              rintro e w4 ⟨v4, rfl, hv4, hb4⟩
              go_wp2_with fail
              go_ret2
              exact ⟨_, by rw [HLO2.out]; first | rfl | simp, hv4.mono hbw.size, hbw.trans (hb4.mono hbw.size)⟩
end Go.Proofs.YtkfbailpifmdcaaGreatDoor
end

section
namespace Go.Proofs.YtkfbailpifmdcaaGreatDoor
open Go.RowKit

theorem sub3_value {x y z : List Nat} {c i : Nat} (hzo : okW z) (hs : vt z i + vt y i = vt x i + c * pw i) (hzl : z.length = i) (hxl : x.length ≤ i) (hyl : y.length ≤ i) (hyx : valN y ≤ valN x) :
    valN z = valN x - valN y := by
  have e5 := valN_lt hzo
  rw [hzl] at e5
  rw [vt_all z i (by omega), vt_all x i hxl, vt_all y i hyl] at hs
  have : c = 0 := by
    apply Nat.eq_zero_of_not_pos
    intro hp
    have := Nat.mul_le_mul_right (pw i) hp
    omega
  subst this
  omega

set_option maxRecDepth 100000 in
set_option maxHeartbeats 600000 in
theorem Sub03_any (lo : Nat) (a b : Value) (x y : List Nat) (w : World) (ha : Words lo w a x) (hb : Words lo w b y) (hla : x.length ≤ 1000000000) (hlb : y.length ≤ 1000000000) (hyx : valN y ≤ valN x) :
    Calls Tryz.prog 135 #[a, b] w (NumPost w w.heap.size (valN x - valN y)) := by
  obtain ⟨i0, hi, hz0, hz1, hz2⟩ := info_parts Tryz.infoW
  have hwa := fun wr (h : Below w.heap.size w wr) i => word03_any lo a x i wr (ha.call h)
  have hwb := fun wr (h : Below w.heap.size w wr) i => word03_any lo b y i wr (hb.call h)
  have hokx := ha.ok
  have hoky := hb.ok
  have HYX := Lib.hid hyx
  obtain ⟨pa, ca, rfl, hca, hcma, _, hxa⟩ := ha
  obtain ⟨pb, cb, rfl, hcb, hcmb, _, hxb⟩ := hb
  have HWA := Lib.hid hwa
  have HWB := Lib.hid hwb
  clear hwa hwb hxa hxb hyx
  obtain ⟨M, hM⟩ : ∃ M, max x.length y.length = M := ⟨_, rfl⟩
  have hMi : max ((x.length : Nat) : Int) ((y.length : Nat) : Int) = ((M : Nat) : Int) := by omega
  have HM := Lib.hid hM
  have hMl : M ≤ 1000000000 := by omega
  clear hM
  go_enter Tryz.func135, Tryz.ntmps135
  go_wp2_with fail
  go_loopw [5, 6, 7] (fun u5 u6 u7 wr => ∃ (i c : Nat) (z : List Nat), i ≤ M ∧ u7 = .int .i64 ((i : Nat) : Int) ∧ u6 = .int .u64 ((c : Nat) : Int) ∧ c ≤ 1 ∧ z.length = i ∧ okW z ∧ Hid (vt z i + vt y i = vt x i + c * pw i) ∧ wr.ownsRow w.heap.size 22 1 u5 z.length (wVals z) ∧ Below w.heap.size w wr) (fun _ _ u7 _ => M - (intOf u7).toNat)
  case atStart => exact ⟨0, 0, [], Nat.zero_le _, rfl, rfl, by omega, rfl, okW_nil, by show _ = _; simp [vt], World.ownsRow_nil _ _ _ _, Below.refl _ _⟩
  case round =>
    obtain ⟨i, c, z, hiM, rfl, rfl, hc, hzl, hzo, HS, hown, hbw⟩ := hrel
    obtain ⟨x5, c5, rfl⟩ := row_slice hown
    by_cases hlt : i < M
    · have hA := HWA.out wr hbw i
      have hB := HWB.out wr hbw i
      have hgx := okW_gw hokx i
      have hgy := okW_gw hoky i
      have hst : ∀ s c', s + gw y i + c = gw x i + 18446744073709551616 * c' → vt (z ++ [s]) (i + 1) + vt y (i + 1) = vt x (i + 1) + c' * pw (i + 1) := by
        intro s c' h
        rw [← hzl, vt_snoc, pw_succ, vt_succ, vt_succ, hzl]
        exact step_diff HS.out h
      have HA := Lib.hid hA
      have HB := Lib.hid hB
      have HST := Lib.hid hst
      clear hA hB hst HS
      generalize gw x i = gx at *
      generalize gw y i = gy at *
      obtain ⟨s1, hs1⟩ : ∃ s1, (gx + 18446744073709551616 - gy) % 18446744073709551616 = s1 := ⟨_, rfl⟩
      obtain ⟨s, hs⟩ : ∃ s, (s1 + 18446744073709551616 - c) % 18446744073709551616 = s := ⟨_, rfl⟩
      obtain ⟨c', hc'⟩ : ∃ c', (if gx < gy + c then 1 else 0) = c' := ⟨_, rfl⟩
      have hw1 : IntKind.u64.wrap (((gx : Nat) : Int) - ((gy : Nat) : Int)) = ((s1 : Nat) : Int) := by rw [IntKind.wrap_u64]; omega
      have hw2 : IntKind.u64.wrap (((s1 : Nat) : Int) - ((c : Nat) : Int)) = ((s : Nat) : Int) := by rw [IntKind.wrap_u64]; omega
      have heq : s + gy + c = gx + 18446744073709551616 * c' := by split at hc' <;> omega
      have hsl : s < 18446744073709551616 := by omega
      have hcl : c' ≤ 1 := by split at hc' <;> omega
      have HST2 := Lib.hid (HST.out s c' heq)
      have HEQ := Lib.hid heq
      obtain ⟨q, hq⟩ : ∃ q, decide (c' = 1) = q := ⟨_, rfl⟩
      have HQ := Lib.hid hq
      clear hs1 hs hc' heq HST hq
      go_wp2_with fail
      refine HA.out.mono ?_
      rintro e w1 ⟨rfl, hw⟩
      subst hw
      go_wp2_with fail
      refine HB.out.mono ?_
      rintro e w1 ⟨rfl, hw⟩
      subst hw
      go_upto_region 8 with fail
      go_cut [5, 6, 7, 8, 9, 10, 42] (fun u5 u6 u7 u8 u9 u10 u42 wx => u5 = .slice x5 z.length c5 ∧ u6 = .int .u64 ((c : Nat) : Int) ∧ u7 = .int .i64 ((i : Nat) : Int) ∧ u8 = .int .u64 ((gx : Nat) : Int) ∧ u9 = .int .u64 ((gy : Nat) : Int) ∧ u10 = .int .u64 ((s : Nat) : Int) ∧ u42 = .bool q ∧ wr = wx)
      case first =>
        have heq := HEQ.out
        have hqd := HQ.out
        clear HA HB HST2 HEQ HQ hw1 hw2 hown hbw
        by_cases h1 : gx < gy
        · have d1 : decide (gx < gy) = true := decide_eq_true (by omega)
          have hqt : q = true := by rw [← hqd]; exact decide_eq_true (by omega)
          subst hqt
          clear heq hqd h1
          go_wp2_with fail
          go_meet
          exact ⟨by rw [hzl], rfl, rfl, rfl, rfl, rfl, rfl, rfl⟩
        have d1 : decide (gx < gy) = false := decide_eq_false (by omega)
        by_cases h2 : gx = gy
        · have b2 : (((gx : Nat) : Int) == ((gy : Nat) : Int)) = true := beq_iff_eq.2 (by omega)
          have hqg : (((c : Nat) : Int) == 1) = q := by
            rw [← hqd]
            by_cases h3 : c = 1
            · rw [decide_eq_true (by omega)]; exact beq_iff_eq.2 (by omega)
            · rw [decide_eq_false (by omega)]; exact beq_eq_false_iff_ne.2 (by omega)
          clear heq hqd h1 h2
          go_wp2_with fail
          go_meet
          exact ⟨by rw [hzl], rfl, rfl, rfl, rfl, rfl, by first | rfl | rw [hqg] | simp [hqg], rfl⟩
        · have b2 : (((gx : Nat) : Int) == ((gy : Nat) : Int)) = false := beq_eq_false_iff_ne.2 (by omega)
          have hqt : q = false := by rw [← hqd]; exact decide_eq_false (by omega)
          subst hqt
          clear heq hqd h1 h2
          go_wp2_with fail
          go_meet
          exact ⟨by rw [hzl], rfl, rfl, rfl, rfl, rfl, rfl, rfl⟩
      case rest =>
        obtain ⟨rfl, rfl, rfl, rfl, rfl, rfl, rfl, rfl⟩ := hcut
        have hqd := HQ.out
        clear HA HB HEQ HQ hw1 hw2
        cases q
        all_goals first
          | (have hcv : c' = 1 := of_decide_eq_true hqd; subst hcv)
          | (have hcn := of_decide_eq_false hqd; have hcv : c' = 0 := (by omega); subst hcv; clear hcn)
        all_goals
          clear hqd
          go_wp2_with (at_builtin; refine wpList_append1 rfl _ _ 51 rfl w.heap.size 22 i0 (.int .u64 0) 8 Tryz.underlying51 hi hz0 hz1 hz2 rfl _ _ _ rfl hown _ _ rfl rfl (by unfold maxLen; omega) (by omega) hbw.size ?_; intro v' w3 hown3 hg3)
          have hg4 : wr.grownBy w3 (Value.slice x5 z.length c5).ownBlock := hg3
          have hbw3 := Below.grownB hbw hg4 hbw.size hown
          go_roundw
          case rel =>
            refine ⟨i + 1, _, z ++ [s], by omega, by go_num, rfl, by decide, by simp [hzl], okW_snoc hzo hsl, HST2.out, ?_, hbw3⟩
            rw [List.length_append, List.length_singleton, wVals_snoc]
            exact hown3
          case measure => simp [intOf]; omega
    · have hval : valN z = valN x - valN y := by
        have hMM := HM.out
        exact sub3_value hzo HS.out hzl (by omega) (by omega) HYX.out
      have hN := Norm03_any w.heap.size _ z wr (Words.ofRow hown (Nat.le_refl _) hzo) (by omega)
      rw [hval] at hN
      have HN := Lib.hid hN
      clear hval HS hN hzl
      go_wp2_with fail
      refine HN.out.mono ?_
      rintro e w4 ⟨v4, rfl, hv4, hb4⟩
      go_wp2_with fail
      go_ret
      exact ⟨_, rfl, hv4.mono hbw.size, hbw.trans (hb4.mono hbw.size)⟩
end Go.Proofs.YtkfbailpifmdcaaGreatDoor
end
