/- NumE NumF RndA RndB RndC RndD RndE RndF RndG -/
import Derived.Test.YtkfbailpifmdcaaGreatDoorMaf
section
namespace Go.Proofs.YtkfbailpifmdcaaGreatDoor
open Go.RowKit

theorem lost_words {x : List Nat} {n : Nat} (hok : okW x) (h : n / 64 < x.length) : lostN (valN x) n = (!(gw x (n / 64) % 2 ^ (n % 64) == 0) || !(vt x (n / 64) == 0)) := by
  unfold lostN
  have e : 2 ^ n = pw (n / 64) * 2 ^ (n % 64) := by rw [pw_two, ← Nat.pow_add, show 64 * (n / 64) + n % 64 = n by omega]
  have hv := valN_split x (n / 64)
  rw [← vt_take] at hv
  have hlt := vt_lt hok (n / 64)
  have hd : valN (x.drop (n / 64)) = gw x (n / 64) + 18446744073709551616 * valN (x.drop (n / 64 + 1)) := vd_step x (n / 64) h
  have h64 := two64 (k := n % 64) (by omega)
  have hm : valN x % 2 ^ n = vt x (n / 64) + pw (n / 64) * (gw x (n / 64) % 2 ^ (n % 64)) := by
    rw [e, Nat.mod_mul, hv]
    rw [Nat.add_mul_mod_self_left, Nat.mod_eq_of_lt hlt, Nat.add_mul_div_left _ _ (pw_pos _), Nat.div_eq_of_lt hlt, Nat.zero_add, hd, h64, Nat.mul_comm (2 ^ (64 - n % 64)), Nat.mul_assoc, Nat.add_mul_mod_self_left]
  rw [hm]
  have hp := pw_pos (n / 64)
  rw [Bool.eq_iff_iff]
  simp only [Bool.not_eq_true', beq_eq_false_iff_ne, Bool.or_eq_true, ne_eq, Nat.add_eq_zero_iff, Nat.mul_eq_zero]
  have : pw (n / 64) ≠ 0 := by omega
  grind

theorem ne0 (r : Nat) : (((r : Nat) : Int) != 0) = !(r == 0) := by
  rw [Bool.eq_iff_iff, bne_iff_ne]; simp
theorem lost_on {x : List Nat} {r0 i : Nat} (h : (!(r0 == 0) || !(vt x i == 0)) = true) : (!(r0 == 0) || !(vt x (i + 1) == 0)) = true := by
  rw [vt_succ]
  simp only [Bool.or_eq_true, Bool.not_eq_true', beq_eq_false_iff_ne, ne_eq] at *
  omega
theorem lost_new {x : List Nat} {r0 i : Nat} (h : (!(r0 == 0) || !(vt x i == 0)) = false) : (((gw x i : Nat) : Int) != 0) = (!(r0 == 0) || !(vt x (i + 1) == 0)) := by
  rw [ne0, vt_succ]
  simp only [Bool.or_eq_false_iff, Bool.not_eq_false', beq_iff_eq] at h
  obtain ⟨h1, h2⟩ := h
  have hp := pw_pos i
  rw [h1, h2, Nat.zero_add]
  by_cases hg : gw x i = 0
  · simp [hg]
  · have : gw x i * pw i ≠ 0 := Nat.mul_ne_zero hg (by omega)
    have a := beq_eq_false_iff_ne.2 hg
    have b := beq_eq_false_iff_ne.2 this
    rw [a, b]; rfl

theorem mask_pow {x k : Nat} (hx : x < 18446744073709551616) (hk : k < 64) : bits .and .u64 ((x : Nat) : Int) (IntKind.u64.wrap (IntKind.u64.wrap (2 ^ k) - 1)) = ((x % 2 ^ k : Nat) : Int) := by
  have hp : (2 : Nat) ^ k ≤ 2 ^ 63 := Nat.pow_le_pow_right (by decide) (by omega)
  have hp0 := Nat.two_pow_pos k
  have e1 : IntKind.u64.wrap (2 ^ k) = ((2 ^ k : Nat) : Int) := wrapN (by simp) (by omega)
  have e2 : IntKind.u64.wrap (((2 ^ k : Nat) : Int) - 1) = ((2 ^ k - 1 : Nat) : Int) := wrapN (by omega) (by omega)
  rw [e1, e2]
  have := bits_mask .u64 64 (by decide) wraps_u64 k (by omega) ((x : Nat) : Int) (by omega) (by omega)
  have e3 : ((2 ^ k - 1 : Nat) : Int) = 2 ^ k - 1 := by rw [Int.natCast_sub hp0]; simp
  rw [e3, this]; simp

set_option maxRecDepth 100000 in
set_option maxHeartbeats 2000000 in
theorem nshr_any (lo : Nat) (a : Value) (V : Nat) (n : Nat) (w : World) (ha : Num lo w a V) (hl : (limbsOf V).length ≤ 549755813888) (hn : n ≤ 4611686018427387904) :
    Calls Tryz.prog 184 #[a, .int .i64 ((n : Nat) : Int)] w (ShrPost w (V / 2 ^ n) (lostN V n)) := by
  have e1 := valN_limbsOf V
  have e0 := @limbsOf_len_zero V
  have hv1' := ha.words
  clear ha
  generalize limbsOf V = x at *
  have E1 := Lib.hid e1
  have E0 := Lib.hid e0
  clear e1 e0
  have hokx := hv1'.ok
  have HW := Lib.hid hv1'
  obtain ⟨pa, ca, rfl, hca, hcma, _, hxa⟩ := hv1'
  have HXA := Lib.hid hxa
  clear hxa
  by_cases hq : x.length ≤ n / 64
  · have hv : V / 2 ^ n = 0 := by
      apply Nat.div_eq_of_lt
      have h1 := valN_lt hokx
      rw [E1.out, pw_two] at h1
      exact Nat.lt_of_lt_of_le h1 (Nat.pow_le_pow_right (by decide) (by omega))
    have HV := Lib.hid hv
    have hlo : lostN V n = decide (0 < x.length) := by
      have h1 := valN_lt hokx
      rw [E1.out, pw_two] at h1
      have h2 : V < 2 ^ n := Nat.lt_of_lt_of_le h1 (Nat.pow_le_pow_right (by decide) (by omega))
      have h3 := E0.out
      unfold lostN
      rw [Nat.mod_eq_of_lt h2, Bool.eq_iff_iff]
      simp only [Bool.not_eq_true', beq_eq_false_iff_ne, decide_eq_true_eq]
      omega
    have HLO := Lib.hid hlo
    clear hv hlo
    go_enter Tryz.func184, Tryz.ntmps184
    go_wp2
    go_ret2
    refine ⟨_, by rw [HLO.out]; simp; rfl, by rw [HV.out]; exact Num.zero _ _ _ _ (by omega), Below.refl _ _⟩
  · have hq' : n / 64 < x.length := by omega
    obtain ⟨b1, o1, rfl, _, hc1⟩ := HXA.out (n / 64) hq'
    have hg1 := okW_gw hokx (n / 64)
    have hkk : n % 64 < 64 := Nat.mod_lt _ (by decide)
    have hmask := mask_pow (x := gw x (n / 64)) hg1 hkk
    have hlw := lost_words (n := n) hokx hq'
    rw [E1.out] at hlw
    obtain ⟨r0, hr0⟩ : ∃ r, gw x (n / 64) % 2 ^ (n % 64) = r := ⟨_, rfl⟩
    rw [hr0] at hmask hlw
    have HLW := Lib.hid hlw
    clear hr0 hlw hq
    go_enter Tryz.func184, Tryz.ntmps184
    go_wp2_with fail
    go_quiet (fail)
    go_wp2_with fail
    clear hmask
    go_loop [8, 37] (fun u8 u37 => ∃ i : Nat, i ≤ n / 64 ∧ u37 = .int .i64 i ∧ u8 = .bool (!(r0 == 0) || !(vt x i == 0))) (fun _ u37 => n / 64 - (intOf u37).toNat)
    case atStart => exact ⟨0, Nat.zero_le _, rfl, by simp [vt, ne0]⟩
    case round =>
      obtain ⟨i, hi, rfl, rfl⟩ := hrel
      by_cases hlt : i < n / 64
      · obtain ⟨b2, o2, hbo, _, hc⟩ := HXA.out i (by omega)
        have e2 := Option.some.inj hbo
        have e3 : o2 = o1 := by have := congrArg Addr.off e2; exact this.symm
        have e4 : b2 = b1 := by have := congrArg Addr.block e2; exact this.symm
        subst e3; subst e4
        cases hcur : (!(r0 == 0) || !(vt x i == 0))
        · have hnew := lost_new hcur
          have HNEW := Lib.hid hnew
          clear hcur hnew hbo e2
          go_wp2_with fail
          go_round
          case rel => exact ⟨i + 1, by omega, by go_num, by rw [← HNEW.out]⟩
          case measure => simp [intOf]; omega
        · have hnew := lost_on hcur
          have HNEW := Lib.hid hnew
          clear hcur hnew hbo e2
          go_wp2_with fail
          go_round
          case rel => exact ⟨i + 1, by omega, by go_num, by rw [HNEW.out]⟩
          case measure => simp [intOf]; omega
      · obtain rfl : i = n / 64 := by omega
        rw [← HLW.out]
        have hmk := make_words 201 Tryz.underlying201 (x.length - n / 64) (by omega)
        have hwd := HW.out.drop (n / 64) (by omega)
        have hyl : (x.drop (n / 64)).length = x.length - n / 64 := List.length_drop
        have hvd := valN_split x (n / 64)
        have hvl := valN_lt (okW_take hokx (n / 64))
        rw [List.length_take, Nat.min_eq_left (by omega)] at hvl
        generalize hyy : x.drop (n / 64) = y at *
        clear hyy
        have HWD := Lib.hid hwd
        have HYL := Lib.hid hyl
        have HVD := Lib.hid hvd
        have HVL := Lib.hid hvl
        have hoky := hwd.ok
        have hmk' : ∀ w : World, (Instr.makeSlice 201 (.int .i64 (((x.length : Nat) : Int) - ((n : Nat) : Int) / 64)) (.int .i64 (((x.length : Nat) : Int) - ((n : Nat) : Int) / 64))).run Tryz.prog w = .ok (.slice (some ⟨w.heap.size, 0, none⟩) (x.length - n / 64) (x.length - n / 64)) (w.alloc (.cells (wArr (List.replicate (x.length - n / 64) 0)) 22)) := fun w => by
          rw [show ((x.length : Nat) : Int) - ((n : Nat) : Int) / 64 = ((x.length - n / 64 : Nat) : Int) by omega]; exact hmk w
        clear hwd hyl hvd hvl HXA hmk
        go_wp2_with fail
        clear hmk'
        go_loopw [54] (fun u54 wr => ShrRel w.heap.size w y (n % 64) u54 wr) (fun u54 _ => x.length - n / 64 - (intOf u54).toNat)
        case atStart => exact ⟨0, List.replicate (x.length - n / 64) 0, Nat.zero_le _, rfl, by rw [HYL.out]; simp, okW_replicate _, by simp [vt, pw_zero], Blk.new _ _ _, (below_drewN _ _ _).alloc (Nat.le_refl _) _⟩
        case round =>
          obtain ⟨i, z, hi, rfl, hzl, hzo, hsum, hz, hbl⟩ := hrel
          have HS := Lib.hid hsum
          have HZ := Lib.hid hzl
          clear hsum hzl
          have hyl := HYL.out
          rw [hyl] at hi
          clear hyl
          by_cases hlt : i < x.length - n / 64
          · obtain ⟨_, hcy⟩ := (HWD.out.call hbl).cell' i (by have := HYL.out; omega)
            rw [Nat.add_assoc, Nat.add_comm (n / 64) i] at hcy
            have hyi := okW_gw hoky i
            have zc := hz.cell i _ (wArr_get z i (by have := HZ.out; have := HYL.out; omega))
            have zf := hz.free i
            have hyl := HYL.out
            by_cases hk0 : n % 64 = 0
            · have hkb : ¬ (0 < n % 64) := by omega
              have hs2 : gw y i / 2 ^ (n % 64) = gw y i / 2 ^ (n % 64) + gw y (i + 1) % 2 ^ (n % 64) * 2 ^ (64 - n % 64) := by rw [hk0]; simp [Nat.mod_one]
              have HS2 := Lib.hid hs2
              clear hk0 hs2 hyl
              go_wp2_with fail
              go_roundw
              case rel => exact shr_close (by omega) (by have := HYL.out; omega) HZ.out hzo (div_pow_lt hyi _) HS2.out HS.out (blk_setE hz (shr_cast _ _)) (hbl.setCell (Nat.le_refl _) _)
              case measure => simp [intOf]; omega
            · by_cases hnx : i + 1 < x.length - n / 64
              · have hkb : 0 < n % 64 := by omega
                have hbl2 := hbl.setCell (p := ⟨w.heap.size, i, none⟩) (Nat.le_refl _) (.int .u64 (((gw y i : Nat) : Int) / 2 ^ (n % 64)))
                obtain ⟨_, hcy2⟩ := (HWD.out.call hbl2).cell' (i + 1) (by omega)
                rw [Nat.add_assoc, Nat.add_comm (n / 64) (i + 1), show i + 1 + n / 64 = i + n / 64 + 1 by omega] at hcy2
                have hz2 := blk_setE (i := i) hz (shr_cast (gw y i) (n % 64))
                have zc2 := hz2.cell i _ (wArr_get _ i (by have := HZ.out; rw [List.length_set]; omega))
                rw [gw_set_same _ _ _ (by have := HZ.out; omega)] at zc2
                have zf2 := hz2.free i
                have hyi2 := okW_gw hoky (i + 1)
                clear hk0 hyl
                go_wp2_with fail
                go_region
                all_goals (go_wp2_with fail)
                go_roundw
                case rel => exact shr_close (by omega) (by have := HYL.out; omega) HZ.out hzo (shr_or_lt hyi (by omega)) rfl HS.out (by have := blk_setE (i := i) hz2 (shr_or hyi hkb hkk (b := gw y (i + 1))); rw [List.set_set] at this; exact this) (((hbl2).setCell (p := ⟨w.heap.size, i, none⟩) (Nat.le_refl _) _).drew)
                case measure => simp [intOf]; omega
              · have hkb : 0 < n % 64 := by omega
                have hs2 : gw y i / 2 ^ (n % 64) = gw y i / 2 ^ (n % 64) + gw y (i + 1) % 2 ^ (n % 64) * 2 ^ (64 - n % 64) := by rw [gw_ge (l := y) (i := i + 1) (by omega)]; simp
                have HS2 := Lib.hid hs2
                clear hk0 hs2 hyl
                go_wp2_with fail
                go_roundw
                case rel => exact shr_close (by omega) (by have := HYL.out; omega) HZ.out hzo (div_pow_lt hyi _) HS2.out HS.out (blk_setE hz (shr_cast _ _)) (hbl.setCell (Nat.le_refl _) _)
                case measure => simp [intOf]; omega
          · obtain rfl : i = x.length - n / 64 := by omega
            have hyl := HYL.out
            have hw2 := Words.ofBlk_all (lo := w.heap.size) hz (Nat.le_refl _) hzo (by have := HZ.out; omega)
            rw [HZ.out, hyl] at hw2
            have hval : valN z = V / 2 ^ n := by
              have h1 := HS.out
              rw [vt_all z _ (by have := HZ.out; omega), vt_all y _ (by omega), gw_ge (l := y) (i := x.length - n / 64) (by omega)] at h1
              exact shr_val (by rw [← E1.out]; exact HVD.out) HVL.out (by rw [h1]; simp)
            have HV := Lib.hid hval
            clear hval hyl
            go_wp2_with fail
            refine (norm_any w.heap.size _ _ _ hw2).mono ?_
            rintro e w3 ⟨v, rfl, hv, rfl⟩
            rw [HV.out] at hv
            go_wp2
            go_ret2
            exact ⟨_, rfl, hv, hbl⟩
end Go.Proofs.YtkfbailpifmdcaaGreatDoor
end

section
namespace Go.Proofs.YtkfbailpifmdcaaGreatDoor
open Go.RowKit

theorem div_limbs_le (V k c : Nat) (h : (limbsOf V).length ≤ c) : (limbsOf (V / k)).length ≤ c :=
  Nat.le_trans (limbsOf_len (Nat.lt_of_le_of_lt (Nat.div_le_self _ _) (limbsOf_lt V))) h

set_option maxHeartbeats 1000000 in
theorem NShr_any (lo : Nat) (a : Value) (l : List Nat) (n : Nat) (w : World) (ha : Words lo w a l) (hl : (limbsOf (valN l)).length ≤ 1024) (hn : n ≤ 4611686018427387904) :
    Calls Tryz.prog 175 #[a, .int .i64 ((n : Nat) : Int)] w fun e w' => ∃ v, e = .returned (.tuple #[v, .bool (lostN (valN l) n), .int .i64 0]) ∧ Num w.heap.size w' v (valN l / 2 ^ n) ∧ Below w.heap.size w w' := by
  have hdl := div_limbs_le (valN l) (2 ^ n) _ hl
  go_enter Tryz.func175, Tryz.ntmps175
  go_wp2_with fail
  refine (one_any lo _ l _ ha hl).mono ?_
  rintro e w1 ⟨v1, rfl, hv1, hw⟩
  subst hw
  go_wp2_with fail
  refine (nshr_any lo _ (valN l) n _ hv1 (by omega) hn).mono ?_
  rintro e w2 ⟨v2, rfl, hv2, hb2⟩
  go_wp2_with fail
  refine (own_any _ _ _ _ hv2.words (by omega)).mono ?_
  rintro e w3 ⟨v3, rfl, hv3, hb3⟩
  go_wp2
  refine bodyPost_ret (v := .tuple #[v3, .bool (lostN (valN l) n), .int .i64 0]) (by simp [results, Tryz.results175, go_sem]; try rfl) rfl ⟨_, rfl, Words.mono hv3 hb2.size, hb2.trans (hb3.mono hb2.size)⟩
end Go.Proofs.YtkfbailpifmdcaaGreatDoor
end

section
namespace Go.Proofs.YtkfbailpifmdcaaGreatDoor
open Go.RowKit

def fitsB (l : List Nat) (x : Int) : Bool := decide ((limbsOf (valN l)).length ≤ 1024 ∧ -32768 ≤ x ∧ x ≤ 32768)

theorem Fits_fit (lo : Nat) (v : Value) (neg : Bool) (l : List Nat) (x : Int) (w : World) (hd : DyW lo w v neg l x) :
    Calls Tryz.prog 165 #[v] w fun e w' => e = .returned (.bool (fitsB l x)) ∧ Below w.heap.size w w' := Fits_any lo v neg l x w hd

set_option maxHeartbeats 1000000 in
theorem right_any (lo : Nat) (v : Value) (neg : Bool) (l : List Nat) (x : Int) (w : World) (hd : DyW lo w v neg l x) :
    Calls Tryz.prog 157 #[v] w fun e w' => e = .returned (.bool (fitsB l x)) ∧ Below w.heap.size w w' := by
  obtain ⟨a, rfl, ha⟩ := hd
  obtain ⟨x1, n1, c1, rfl⟩ := ha.slice
  go_enter Tryz.func157, Tryz.ntmps157
  have hba := (Below.refl w.heap.size w).alloc (Nat.le_refl _) (.cells #[.bool neg, .slice x1 n1 c1, .int .i64 x] 186)
  go_wp2_with fail
  refine (Fits_fit lo _ neg l x _ ⟨_, rfl, ha.call hba⟩).mono ?_
  rintro e w1 ⟨rfl, hb⟩
  go_wp2
  go_ret
  exact ⟨rfl, hba.trans (hb.mono hba.size)⟩

set_option maxHeartbeats 1000000 in
theorem Check_any (lo : Nat) (v : Value) (neg : Bool) (l : List Nat) (x : Int) (w : World) (hd : DyW lo w v neg l x) :
    Calls Tryz.prog 145 #[v] w fun e w' => e = .returned (.int .i64 (if fitsB l x then 0 else 2)) ∧ Below w.heap.size w w' := by
  obtain ⟨a, rfl, ha⟩ := hd
  obtain ⟨x1, n1, c1, rfl⟩ := ha.slice
  have hr := fun w' h => right_any lo (.agg #[.bool neg, .slice x1 n1 c1, .int .i64 x]) neg l x w' h
  generalize hf : fitsB l x = f at *
  clear hf
  go_enter Tryz.func145, Tryz.ntmps145
  have hba := (Below.refl w.heap.size w).alloc (Nat.le_refl _) (.cells #[.bool neg, .slice x1 n1 c1, .int .i64 x] 62)
  go_wp2_with fail
  refine (hr _ ⟨_, rfl, ha.call hba⟩).mono ?_
  rintro e w1 ⟨rfl, hb⟩
  have hbb := hba.trans (hb.mono hba.size)
  cases f
  · go_wp2
    go_ret
    exact ⟨rfl, hbb⟩
  · go_wp2
    go_ret
    exact ⟨rfl, hbb⟩
end Go.Proofs.YtkfbailpifmdcaaGreatDoor
end

section
namespace Go.Proofs.YtkfbailpifmdcaaGreatDoor
open Go.RowKit

/-- An amount: a number in its one form, and an exponent. -/
def Am (lo : Nat) (w : World) (v : Value) (m : Nat) (x : Int) : Prop := ∃ a, v = .agg #[a, .int .i64 x] ∧ Num lo w a m
theorem Am.call {lo : Nat} {w w' : World} {v : Value} {m : Nat} {x : Int} (h : Am lo w v m x) (hb : Below w.heap.size w w') : Am lo w' v m x := by
  obtain ⟨a, h1, h2⟩ := h; exact ⟨a, h1, h2.call hb⟩

set_option maxHeartbeats 1000000 in
theorem top_any (lo : Nat) (v : Value) (m : Nat) (x : Int) (w : World) (hd : Am lo w v m x) (hl : (limbsOf m).length ≤ 1024) (he : -4611686018427387904 ≤ x) (he2 : x ≤ 4611686018427387904) :
    Calls Tryz.prog 167 #[v] w fun e w' => e = .returned (.int .i64 (((bl m : Nat) : Int) + x)) ∧ Below w.heap.size w w' := by
  obtain ⟨a, rfl, ha⟩ := hd
  have hbl := bl_words (okW_limbsOf m)
  rw [valN_limbsOf] at hbl
  have hlen := NLen_any lo a (limbsOf m)
  rw [valN_limbsOf] at hlen
  obtain ⟨x1, n1, c1, rfl⟩ := ha.slice
  go_enter Tryz.func167, Tryz.ntmps167
  have hba := (Below.refl w.heap.size w).alloc (Nat.le_refl _) (.cells #[.slice x1 n1 c1, .int .i64 x] 188)
  go_wp2_with fail
  refine (hlen _ (ha.call hba) hl).mono ?_
  rintro e w1 ⟨rfl, hw⟩
  subst hw
  go_wp2
  go_ret
  exact ⟨rfl, hba⟩

set_option maxHeartbeats 1000000 in
theorem zero_any (lo : Nat) (v : Value) (m : Nat) (x : Int) (w : World) (hd : Am lo w v m x) :
    Calls Tryz.prog 161 #[v] w fun e w' => e = .returned (.bool (m == 0)) ∧ Below w.heap.size w w' := by
  obtain ⟨a, rfl, ha⟩ := hd
  have hz := Lib.hid (@limbsOf_len_zero m)
  obtain ⟨x1, c1, rfl, _, _, _, _⟩ := ha
  go_enter Tryz.func161, Tryz.ntmps161
  have hba := (Below.refl w.heap.size w).alloc (Nat.le_refl _) (.cells #[.slice x1 (limbsOf m).length c1, .int .i64 x] 188)
  go_wp2
  go_ret
  exact ⟨ret_bool (by rw [Bool.eq_iff_iff, beq_iff_eq, beq_iff_eq]; have := hz.out; omega), hba⟩

set_option maxHeartbeats 1000000 in
theorem word_any (lo : Nat) (a : Value) (m : Nat) (w : World) (ha : Num lo w a m) :
    Calls Tryz.prog 174 #[a] w fun e w' => e = .returned (.int .u64 ((m % 18446744073709551616 : Nat) : Int)) ∧ w = w' := by
  obtain ⟨x1, c1, rfl, _, _, _, hx⟩ := ha
  by_cases h0 : m = 0
  · subst h0
    have e0 : (limbsOf 0).length = 0 := by rw [limbsOf_zero]; rfl
    clear hx
    go_enter Tryz.func174, Tryz.ntmps174
    go_wp2
    go_ret
    exact ⟨rfl, rfl⟩
  · have hL : (limbsOf m).length ≠ 0 := by rw [Ne, limbsOf_len_zero]; exact h0
    obtain ⟨b, off, rfl, _, hc⟩ := hx 0 (by omega)
    have hg : gw (limbsOf m) 0 = m % 18446744073709551616 := by rw [limbsOf_pos h0]; rfl
    rw [hg, Nat.add_zero] at hc
    have hb : ((((limbsOf m).length : Nat) : Int) == 0) = false := beq_eq_false_iff_ne.2 (by omega)
    have hb0 : (0 : Int) < (((limbsOf m).length : Nat) : Int) := by omega
    obtain ⟨r, hr⟩ : ∃ r, m % 18446744073709551616 = r := ⟨_, rfl⟩
    rw [hr] at hc ⊢
    clear hx hg hr hL h0
    go_enter Tryz.func174, Tryz.ntmps174
    go_wp2
    go_ret
    exact ⟨rfl, rfl⟩
end Go.Proofs.YtkfbailpifmdcaaGreatDoor
end

section
namespace Go.Proofs.YtkfbailpifmdcaaGreatDoor
open Go.RowKit

set_option maxHeartbeats 1000000 in
theorem of_any (lo : Nat) (v : Value) (neg : Bool) (l : List Nat) (x : Int) (w : World) (hd : DyW lo w v neg l x) (hl : (limbsOf (valN l)).length ≤ 1024) :
    Calls Tryz.prog 158 #[v] w fun e w' => ∃ a, e = .returned a ∧ Am w.heap.size w' a (valN l) x ∧ Below w.heap.size w w' := by
  obtain ⟨a, rfl, ha⟩ := hd
  obtain ⟨x1, n1, c1, rfl⟩ := ha.slice
  go_enter Tryz.func158, Tryz.ntmps158
  have hb1 := (Below.refl w.heap.size w).alloc (Nat.le_refl _) (.cells #[.bool neg, .slice x1 n1 c1, .int .i64 x] 62)
  have hb2 := hb1.alloc (by simp) (.cells #[.slice none 0 0, .int .i64 0] 188)
  go_wp2_with fail
  refine (NNorm_any lo _ l _ (ha.call hb2) hl).mono ?_
  rintro e w1 ⟨v1, rfl, hv1, hb3⟩
  obtain ⟨x2, n2, c2, rfl⟩ := hv1.slice
  have hp := ((Blk.new w #[.bool neg, .slice x1 n1 c1, .int .i64 x] 62).alloc (.cells #[.slice none 0 0, .int .i64 0] 188)).call hb3
  have hq0 := (Blk.new (w.alloc (.cells #[.bool neg, .slice x1 n1 c1, .int .i64 x] 62)) #[.slice none 0 0, .int .i64 0] 188).call hb3
  have hq : Blk w1 (w.heap.size + 1) #[.slice none 0 0, .int .i64 0] 188 := by simpa using hq0
  have p2 := hp.cell 2 _ rfl
  have q0 := hq.cell 0 _ rfl
  have q1 := hq.cell 1 _ rfl
  have f0 := hq.free 0
  have f1 := hq.free 1
  have hb4 := hb2.trans (hb3.mono hb2.size)
  go_wp2
  have hd3 := (hq.set 0 (.slice x2 n2 c2)).set 1 (.int .i64 x)
  have o0 := hd3.cell 0 _ rfl
  have o1 := hd3.cell 1 _ rfl
  refine bodyPost_ret (v := .agg #[.slice x2 n2 c2, .int .i64 x]) (by simp [results, Tryz.results158, go_sem, o0, o1]; try rfl) rfl ⟨_, rfl, ⟨_, rfl, ?_⟩, (hb4.setCell (by simp) _).setCell (by simp) _⟩
  exact Num.mono ((hv1.gb (gb_set _ _ _ _ _) (by simp)).gb (gb_set _ _ _ _ _) (by simp)) (by simp; omega)
end Go.Proofs.YtkfbailpifmdcaaGreatDoor
end

section
namespace Go.Proofs.YtkfbailpifmdcaaGreatDoor
open Go.RowKit

/-- The amount in units of 2^e, rounded; and whether anything was lost. -/
def upB (m n : Nat) : Bool := (m / 2 ^ (n - 1) % 2 == 1) && (decide (tz m < n - 1) || (m / 2 ^ n % 18446744073709551616 % 2 == 1))
def atM (m n : Nat) : Nat := (m / 2 ^ n % 18446744073709551616 + (if upB m n then 1 else 0)) % 18446744073709551616

theorem at1_any (b : Nat) (up : Bool) (q : Nat) (w : World) (hq : q < 18446744073709551616) (hb : w.cell? ⟨b, 0, none⟩ = some (.int .u64 ((q : Nat) : Int))) :
    Calls Tryz.prog 178 #[.bool up, .pointer (some ⟨b, 0, none⟩)] w fun en w' => en = .returned (.int .u64 (((q + (if up then 1 else 0)) % 18446744073709551616 : Nat) : Int)) ∧ w = w' := by
  go_enter Tryz.func178, Tryz.ntmps178
  go_wp2
  · exact bodyPost_ret (v := .int .u64 (((q + 1) % 18446744073709551616 : Nat) : Int)) (by simp [results, Tryz.results178, go_sem, IntKind.wrap, IntKind.signed]) rfl ⟨by simp, rfl⟩
  all_goals exact bodyPost_ret (v := .int .u64 ((q : Nat) : Int)) (by simp [results, Tryz.results178, go_sem]) rfl ⟨by have h2 : ((q : Nat) : Int) % 18446744073709551616 = q := by { omega }; simp [h2], rfl⟩

set_option maxRecDepth 100000 in
set_option maxHeartbeats 2000000 in
theorem at_up (lo : Nat) (v : Value) (m : Nat) (x e : Int) (w : World) (hd : Am lo w v m x) (hl : (limbsOf m).length ≤ 1024) (he : -1000000 ≤ x) (he2 : x ≤ 1000000) (he3 : -1000000 ≤ e) (he4 : e ≤ 1000000) (hxe : x < e) (hT : TabW w) :
    Calls Tryz.prog 168 #[v, .int .i64 e] w fun en w' => en = .returned (.tuple #[.int .u64 ((atM m (e - x).toNat : Nat) : Int), .bool (lostN m (e - x).toNat)]) ∧ Below w.heap.size w w' := by
  obtain ⟨a, rfl, ha⟩ := hd
  obtain ⟨x1, n1, c1, rfl⟩ := ha.slice
  obtain ⟨n, hn⟩ : ∃ n : Nat, (e - x).toNat = n := ⟨_, rfl⟩
  have hne : e - x = ((n : Nat) : Int) := by omega
  rw [hn]
  have hn0 : 0 < n := by omega
  clear hn
  go_enter Tryz.func168, Tryz.ntmps168
  have hb1 := (Below.refl w.heap.size w).alloc (Nat.le_refl _) (.cells #[.slice x1 n1 c1, .int .i64 x] 188)
  go_wp2_with fail
  have hshr := NShr_any lo (.slice x1 n1 c1) (limbsOf m) n
  have hbit := NBit_any lo (.slice x1 n1 c1) (limbsOf m) (n - 1)
  have hlow := NLow_any lo (.slice x1 n1 c1) (limbsOf m)
  rw [valN_limbsOf] at hshr hbit hlow
  have HBIT := Lib.hid hbit
  have HLOW := Lib.hid hlow
  clear hbit hlow
  refine (hshr _ (ha.call hb1) hl (by omega)).mono ?_
  rintro en w2 ⟨v2, rfl, hv2, hb2⟩
  clear hshr
  have hb12 := hb1.trans (hb2.mono hb1.size)
  obtain ⟨x2, n2, c2, rfl⟩ := hv2.slice
  have hd2 := ((Blk.new w #[.slice x1 n1 c1, .int .i64 x] 188)).call hb2
  have d0 := hd2.cell 0 _ rfl
  have d1 := hd2.cell 1 _ rfl
  go_wp2_with fail
  refine (word_any _ _ _ _ hv2).mono ?_
  rintro en w3 ⟨rfl, hw⟩
  subst hw
  obtain ⟨q, hq⟩ : ∃ q, m / 2 ^ n % 18446744073709551616 = q := ⟨_, rfl⟩
  rw [hq]
  have HQ := Lib.hid hq
  clear hq
  have hd3 := hd2.alloc (.cells #[.int .u64 ((q : Nat) : Int)] 22)
  have g0 := hd3.cell 0 _ rfl
  have g1 := hd3.cell 1 _ rfl
  have hnn : ((n : Nat) : Int) - 1 = ((n - 1 : Nat) : Int) := by omega
  go_wp2_with fail
  have hb3 : Below w.heap.size w (w2.alloc (.cells #[.int .u64 ((q : Nat) : Int)] 22)) := hb12.alloc (by have := hb12.size; omega) _
  refine (HBIT.out _ (ha.call hb3) hl (by omega)).mono ?_
  rintro en w4 ⟨rfl, hw⟩
  subst hw
  go_wp2_with fail
  refine (HLOW.out _ (ha.call hb3) hl (hT.call hb3)).mono ?_
  rintro en w5 ⟨rfl, hw⟩
  subst hw
  have hmf : ∀ (fn : Fn) (first cap : Array Value) (w : World), (Instr.makeFunc fn first cap).run Tryz.prog w = .ok (.func fn first cap) w := fun _ _ _ _ => rfl
  have hcb : (w2.alloc (.cells #[.int .u64 ((q : Nat) : Int)] 22)).cell? ⟨w2.heap.size, 0, none⟩ = some (.int .u64 ((q : Nat) : Int)) := World.cell?_alloc_at _ _ _ 0 rfl
  have hq64 : q < 18446744073709551616 := by have := HQ.out; omega
  have hand : bits BinOp.and IntKind.u64 ((q : Nat) : Int) 1 = ((q % 2 : Nat) : Int) := and1 q hq64
  go_wp2_with fail
  all_goals refine (at1_any _ _ q _ hq64 hcb).mono ?_
  all_goals rintro en w6 ⟨rfl, hw⟩
  all_goals subst hw
  all_goals go_wp2
  · have hu : upB m n = true := by
      simp only [upB, HQ.out, ‹m / 2 ^ (n - 1) % 2 = 1›]
      simp
      omega
    have hk : atM m n = (q + 1) % 18446744073709551616 := by simp only [atM, hu, HQ.out, if_true]
    exact bodyPost_ret (v := .tuple #[.int .u64 (((q + 1) % 18446744073709551616 : Nat) : Int), .bool (lostN m n)]) (by simp [results, Tryz.results168, go_sem]; try rfl) rfl ⟨by rw [hk], hb3⟩
  · have hu : upB m n = false := by
      simp only [upB, HQ.out, ‹m / 2 ^ (n - 1) % 2 = 1›]
      simp
      omega
    have hk : atM m n = q := by simp only [atM, hu, HQ.out]; simp; omega
    have hq2 : ((q : Nat) : Int) % 18446744073709551616 = q := by omega
    exact bodyPost_ret (v := .tuple #[.int .u64 ((q : Nat) : Int), .bool (lostN m n)]) (by simp [results, Tryz.results168, go_sem, hq2]; try rfl) rfl ⟨by rw [hk], hb3⟩
  · have hu : upB m n = true := by
      simp only [upB, HQ.out, ‹m / 2 ^ (n - 1) % 2 = 1›]
      simp
      omega
    have hk : atM m n = (q + 1) % 18446744073709551616 := by simp only [atM, hu, HQ.out, if_true]
    exact bodyPost_ret (v := .tuple #[.int .u64 (((q + 1) % 18446744073709551616 : Nat) : Int), .bool (lostN m n)]) (by simp [results, Tryz.results168, go_sem]; try rfl) rfl ⟨by rw [hk], hb3⟩
  · have hu : upB m n = false := by
      simp only [upB]
      simp [‹¬ m / 2 ^ (n - 1) % 2 = 1›]
    have hk : atM m n = q := by simp only [atM, hu, HQ.out]; simp; omega
    have hq2 : ((q : Nat) : Int) % 18446744073709551616 = q := by omega
    exact bodyPost_ret (v := .tuple #[.int .u64 ((q : Nat) : Int), .bool (lostN m n)]) (by simp [results, Tryz.results168, go_sem, hq2]; try rfl) rfl ⟨by rw [hk], hb3⟩
end Go.Proofs.YtkfbailpifmdcaaGreatDoor
end

section
namespace Go.Proofs.YtkfbailpifmdcaaGreatDoor
open Go.RowKit

theorem limbs_small {m : Nat} (h : m < 18446744073709551616) : (limbsOf m).length ≤ 1 := by
  exact limbsOf_len (by simpa [pw] using h)

set_option maxRecDepth 100000 in
set_option maxHeartbeats 2000000 in
theorem at_down (lo : Nat) (v : Value) (m : Nat) (x e : Int) (w : World) (hd : Am lo w v m x) (hxe : e ≤ x) (hn : (x - e).toNat ≤ 65536) (hr : m * 2 ^ (x - e).toNat < 18446744073709551616) :
    Calls Tryz.prog 168 #[v, .int .i64 e] w fun en w' => en = .returned (.tuple #[.int .u64 ((m * 2 ^ (x - e).toNat : Nat) : Int), .bool false]) ∧ Below w.heap.size w w' := by
  obtain ⟨a, rfl, ha⟩ := hd
  obtain ⟨x1, n1, c1, rfl⟩ := ha.slice
  obtain ⟨n, hnn⟩ : ∃ n : Nat, (x - e).toNat = n := ⟨_, rfl⟩
  have hne : x - e = ((n : Nat) : Int) := by omega
  rw [hnn] at hn hr ⊢
  clear hnn
  have hm : m < 18446744073709551616 := by
    have := Nat.le_mul_of_pos_right m (Nat.two_pow_pos n)
    omega
  have hl1 := limbs_small hm
  have hl2 := limbs_small hr
  go_enter Tryz.func168, Tryz.ntmps168
  have hb1 := (Below.refl w.heap.size w).alloc (Nat.le_refl _) (.cells #[.slice x1 n1 c1, .int .i64 x] 188)
  go_wp2_with fail
  have hshl := NShl_any lo (.slice x1 n1 c1) (limbsOf m) n
  rw [valN_limbsOf] at hshl
  refine (hshl _ (ha.call hb1) (by omega) hn (by omega)).mono ?_
  rintro en w2 ⟨v2, rfl, hv2, hb2⟩
  clear hshl
  have hb12 := hb1.trans (hb2.mono hb1.size)
  obtain ⟨x2, n2, c2, rfl⟩ := hv2.slice
  go_wp2_with fail
  refine (word_any _ _ _ _ hv2).mono ?_
  rintro en w3 ⟨rfl, hw⟩
  subst hw
  rw [Nat.mod_eq_of_lt hr]
  go_wp2
  exact bodyPost_ret (v := .tuple #[.int .u64 ((m * 2 ^ n : Nat) : Int), .bool false]) (by simp [results, Tryz.results168, go_sem]; try rfl) rfl ⟨rfl, hb12⟩
end Go.Proofs.YtkfbailpifmdcaaGreatDoor
end

section
namespace Go.Proofs.YtkfbailpifmdcaaGreatDoor
open Go.RowKit

/-- The amount in units of 2^e, rounded; and whether anything was lost. -/
def atP (m : Nat) (x e : Int) : Nat × Bool := if e ≤ x then (m * 2 ^ (x - e).toNat, false) else (atM m (e - x).toNat, lostN m (e - x).toNat)
def topP (m : Nat) (x : Int) : Int := ((bl m : Nat) : Int) + x
def tinyB (m : Nat) (x : Int) : Bool := if m = 0 then false else if topP m x ≠ -1022 then decide (topP m x < -1022) else decide ((atP m x (topP m x - 53)).1 < 9007199254740992)

theorem bl_words_le {m k : Nat} (h : (limbsOf m).length ≤ k) : bl m ≤ 64 * k := by
  have h1 := limbsOf_lt m
  have h2 := pw_le h
  rw [pw_two k] at h2
  exact bl_le (Nat.lt_of_lt_of_le h1 h2)

theorem at_room {m : Nat} {x e : Int} (h1 : topP m x - 53 ≤ e) (h2 : e ≤ x) (h0 : m ≠ 0) : m * 2 ^ (x - e).toNat < 9007199254740992 ∧ (x - e).toNat ≤ 65536 := by
  unfold topP at h1
  have hb := bl_pos h0
  have h3 : (x - e).toNat ≤ 53 - bl m ∧ bl m ≤ 53 := by omega
  have h4 := bl_lt m
  have h5 : m * 2 ^ (x - e).toNat < 2 ^ bl m * 2 ^ (53 - bl m) :=
    Nat.lt_of_lt_of_le (Nat.mul_lt_mul_of_pos_right h4 (Nat.two_pow_pos _)) (Nat.mul_le_mul_left _ (Nat.pow_le_pow_right (by decide) h3.1))
  rw [← Nat.pow_add, show bl m + (53 - bl m) = 53 by omega] at h5
  exact ⟨by omega, by omega⟩

theorem atM_lt (m n : Nat) : atM m n < 18446744073709551616 := Nat.mod_lt _ (by decide)
theorem atP_lt {m : Nat} {x e : Int} (h1 : topP m x - 53 ≤ e) (h0 : m ≠ 0) : (atP m x e).1 < 18446744073709551616 := by
  unfold atP
  split
  · have := (at_room h1 (by assumption) h0).1; simp only; omega
  · exact atM_lt _ _

theorem at_any (lo : Nat) (v : Value) (m : Nat) (x e : Int) (w : World) (hd : Am lo w v m x) (hl : (limbsOf m).length ≤ 1024) (he : -1000000 ≤ x) (he2 : x ≤ 1000000) (he3 : -1000000 ≤ e) (he4 : e ≤ 1000000) (hT : TabW w) (h0 : m ≠ 0) (ht : topP m x - 53 ≤ e) :
    Calls Tryz.prog 168 #[v, .int .i64 e] w fun en w' => en = .returned (.tuple #[.int .u64 (((atP m x e).1 : Nat) : Int), .bool (atP m x e).2]) ∧ Below w.heap.size w w' := by
  unfold atP
  by_cases h : e ≤ x
  · rw [if_pos h]
    obtain ⟨h1, h2⟩ := at_room ht h h0
    exact at_down lo v m x e w hd h h2 (by omega)
  · rw [if_neg h]
    exact at_up lo v m x e w hd hl he he2 he3 he4 (by omega) hT

set_option maxRecDepth 100000 in
set_option maxHeartbeats 2000000 in
theorem tiny_any (lo : Nat) (v : Value) (m : Nat) (x : Int) (w : World) (hd : Am lo w v m x) (hl : (limbsOf m).length ≤ 1024) (he : -900000 ≤ x) (he2 : x ≤ 900000) (hT : TabW w) :
    Calls Tryz.prog 160 #[v] w fun en w' => en = .returned (.bool (tinyB m x)) ∧ Below w.heap.size w w' := by
  have hbl := bl_words_le hl
  obtain ⟨t, ht⟩ : ∃ t, topP m x = t := ⟨_, rfl⟩
  have ht' : ((bl m : Nat) : Int) + x = t := ht
  have HAT := Lib.hid (fun lo' w h1 h2 h0 h3 h4 h5 => at_any lo' v m x (t - 53) w h1 hl (by omega) (by omega) h3 h4 h2 h0 h5)
  have hpost : tinyB m x = if m = 0 then false else if t ≠ -1022 then decide (t < -1022) else decide ((atP m x (t - 53)).1 < 9007199254740992) := by unfold tinyB; rw [ht]
  obtain ⟨q, hq⟩ : ∃ q, (atP m x (t - 53)).1 = q := ⟨_, rfl⟩
  obtain ⟨s, hs⟩ : ∃ q, (atP m x (t - 53)).2 = q := ⟨_, rfl⟩
  rw [hq] at hpost
  obtain ⟨r, hr⟩ : ∃ r, tinyB m x = r := ⟨_, rfl⟩
  rw [hr] at hpost ⊢
  have HR := Lib.hid hpost
  rw [hq, hs] at HAT
  clear hr hpost
  have HT' := Lib.hid ht'
  have hT2 := Lib.hid ht
  clear hq hs ht ht'
  obtain ⟨a, rfl, ha⟩ := hd
  obtain ⟨x1, n1, c1, rfl⟩ := ha.slice
  go_enter Tryz.func160, Tryz.ntmps160
  have hb1 := (Below.refl w.heap.size w).alloc (Nat.le_refl _) (.cells #[.slice x1 n1 c1, .int .i64 x] 188)
  have hd1 : Am lo (w.alloc (.cells #[.slice x1 n1 c1, .int .i64 x] 188)) (.agg #[.slice x1 n1 c1, .int .i64 x]) m x := ⟨_, rfl, ha.call hb1⟩
  go_wp2_with fail
  refine (zero_any _ _ m x _ hd1).mono ?_
  rintro e w1 ⟨rfl, hb2⟩
  have hb12 := hb1.trans (hb2.mono hb1.size)
  have hk1 := ((Blk.new w #[.slice x1 n1 c1, .int .i64 x] 188)).call hb2
  have d0 := hk1.cell 0 _ rfl
  have d1 := hk1.cell 1 _ rfl
  by_cases h0 : m = 0
  · have er := HR.out
    rw [if_pos h0] at er
    subst er
    have e1 : (m == 0) = true := by rw [h0]; rfl
    rw [e1]
    clear e1 HAT HT' hT2 HR
    go_wp2
    go_ret
    exact ⟨rfl, hb12⟩
  have e1 : (m == 0) = false := beq_eq_false_iff_ne.2 h0
  rw [e1]
  clear e1
  have hd2 : Am lo w1 (.agg #[.slice x1 n1 c1, .int .i64 x]) m x := ⟨_, rfl, ha.call hb12⟩
  go_wp2_with fail
  refine (top_any lo _ m x _ hd2 hl (by omega) (by omega)).mono ?_
  rintro e w2 ⟨rfl, hb3⟩
  have hb13 := hb12.trans (hb3.mono hb12.size)
  have hk2 := hk1.call hb3
  have g0 := hk2.cell 0 _ rfl
  have g1 := hk2.cell 1 _ rfl
  rw [HT'.out]
  have hd3 : Am lo w2 (.agg #[.slice x1 n1 c1, .int .i64 x]) m x := ⟨_, rfl, ha.call hb13⟩
  by_cases h1 : t = -1022
  · subst h1
    have er := HR.out
    rw [if_neg h0, if_neg (by decide)] at er
    clear HR
    go_wp2_with fail
    refine (HAT.out lo w2 hd3 (hT.call hb13) h0 (by decide) (by decide) (by rw [hT2.out]; decide)).mono ?_
    rintro e w3 ⟨rfl, hb4⟩
    have hb14 := hb13.trans (hb4.mono hb13.size)
    clear HAT HT' hT2
    go_wp2
    go_ret
    exact ⟨ret_bool ((decide_eq_decide.2 (by omega)).trans er.symm), hb14⟩
  · have er := HR.out
    rw [if_neg h0, if_pos h1] at er
    subst er
    clear HR
    have e1 : (t == -1022) = false := beq_eq_false_iff_ne.2 h1
    clear HAT HT' hT2
    go_wp2
    go_ret
    exact ⟨rfl, hb13⟩
end Go.Proofs.YtkfbailpifmdcaaGreatDoor
end

section
namespace Go.Proofs.YtkfbailpifmdcaaGreatDoor
open Go.RowKit

theorem atP_le {m : Nat} {x e : Int} (h1 : topP m x - 53 ≤ e) (h0 : m ≠ 0) : (atP m x e).1 ≤ 9007199254740992 := by
  unfold atP
  split
  · have := (at_room h1 (by assumption) h0).1; simp only; omega
  · rename_i h
    have h2 : m / 2 ^ (e - x).toNat < 9007199254740992 := by
      have h3 := bl_lt m
      unfold topP at h1
      rw [Nat.div_lt_iff_lt_mul (Nat.two_pow_pos _)]
      have h4 : bl m ≤ 53 + (e - x).toNat := by omega
      have h5 := Nat.pow_le_pow_right (n := 2) (by decide) h4
      rw [Nat.pow_add] at h5
      omega
    simp only [atM]
    generalize m / 2 ^ (e - x).toNat = z at *
    split <;> omega

theorem wu64 {x : Int} (h0 : 0 ≤ x) (h1 : x < 18446744073709551616) : IntKind.u64.wrap x = x := by
  simp [IntKind.wrap, IntKind.signed, IntKind.bits]
  omega

/-- A number in units of 2^e, to its bits. -/
def putP (q : Nat) (l : Bool) (e : Int) : Nat × Bool := if q < 4503599627370496 then (q, l) else if 971 < e then (9218868437227405312, true) else ((e + 1075).toNat * 4503599627370496 + q - 4503599627370496, l)
def nearestP (m : Nat) (x : Int) : Nat × Bool :=
  if m = 0 then (0, false) else if 1024 < topP m x then (9218868437227405312, true) else if topP m x < -1074 then (0, true) else
  if (atP m x (max (topP m x - 53) (-1074))).1 = 9007199254740992 then putP 4503599627370496 (atP m x (max (topP m x - 53) (-1074))).2 (max (topP m x - 53) (-1074) + 1)
  else putP (atP m x (max (topP m x - 53) (-1074))).1 (atP m x (max (topP m x - 53) (-1074))).2 (max (topP m x - 53) (-1074))

theorem putP_lt {q : Nat} {l : Bool} {e : Int} (hq : q ≤ 9007199254740992) : (putP q l e).1 ≤ 9218868437227405312 := by
  unfold putP
  split
  · simp only; omega
  · split <;> simp only <;> omega

set_option maxRecDepth 100000 in
set_option maxHeartbeats 4000000 in
theorem nearest_any (lo : Nat) (v : Value) (m : Nat) (x : Int) (w : World) (hd : Am lo w v m x) (hl : (limbsOf m).length ≤ 1024) (he : -900000 ≤ x) (he2 : x ≤ 900000) (hT : TabW w) :
    Calls Tryz.prog 159 #[v] w fun en w' => en = .returned (.tuple #[.int .u64 (((nearestP m x).1 : Nat) : Int), .bool (nearestP m x).2]) ∧ Below w.heap.size w w' := by
  have hbl := bl_words_le hl
  obtain ⟨t, ht⟩ : ∃ t, topP m x = t := ⟨_, rfl⟩
  have ht' : ((bl m : Nat) : Int) + x = t := ht
  obtain ⟨k, hk⟩ : ∃ k : Int, max (t - 53) (-1074) = k := ⟨_, rfl⟩
  have hk2' : t - 53 ≤ k ∧ -1074 ≤ k ∧ k ≤ 1000000 := by omega
  have HAT := Lib.hid (fun lo' w h1 h2 h0 h5 => at_any lo' v m x k w h1 hl (by omega) (by omega) (by omega) (by omega) h2 h0 h5)
  have hpost : nearestP m x = if m = 0 then (0, false) else if 1024 < t then (9218868437227405312, true) else if t < -1074 then (0, true) else if (atP m x k).1 = 9007199254740992 then putP 4503599627370496 (atP m x k).2 (k + 1) else putP (atP m x k).1 (atP m x k).2 k := by
    unfold nearestP; rw [ht, hk]
  have hle : m ≠ 0 → (atP m x k).1 ≤ 9007199254740992 := fun h => atP_le (by rw [ht]; omega) h
  obtain ⟨q, hq⟩ : ∃ q, (atP m x k).1 = q := ⟨_, rfl⟩
  obtain ⟨s, hs⟩ : ∃ q, (atP m x k).2 = q := ⟨_, rfl⟩
  rw [hq, hs] at hpost
  rw [hq] at hle
  obtain ⟨r, hr⟩ : ∃ r, nearestP m x = r := ⟨_, rfl⟩
  rw [hr] at hpost ⊢
  have HR := Lib.hid hpost
  rw [hq, hs] at HAT
  have HT' := Lib.hid ht'
  have hT2 := Lib.hid ht
  have HK := Lib.hid hk
  have HLE := Lib.hid hle
  have hkb : -1074 ≤ k ∧ k ≤ 1000000 := ⟨hk2'.2.1, hk2'.2.2⟩
  clear hq hs ht ht' hr hpost hk hle
  obtain ⟨a, rfl, ha⟩ := hd
  obtain ⟨x1, n1, c1, rfl⟩ := ha.slice
  go_enter Tryz.func159, Tryz.ntmps159
  generalize hZ' : (9007199254740992 : Int) = Z
  have hZ := Lib.hid hZ'
  clear hZ'
  generalize hY' : (4503599627370496 : Int) = Y
  have hY := Lib.hid hY'
  clear hY'
  have hb1 := (Below.refl w.heap.size w).alloc (Nat.le_refl _) (.cells #[.slice x1 n1 c1, .int .i64 x] 188)
  have hd1 : Am lo (w.alloc (.cells #[.slice x1 n1 c1, .int .i64 x] 188)) (.agg #[.slice x1 n1 c1, .int .i64 x]) m x := ⟨_, rfl, ha.call hb1⟩
  go_wp2_with fail
  refine (top_any lo _ m x _ hd1 hl (by omega) (by omega)).mono ?_
  rintro e w1 ⟨rfl, hb2⟩
  have hb12 := hb1.trans (hb2.mono hb1.size)
  have hk1 := ((Blk.new w #[.slice x1 n1 c1, .int .i64 x] 188)).call hb2
  have d0 := hk1.cell 0 _ rfl
  have d1 := hk1.cell 1 _ rfl
  rw [HT'.out]
  have hd2 : Am lo w1 (.agg #[.slice x1 n1 c1, .int .i64 x]) m x := ⟨_, rfl, ha.call hb12⟩
  go_wp2_with fail
  refine (zero_any _ _ m x _ hd2).mono ?_
  rintro e w2 ⟨rfl, hb3⟩
  have hb13 := hb12.trans (hb3.mono hb12.size)
  have hk2 := hk1.call hb3
  have g0 := hk2.cell 0 _ rfl
  have g1 := hk2.cell 1 _ rfl
  by_cases h0 : m = 0
  · have er := HR.out
    rw [if_pos h0] at er
    subst er
    have e1 : (m == 0) = true := by rw [h0]; rfl
    rw [e1]
    clear e1 HAT HT' hT2 HR
    go_wp2
    go_ret2
    exact ⟨rfl, hb13⟩
  have e1 : (m == 0) = false := beq_eq_false_iff_ne.2 h0
  rw [e1]
  clear e1
  have er := HR.out
  rw [if_neg h0] at er
  clear HR
  by_cases h1 : 1024 < t
  · rw [if_pos h1] at er
    subst er
    clear HAT HT' hT2
    go_wp2
    go_ret2
    exact ⟨rfl, hb13⟩
  rw [if_neg h1] at er
  by_cases h2 : t < -1074
  · rw [if_pos h2] at er
    subst er
    clear HAT HT' hT2
    go_wp2
    go_ret2
    exact ⟨rfl, hb13⟩
  rw [if_neg h2] at er
  have HER := Lib.hid er
  clear er
  have hd3 : Am lo w2 (.agg #[.slice x1 n1 c1, .int .i64 x]) m x := ⟨_, rfl, ha.call hb13⟩
  go_wp2_with fail
  rw [HK.out]
  refine (HAT.out lo w2 hd3 (hT.call hb13) h0 (by rw [hT2.out]; exact hk2'.1)).mono ?_
  rintro e w3 ⟨rfl, hb4⟩
  have hb14 := hb13.trans (hb4.mono hb13.size)
  have hqle := HLE.out h0
  clear HAT HT' hT2 HK HLE hk2'
  by_cases h3 : q = 9007199254740992
  · have er := HER.out
    rw [if_pos h3] at er
    clear HER
    have e3 : (((q : Nat) : Int) == Z) = true := beq_iff_eq.2 (by have := hZ.out; omega)
    have e5 : ((q : Nat) : Int) / 2 = Y := by have := hY.out; omega
    by_cases h4 : 971 < k + 1
    · have e4 : putP 4503599627370496 s (k + 1) = (9218868437227405312, true) := by unfold putP; rw [if_neg (by decide), if_pos h4]
      rw [e4] at er
      subst er
      clear e4
      go_wp2
      go_ret2
      exact ⟨rfl, hb14⟩
    · have e4 : putP 4503599627370496 s (k + 1) = ((k + 1 + 1075).toNat * 4503599627370496 + 4503599627370496 - 4503599627370496, s) := by unfold putP; rw [if_neg (by decide), if_neg h4]
      rw [e4] at er
      subst er
      clear e4
      go_wp2
      have hy := hY.out
      subst hy
      have hmx : max (k + 1 + 1075) 0 = k + 1 + 1075 := by omega
      exact bodyPost_ret (v := .tuple #[.int .u64 ((k + 1 + 1075) * 4503599627370496), .bool s]) (by simp [results, Tryz.results159, go_sem]; try rfl) rfl ⟨by rw [hmx], hb14⟩
  · have er := HER.out
    rw [if_neg h3] at er
    clear HER
    have e3 : (((q : Nat) : Int) == Z) = false := beq_eq_false_iff_ne.2 (by have := hZ.out; omega)
    have hq0 : (0 : Int) ≤ ((q : Nat) : Int) := by omega
    have hqi : ((q : Nat) : Int) ≤ Z := by have := hZ.out; omega
    have h3' := Lib.hid h3
    clear h3 hqle
    by_cases h5 : q < 4503599627370496
    · have e6 : decide (((q : Nat) : Int) < Y) = true := decide_eq_true (by have := hY.out; omega)
      have e4 : putP q s k = (q, s) := by unfold putP; rw [if_pos h5]
      rw [e4] at er
      subst er
      clear e4 h5
      go_wp2
      go_ret2
      exact ⟨rfl, hb14⟩
    have e6 : decide (((q : Nat) : Int) < Y) = false := decide_eq_false (by have := hY.out; omega)
    have h5' := Lib.hid h5
    clear h5
    by_cases h4 : 971 < k
    · have e4 : putP q s k = (9218868437227405312, true) := by unfold putP; rw [if_neg h5'.out, if_pos h4]
      rw [e4] at er
      subst er
      clear e4
      go_wp2
      go_ret2
      exact ⟨rfl, hb14⟩
    · have e4 : putP q s k = ((k + 1075).toNat * 4503599627370496 + q - 4503599627370496, s) := by unfold putP; rw [if_neg h5'.out, if_neg h4]
      rw [e4] at er
      subst er
      clear e4
      go_wp2
      have hy := hY.out
      have hz := hZ.out
      have hq5 := h5'.out
      subst hy
      have hw : IntKind.u64.wrap (IntKind.u64.wrap ((k + 1075) * 4503599627370496 + ↑q) - 4503599627370496) = (((k + 1075).toNat * 4503599627370496 + q - 4503599627370496 : Nat) : Int) := by
        rw [wu64 (x := (k + 1075) * 4503599627370496 + ↑q) (by omega) (by omega), wu64 (by omega) (by omega)]
        omega
      exact bodyPost_ret (v := .tuple #[.int .u64 (((k + 1075).toNat * 4503599627370496 + q - 4503599627370496 : Nat) : Int), .bool s]) (by simp only [results, Tryz.results159]; simp [go_sem]; exact hw) rfl ⟨rfl, hb14⟩
end Go.Proofs.YtkfbailpifmdcaaGreatDoor
end
