/- LimK RawA RawB NumA NumB NumC NumD -/
import Derived.Test.YtkfbailpifmdcaaGreatDoorMae
section
namespace Go.Proofs.YtkfbailpifmdcaaGreatDoor
open Go.RowKit

def Div2Post (w : World) (q r : Nat) (e : Ending) (w' : World) : Prop := ∃ v1 v2, e = .returned (.tuple #[v1, v2]) ∧ Num w.heap.size w' v1 q ∧ Num w.heap.size w' v2 r ∧ Below w.heap.size w w'

def DivRel (w : World) (gr gq : Nat) (D A lr m n b' o' : Nat) (dl : List Nat) (u12 : Value) (wr : World) : Prop :=
  ∃ (k : Nat) (z q : List Nat), k ≤ m ∧ u12 = .int .i64 (((k : Nat) : Int) - 1) ∧ z.length = lr ∧ okW z ∧ q.length = m ∧ okW q ∧ Blk wr gr (wArr z) 22 ∧ Blk wr gq (wArr q) 22 ∧
    Hid (valN z + D * (vd q k * pw k) = A) ∧ Hid (valN z < D * pw k) ∧ Hid (∀ i, i < n → wr.cell? ⟨b', o' + i, none⟩ = some (.int .u64 ((gw dl i : Nat) : Int))) ∧ Below w.heap.size w wr

theorem words_ptr {lo : Nat} {w : World} {v : Value} {l : List Nat} (h : Words lo w v l) (h0 : 0 < l.length) : ∃ b o cap, v = .slice (some ⟨b, o, none⟩) l.length cap ∧ l.length ≤ cap ∧ cap ≤ 9223372036854775807 ∧ lo ≤ b ∧ b < w.heap.size ∧
    ∀ i, i < l.length → w.cell? ⟨b, o + i, none⟩ = some (.int .u64 ((gw l i : Nat) : Int)) := by
  obtain ⟨x, cap, rfl, hc, hm, _, h⟩ := h
  obtain ⟨b, o, rfl, hb, hcell⟩ := h 0 h0
  refine ⟨b, o, cap, rfl, hc, hm, hb, World.block_lt_of_cell? w _ hcell, fun i hi => ?_⟩
  obtain ⟨b', o', e, _, hc'⟩ := h i hi
  have e2 := Option.some.inj e
  have e3 : o' = o := by have := congrArg Addr.off e2; exact this.symm
  have e4 : b' = b := by have := congrArg Addr.block e2; exact this.symm
  subst e3; subst e4
  exact hc'

set_option maxRecDepth 100000 in
set_option maxHeartbeats 4000000 in
theorem Div_any (lo : Nat) (a b : Value) (xa xb : List Nat) (w : World) (ha : Words lo w a xa) (hb : Words lo w b xb) (hla : xa.length ≤ 137438953472) (hlb : xb.length ≤ 137438953472) (hB : valN xb ≠ 0) (hT : TabW w) :
    Calls Tryz.prog 74 #[a, b] w (Div2Post w (valN xa / valN xb) (valN xa % valN xb)) := by
  have hlen1 := limbsOf_len (valN_lt ha.ok)
  have hlen2 := limbsOf_len (valN_lt hb.ok)
  go_enter Tryz.func74, Tryz.ntmps74
  go_wp2_with fail
  refine (Trim_any lo _ xa _ ha).mono ?_
  rintro e w1 ⟨v1, rfl, hv1, hw⟩
  subst hw
  go_wp2_with fail
  refine (Trim_any lo _ xb _ hb).mono ?_
  rintro e w1 ⟨v2, rfl, hv2, hw⟩
  subst hw
  have hx := hv1.words
  have hy := hv2.words
  clear hv1 hv2 ha hb
  have ex := valN_limbsOf (valN xa)
  have ey := valN_limbsOf (valN xb)
  have hyl := limbsOf_last hB
  have hyg := limbsOf_ge hB
  have hxl := limbsOf_lt (valN xa)
  have hcl := @cmp_len (valN xa) (valN xb)
  have hy0 : (limbsOf (valN xb)).length ≠ 0 := by rw [Ne, limbsOf_len_zero]; exact hB
  have hsl := fun s => @shift_len (valN xb) (limbsOf (valN xb)).length s hB rfl
  generalize valN xa = A at *
  generalize valN xb = B at *
  have hlx : (limbsOf A).length ≤ 137438953472 := Nat.le_trans hlen1 hla
  have hly : (limbsOf B).length ≤ 137438953472 := Nat.le_trans hlen2 hlb
  clear hlen1 hlen2 hla hlb
  have HX := Lib.hid hx
  have HY := Lib.hid hy
  have EX := Lib.hid ex
  have EY := Lib.hid ey
  have HYL := Lib.hid hyl
  have HYG := Lib.hid hyg
  have HXL := Lib.hid hxl
  have HCL := Lib.hid hcl
  have HSL := Lib.hid hsl
  have HB := Lib.hid hB
  clear hx hy ex ey hyl hyg hxl hcl hsl hB
  go_wp2_with fail
  refine (Cmp_any lo _ _ (limbsOf A) (limbsOf B) _ HX.out HY.out).mono ?_
  rintro e w1 ⟨rfl, hb1⟩
  rw [EX.out, EY.out]
  have hx1 := HX.out.call hb1
  have hy1 := HY.out.call hb1
  have HX1 := Lib.hid hx1
  have HY1 := Lib.hid hy1
  have HT := Lib.hid hT
  clear HX HY hx1 hy1 hT
  by_cases hAB : A < B
  · have hc : cmpN A B = -1 := by unfold cmpN; rw [if_pos hAB]
    rw [hc]
    clear hc
    go_wp2_with (at_builtin; refine wpList_clone rfl _ _ 50 rfl Tryz.underlying50 rfl lo (limbsOf A) HX1.out (by omega) ?_; intro v' w' hv' hb')
    go_ret2
    refine ⟨_, _, rfl, ?_, ?_, hb1.trans (hb'.mono hb1.size)⟩
    · rw [Nat.div_eq_of_lt hAB]; exact Num.zero _ _ _ _ (by omega)
    · rw [Nat.mod_eq_of_lt hAB]; exact Words.mono hv' hb1.size
  · have hc : 0 ≤ cmpN A B := by unfold cmpN; rw [if_neg hAB]; split <;> omega
    have hln : (limbsOf B).length ≤ (limbsOf A).length := by
      rcases Nat.lt_or_ge (limbsOf A).length (limbsOf B).length with h | h
      · exact absurd (HCL.out h) hAB
      · exact h
    obtain ⟨by1, oy1, cy, rfl, hcy, hcy2, hly1, hly2, hcells⟩ := words_ptr HY1.out (by omega)
    by_cases h1 : (limbsOf B).length = 1
    · have hbl1 : ((((limbsOf B).length : Nat) : Int) == 1) = true := by rw [h1]; rfl
      have hd : gw (limbsOf B) 0 = B := by
        have := EY.out
        rw [← vt_all _ 1 (by omega), vt_succ] at this
        simpa [vt, pw_zero] using this
      have hc0 := hcells 0 (by omega)
      rw [Nat.add_zero] at hc0
      have hg := okW_gw (okW_limbsOf B) 0
      have hpos : 0 < gw (limbsOf B) 0 := by rw [hd]; exact Nat.pos_of_ne_zero HB.out
      have hb0 : (0 : Int) < (((limbsOf B).length : Nat) : Int) := by omega
      have hsh := Short_any lo _ (limbsOf A) (gw (limbsOf B) 0) w1 HX1.out (by omega) hpos hg
      rw [hd] at hsh hc0 hg
      have HD := Lib.hid hd
      have hr64 : A % B < 18446744073709551616 := Nat.lt_trans (Nat.mod_lt A (Nat.pos_of_ne_zero HB.out)) (by rw [← hd]; exact okW_gw (okW_limbsOf B) 0)
      clear h1 hcells hd hpos
      rw [EX.out] at hsh
      go_wp2_with fail
      refine hsh.mono ?_
      rintro e w2 ⟨v, rfl, hv, hb2⟩
      go_wp2_with fail
      refine (Of_any (((A % B : Nat) : Int)) _ (by omega) (by omega)).mono ?_
      rintro e w3 ⟨v', rfl, hv', hb3⟩
      go_wp2_with fail
      go_ret2
      rw [Int.toNat_natCast] at hv'
      have hb12 := hb1.trans (hb2.mono hb1.size)
      exact ⟨_, _, rfl, (hv.call hb3).mono hb1.size, hv'.mono hb12.size, hb12.trans (hb3.mono hb12.size)⟩
    · have hbl1 : ((((limbsOf B).length : Nat) : Int) == 1) = false := beq_eq_false_iff_ne.2 (by omega)
      obtain ⟨n, hn⟩ : ∃ n, (limbsOf B).length = n := ⟨_, rfl⟩
      obtain ⟨n1, hn1⟩ : ∃ n1, n - 1 = n1 := ⟨_, rfl⟩
      have hc1 := hcells n1 (by omega)
      have hg1 := okW_gw (okW_limbsOf B) n1
      have hsl := HSL.out (64 - bl (gw (limbsOf B) n1)) (by rw [hn, hn1])
      rw [hn] at hsl
      have hlz := lz64 (gw (limbsOf B) n1) hg1
      have e1 : ((n : Nat) : Int) - 1 = ((n1 : Nat) : Int) := by omega
      have hi1 : IntKind.i64.wrap ((n1 : Nat) : Int) = ((n1 : Nat) : Int) := by rw [IntKind.wrap_i64]; omega
      have hb5 : ((n1 : Nat) : Int) < ((n : Nat) : Int) := by omega
      rw [hn] at hbl1 hly hln hcy hcells hy0 h1
      have HY2 := HY1.out
      rw [hn] at HY2
      have HY3 := Lib.hid HY2
      have HYG2 := HYG.out
      rw [hn] at HYG2
      have HYG3 := Lib.hid HYG2
      have HN := Lib.hid hn
      have hn1p : n1 + 1 = n := by omega
      have HN1 := Lib.hid hn1p
      clear HY1 HSL HY2 HYG HYG2 hn1 hcells HYL hn1p
      generalize 64 - bl (gw (limbsOf B) n1) = s at *
      have HSL := Lib.hid hsl
      have hs64 := hsl.2.2
      simp only [hn]
      clear hn hsl
      go_wp2_with fail
      refine (hlz _).mono ?_
      rintro e w2 ⟨rfl, hw⟩
      subst hw
      clear hlz hc1 hg1 e1 hi1 hb5
      obtain ⟨bx, ox, cx, rfl, hcx, hcx2, hlx1, hlx2, _⟩ := words_ptr HX1.out (by omega)
      obtain ⟨lx, hlxe⟩ : ∃ lx, (limbsOf A).length = lx := ⟨_, rfl⟩
      have HX2 := HX1.out
      have hAlt := HXL.out
      rw [hlxe] at HX2 hcx hln hlx hAlt
      have HX3 := Lib.hid HX2
      have HLX := Lib.hid hlxe
      have HAL := Lib.hid hAlt
      simp only [hlxe]
      clear HX1 HX2 hlxe hAlt HCL HXL
      go_wp2_with fail
      refine (Shl_any lo _ (limbsOf B) s _ HY3.out (by have := HN.out; omega) (by omega)).mono ?_
      rintro e w2 ⟨vd, rfl, hvd, hb2⟩
      rw [EY.out] at hvd
      have hvdw := hvd.words
      have hdlen := HSL.out.1
      obtain ⟨bd, od, cd, rfl, hcd, hcd2, hld1, hld2, hdc⟩ := words_ptr hvdw (by omega)
      rw [hdlen] at hcd hdc
      simp only [hdlen]
      have HDC := Lib.hid hdc
      clear hvd hvdw hdlen hdc
      have hmk := make_words 50 Tryz.underlying50 (lx + 1) (by omega)
      have hmk' : ∀ w : World, (Instr.makeSlice 50 (.int .i64 (((lx : Nat) : Int) + 1)) (.int .i64 (((lx : Nat) : Int) + 1))).run Tryz.prog w = .ok (.slice (some ⟨w.heap.size, 0, none⟩) (lx + 1) (lx + 1)) (w.alloc (.cells (wArr (List.replicate (lx + 1) 0)) 22)) := fun w => by
        rw [show ((lx : Nat) : Int) + 1 = ((lx + 1 : Nat) : Int) by omega]; exact hmk w
      clear hmk
      go_wp2_with fail
      clear hmk'
      have hb12 := hb1.trans (hb2.mono hb1.size)
      have hbr := (Below.refl w2.heap.size w2).alloc (Nat.le_refl _) (.cells (wArr (List.replicate (lx + 1) 0)) 22)
      refine (Shl_any lo _ (limbsOf A) s _ ((HX3.out.call hb2).call hbr) (by have := HLX.out; omega) (by omega)).mono ?_
      rintro e w3 ⟨va, rfl, hva, hb3⟩
      rw [EX.out] at hva
      have hz := (Blk.new w2 (wArr (List.replicate (lx + 1) 0)) 22).call hb3
      have hb23 := hbr.trans (hb3.mono hbr.size)
      have hzl : (List.replicate (lx + 1) 0).length = lx + 1 := by simp
      have hal : (limbsOf (A * 2 ^ s)).length ≤ lx + 1 := limbsOf_len (by
        rw [pw_succ, Nat.mul_comm 18446744073709551616]
        have h1 : A * 2 ^ s < pw lx * 2 ^ s := Nat.mul_lt_mul_of_pos_right HAL.out (Nat.two_pow_pos s)
        have h2 : pw lx * 2 ^ s ≤ pw lx * 18446744073709551616 := Nat.mul_le_mul_left _ (Nat.pow_le_pow_right (by decide) (show s ≤ 64 by omega))
        exact Nat.lt_of_lt_of_le h1 h2)
      have hrep : valN ((List.replicate (lx + 1) 0).drop (limbsOf (A * 2 ^ s)).length) = 0 := by rw [List.drop_replicate]; exact valN_replicate _
      have hrok := okW_replicate (lx + 1)
      generalize List.replicate (lx + 1) 0 = z0 at *
      have HVA := Lib.hid hva
      clear hva
      rw [← hzl] 
      have HAL2 := Lib.hid hal
      have HREP := Lib.hid hrep
      have HZL := Lib.hid hzl
      clear hal hrep hzl
      go_wp2_with (refine wpList_copy_words (w0 := w2) rfl _ _ _ _ rfl Tryz.underlying50 w2.heap.size _ z0 (limbsOf (A * 2 ^ s)) rfl _ HVA.out.words hz (by have := HAL2.out; have := HZL.out; omega) hb23 (Nat.le_refl _) ?_; intro w4 hz4 hb24)
      have hmk := make_words 50 Tryz.underlying50 (lx - n + 1) (by omega)
      have hmk' : ∀ w : World, (Instr.makeSlice 50 (.int .i64 (((lx : Nat) : Int) - ((n : Nat) : Int) + 1)) (.int .i64 (((lx : Nat) : Int) - ((n : Nat) : Int) + 1))).run Tryz.prog w = .ok (.slice (some ⟨w.heap.size, 0, none⟩) (lx - n + 1) (lx - n + 1)) (w.alloc (.cells (wArr (List.replicate (lx - n + 1) 0)) 22)) := fun w => by
        rw [show ((lx : Nat) : Int) - ((n : Nat) : Int) + 1 = ((lx - n + 1 : Nat) : Int) by omega]; exact hmk w
      clear hmk
      have hrl : (limbsOf (A * 2 ^ s) ++ z0.drop (limbsOf (A * 2 ^ s)).length).length = lx + 1 := by
        rw [List.length_append, List.length_drop]; have := HAL2.out; have := HZL.out; omega
      have hrv : valN (limbsOf (A * 2 ^ s) ++ z0.drop (limbsOf (A * 2 ^ s)).length) = A * 2 ^ s := by
        rw [valN_append, HREP.out, valN_limbsOf]; simp
      have hrk : okW (limbsOf (A * 2 ^ s) ++ z0.drop (limbsOf (A * 2 ^ s)).length) := okW_append (okW_limbsOf _) (okW_drop hrok _)
      have hroom := long_room (s := s) (m := lx - n + 1) HAL.out HYG3.out (by omega) rfl hln
      have HZ4 := hz4
      clear hz4 hz
      generalize limbsOf (A * 2 ^ s) ++ z0.drop (limbsOf (A * 2 ^ s)).length = z at *
      have hz4 := HZ4.out
      clear HZ4
      rw [HZL.out]
      obtain ⟨m, hme⟩ : ∃ m, lx - n + 1 = m := ⟨_, rfl⟩
      rw [hme] at hroom
      have hml : m = lx - n + 1 := hme.symm
      clear hme
      have HRL := Lib.hid hrl
      have HRV := Lib.hid hrv
      have HRM := Lib.hid hroom
      have HML := Lib.hid hml
      clear hrl hrv hroom
      have hcells : ∀ i, i < n → w4.cell? ⟨bd, od + i, none⟩ = some (.int .u64 ((gw (limbsOf (B * 2 ^ s)) i : Nat) : Int)) := fun i hi => (hb24.cell (p := ⟨bd, od + i, none⟩) hld2).trans (HDC.out i hi)
      have HC4 := Lib.hid hcells
      have hbw4 : Below w.heap.size w w4 := hb12.trans (hb24.mono hb12.size)
      clear hcells HDC hbr hb3 hb23 HVA hml
      go_wp2_with fail
      rw [hmk' w4, ← HML.out]
      clear hmk'
      have hgr := hz4.lt
      have hm1 : 1 ≤ m := by have := HML.out; omega
      have hmx : m + n = lx + 1 := by have := HML.out; omega
      have hD0 : 0 < B * 2 ^ s := Nat.mul_pos (Nat.pos_of_ne_zero HB.out) (Nat.two_pow_pos s)
      have hmb : m ≤ 137438953473 := by have := HML.out; omega
      have HMX := Lib.hid hmx
      have HD0 := Lib.hid hD0
      clear hmx hD0
      go_wp2_with fail
      go_loopw [12] (fun u12 wr => DivRel w w2.heap.size w4.heap.size (B * 2 ^ s) (A * 2 ^ s) (lx + 1) m n bd od (limbsOf (B * 2 ^ s)) u12 wr) (fun u12 _ => (intOf u12 + 1).toNat)
      case atStart =>
        have hba := (Below.refl w4.heap.size w4).alloc (Nat.le_refl _) (.cells (wArr (List.replicate m 0)) 22)
        exact ⟨m, z, List.replicate m 0, Nat.le_refl _, by go_num, HRL.out, hrk, by simp, okW_replicate _, hz4.alloc _, Blk.new _ _ _,
          by show valN z + _ * (vd _ m * _) = _; rw [vd_end _ _ (by simp), HRV.out]; simp, by show valN z < _; rw [HRV.out]; exact HRM.out,
          fun i hi => (hba.cell (p := ⟨bd, od + i, none⟩) (Nat.lt_trans hld2 hgr)).trans (HC4.out i hi), hbw4.alloc hbw4.size _⟩
      case round =>
        clear HRL HRV HRM HC4 hz4 hrk
        obtain ⟨k, z, q, hk, rfl, hzl, hzo, hql, hqo, hz, hq, HV, HLT, HC, hbl⟩ := hrel
        have HZ := Lib.hid hzl
        have HQ := Lib.hid hql
        clear hzl hql
        by_cases hk0 : k = 0
        · subst hk0
          have hv := HV.out
          have hlt := HLT.out
          rw [vd_zero, pw_zero, Nat.mul_one] at hv
          rw [pw_zero, Nat.mul_one] at hlt
          obtain ⟨hqv, hrv⟩ := long_end (Nat.pos_of_ne_zero HB.out) hv hlt
          have HQV := Lib.hid hqv
          have HRV := Lib.hid hrv
          have hzw := Words.ofBlk_all (lo := w.heap.size) hz hb12.size hzo (by have := HZ.out; omega)
          have hqw := Words.ofBlk_all (lo := w.heap.size) hq hbw4.size hqo (by have := HQ.out; omega)
          rw [HZ.out] at hzw
          rw [HQ.out] at hqw
          clear hv hlt hqv hrv
          go_wp2_with fail
          refine (Shr_any w.heap.size _ z s wr hzw (by have := HZ.out; omega) (by omega) (HT.out.call hbl)).mono ?_
          rintro e w6 ⟨v6, rfl, hv6, hb6⟩
          rw [HRV.out] at hv6
          have hb06 := hbl.trans (hb6.mono hbl.size)
          go_wp2_with fail
          refine (Trim_any w.heap.size _ q w6 (hqw.call hb6)).mono ?_
          rintro e w7 ⟨v7, rfl, hv7, hw7⟩
          subst hw7
          rw [HQV.out] at hv7
          go_wp2_with fail
          go_ret2
          exact ⟨_, _, rfl, hv7, hv6.mono hbl.size, hb06⟩
        · obtain ⟨j, rfl⟩ : ∃ j, k = j + 1 := ⟨k - 1, by omega⟩
          have hcast : (((j + 1 : Nat) : Int) - 1) = ((j : Nat) : Int) := by omega
          rw [hcast]
          clear hcast hk0
          obtain ⟨hze, hpl, hyl⟩ := long_parts (z := z) (j := j) (n := n) (by have := HZ.out; have := HMX.out; omega)
          have hpo := okW_take hzo j
          have hyo := okW_take (okW_drop hzo j) (n + 1)
          have hso := okW_drop hzo (j + n + 1)
          generalize z.take j = pre at *
          generalize (z.drop j).take (n + 1) = y at *
          generalize z.drop (j + n + 1) = post at *
          subst hze
          obtain ⟨hp0, hylt⟩ := long_digit hpl hyl HSL.out.2.1 HLT.out
          have hgrq : w2.heap.size ≠ w4.heap.size := by omega
          have hstep := step_any w2.heap.size pre y post (limbsOf (B * 2 ^ s)) (lx + 1 - j) bd od cd n wr HSL.out.1 (by omega) (by omega) hyl hyo (okW_limbsOf _) hz (by omega) HC.out (by rw [valN_limbsOf]; exact hylt)
          rw [hpl] at hstep
          have hjm : j < m := by omega
          have HPL := Lib.hid hpl
          have HYL2 := Lib.hid hyl
          have HP0 := Lib.hid hp0
          have HDL := Lib.hid (digit_room hylt)
          have hjb : ((j : Nat) : Int) + ((n : Nat) : Int) + 1 ≤ ((lx : Nat) : Int) + 1 := by have := HMX.out; omega
          clear hpl hyl hp0 hylt
          go_wp2_with fail
          rw [show j + n + 1 - j = n + 1 by omega]
          refine hstep.mono ?_
          rintro e w5 ⟨rfl, y', hyl', hyo', hyv', hz', hgb'⟩
          rw [valN_limbsOf] at hyv' ⊢
          have hq' := hq.gb hgb' (Ne.symm hgrq)
          have qc := hq'.cell j _ (wArr_get q j (by have := HQ.out; omega))
          have qf := hq'.free j
          obtain ⟨hA, hR⟩ := long_step (q := q) HD0.out HPL.out hyl' hpo HP0.out hyv' (by have := HQ.out; omega) HV.out
          have hdl := HDL.out
          have hbd1 : bd ≠ w2.heap.size := by omega
          have hbd2 : bd ≠ w4.heap.size := by omega
          have hclose : DivRel w w2.heap.size w4.heap.size (B * 2 ^ s) (A * 2 ^ s) (lx + 1) m n bd od (limbsOf (B * 2 ^ s)) (.int .i64 (((j : Nat) : Int) - 1)) (w5.setCell ⟨w4.heap.size, j, none⟩ (.int .u64 ((valN y / (B * 2 ^ s) : Nat) : Int))) := by
            refine ⟨j, pre ++ y' ++ post, q.set j (valN y / (B * 2 ^ s)), by omega, rfl, ?_, okW_append (okW_append hpo hyo') hso, by rw [List.length_set]; exact HQ.out, okW_set hqo _ _ hdl, (hz' : Blk _ _ _ _).set_other hgrq _ _, blk_setW hq' _ _, hA, hR, fun i hi => ?_, ?_⟩
            · have := HZ.out
              simp only [List.length_append] at this ⊢
              omega
            · exact (gb_set w5 w4.heap.size j none _).cell (hgb'.cell (HC.out i hi) (by intro e; exact hbd1 (Option.some.inj e))) (by intro e; exact hbd2 (Option.some.inj e))
            · exact (hbl.trans (below_of_gb hgb' hb12.size hbl.size)).setCell (by have := hbw4.size; exact this) _
          have HCL := Lib.hid hclose
          clear hA hR hclose hyv'
          go_wp2_with fail
          go_roundw
          case rel => exact HCL.out
          case measure => simp [intOf]
end Go.Proofs.YtkfbailpifmdcaaGreatDoor
end

section
namespace Go.Proofs.YtkfbailpifmdcaaGreatDoor
open Go.RowKit

/-- A dyadic number's value: its sign, amount, exponent. -/
def Dy (lo : Nat) (w : World) (v : Value) (neg : Bool) (m : Nat) (e : Int) : Prop := ∃ a, v = .agg #[.bool neg, a, .int .i64 e] ∧ Num lo w a m
theorem Dy.call {lo : Nat} {w w' : World} {v : Value} {neg : Bool} {m : Nat} {e : Int} (h : Dy lo w v neg m e) (hb : Below w.heap.size w w') : Dy lo w' v neg m e := by
  obtain ⟨a, h1, h2⟩ := h; exact ⟨a, h1, h2.call hb⟩
theorem Dy.mono {lo lo' : Nat} {w : World} {v : Value} {neg : Bool} {m : Nat} {e : Int} (h : Dy lo w v neg m e) (hl : lo' ≤ lo) : Dy lo' w v neg m e := by
  obtain ⟨a, h1, h2⟩ := h; exact ⟨a, h1, h2.mono hl⟩
def DyPost (w : World) (neg : Bool) (m : Nat) (x : Int) (e : Ending) (w' : World) : Prop := ∃ v, e = .returned v ∧ Dy w.heap.size w' v neg m x ∧ Below w.heap.size w w'
/-- The one form. -/
def fNeg (neg : Bool) (n : Nat) : Bool := if n = 0 then false else neg
def fAbs (n : Nat) : Nat := n / 2 ^ tz n
def fExp (n : Nat) (e : Int) : Int := if n = 0 then 0 else e + ((tz n : Nat) : Int)

theorem Words.gb {lo b : Nat} {w w' : World} {v : Value} {l : List Nat} (h : Words lo w v l) (hg : w.grownBy w' (some b)) (hb : b < lo) : Words lo w' v l := by
  obtain ⟨x, cap, h1, h2, h3, h4, h5⟩ := h
  refine ⟨x, cap, h1, h2, h3, h4, fun i hi => ?_⟩
  obtain ⟨b', off, e, hlo, hc⟩ := h5 i hi
  exact ⟨b', off, e, hlo, hg.cell hc (by intro e2; have := Option.some.inj e2; dsimp only at this; omega)⟩
theorem Num.gb {lo b : Nat} {w w' : World} {v : Value} {n : Nat} (h : Num lo w v n) (hg : w.grownBy w' (some b)) (hb : b < lo) : Num lo w' v n := Words.gb h hg hb
theorem Words.slice {lo : Nat} {w : World} {v : Value} {l : List Nat} (h : Words lo w v l) : ∃ x n cap, v = .slice x n cap := by
  obtain ⟨x, cap, h, _⟩ := h; exact ⟨_, _, _, h⟩
theorem Num.slice {lo : Nat} {w : World} {v : Value} {n : Nat} (h : Num lo w v n) : ∃ x n cap, v = .slice x n cap := Words.slice h
theorem bl_words {l : List Nat} (h : okW l) : bl (valN l) ≤ 64 * l.length := bl_le (by rw [← pw_two]; exact valN_lt h)

set_option maxRecDepth 100000 in
set_option maxHeartbeats 2000000 in
theorem Form_any (lo : Nat) (neg : Bool) (a : Value) (l : List Nat) (exp : Int) (w : World) (ha : Words lo w a l) (hl : l.length ≤ 549755813888) (he : -4611686018427387904 ≤ exp) (he2 : exp ≤ 4611686018427387904) (hT : TabW w) :
    Calls Tryz.prog 71 #[.bool neg, a, .int .i64 exp] w (DyPost w (fNeg neg (valN l)) (fAbs (valN l)) (fExp (valN l) exp)) := by
  have hlen := limbsOf_len (valN_lt ha.ok)
  have hbl := bl_words ha.ok
  have e0 := @limbsOf_len_zero (valN l)
  have E1 := Lib.hid (valN_limbsOf (valN l))
  go_enter Tryz.func71, Tryz.ntmps71
  have hba := (Below.refl w.heap.size w).alloc (Nat.le_refl _) (.cells #[.bool false, .slice none 0 0, .int .i64 0] 62)
  have hda := Blk.new w #[.bool false, .slice none 0 0, .int .i64 0] 62
  go_wp2_with fail
  refine (Trim_any lo _ l _ (ha.call hba)).mono ?_
  rintro e w1 ⟨v1, rfl, hv1, hw⟩
  subst hw
  have hv := hv1.words
  have HV := Lib.hid hv
  obtain ⟨px, cx, rfl, hcx, hcx2, _, _⟩ := hv
  have E0 := Lib.hid e0
  clear hv1 ha e0
  have hT1 := hT.call hba
  have HT := Lib.hid hT1
  have HDA := Lib.hid hda
  have HBA := Lib.hid hba
  clear hT hT1
  by_cases hz : (limbsOf (valN l)).length = 0
  · have hb : ((((limbsOf (valN l)).length : Nat) : Int) == 0) = true := by rw [hz]; rfl
    have hv0 := E0.out.1 hz
    have HV0 := Lib.hid hv0
    clear hz hv0
    have d0 := hda.cell 0 _ rfl
    have d1 := hda.cell 1 _ rfl
    have d2 := hda.cell 2 _ rfl
    go_wp2
    refine bodyPost_ret (v := .agg #[.bool false, .slice none 0 0, .int .i64 0]) (by simp [results, Tryz.results71, go_sem, d0, d1, d2]; try rfl) rfl ⟨_, rfl, ⟨_, by unfold fNeg fExp; rw [HV0.out]; rfl, ?_⟩, HBA.out⟩
    rw [show fAbs (valN l) = 0 by unfold fAbs; rw [HV0.out]; exact Nat.zero_div _]
    exact Num.zero _ _ _ _ (by omega)
  · have hb : ((((limbsOf (valN l)).length : Nat) : Int) == 0) = false := beq_eq_false_iff_ne.2 (by omega)
    have hv0 : valN l ≠ 0 := fun h => hz (E0.out.2 h)
    have HV0 := Lib.hid hv0
    clear hz hv0 hda hba
    go_wp2_with fail
    refine (Low_any lo _ (limbsOf (valN l)) _ HV.out (by omega) HT.out).mono ?_
    rintro e w1 ⟨rfl, hw⟩
    subst hw
    rw [E1.out]
    go_wp2_with fail
    have htz := tz_le HV0.out
    refine (Shr_any lo _ (limbsOf (valN l)) (tz (valN l)) _ HV.out (by omega) (by omega) HT.out).mono ?_
    rintro e w1 ⟨v2, rfl, hv2, hb2⟩
    rw [E1.out] at hv2
    obtain ⟨x2, n2, c2, rfl⟩ := hv2.slice
    have hd2 := HDA.out.call hb2
    have d0 := hd2.cell 0 _ rfl
    have d1 := hd2.cell 1 _ rfl
    have d2 := hd2.cell 2 _ rfl
    have f0 := hd2.free 0
    have f1 := hd2.free 1
    have f2 := hd2.free 2
    have hb3 := HBA.out.trans (hb2.mono HBA.out.size)
    go_wp2
    have hd3 := ((hd2.set 0 (.bool neg)).set 1 (.slice x2 n2 c2)).set 2 (.int .i64 (exp + ((tz (valN l) : Nat) : Int)))
    have o0 := hd3.cell 0 _ rfl
    have o1 := hd3.cell 1 _ rfl
    have o2 := hd3.cell 2 _ rfl
    refine bodyPost_ret (v := .agg #[.bool neg, .slice x2 n2 c2, .int .i64 (exp + ((tz (valN l) : Nat) : Int))]) (by simp [results, Tryz.results71, go_sem, o0, o1, o2]; try rfl) rfl ⟨_, rfl, ⟨_, by unfold fNeg fExp; rw [if_neg HV0.out, if_neg HV0.out], ?_⟩, ?_⟩
    · exact Num.mono (((hv2.gb (gb_set _ _ _ _ _) (by simp)).gb (gb_set _ _ _ _ _) (by simp)).gb (gb_set _ _ _ _ _) (by simp)) (by simp)
    · exact ((hb3.setCell (Nat.le_refl _) _).setCell (Nat.le_refl _) _).setCell (Nat.le_refl _) _
end Go.Proofs.YtkfbailpifmdcaaGreatDoor
end

section
namespace Go.Proofs.YtkfbailpifmdcaaGreatDoor
open Go.RowKit

theorem ret_bool {a b : Bool} (h : a = b) : Ending.returned (.bool a) = .returned (.bool b) := by rw [h]

/-- A dyadic number's value whose amount is in any words. -/
def DyW (lo : Nat) (w : World) (v : Value) (neg : Bool) (l : List Nat) (e : Int) : Prop := ∃ a, v = .agg #[.bool neg, a, .int .i64 e] ∧ Words lo w a l
theorem Dy.any {lo : Nat} {w : World} {v : Value} {neg : Bool} {m : Nat} {e : Int} (h : Dy lo w v neg m e) : DyW lo w v neg (limbsOf m) e := h
theorem DyW.call {lo : Nat} {w w' : World} {v : Value} {neg : Bool} {l : List Nat} {e : Int} (h : DyW lo w v neg l e) (hb : Below w.heap.size w w') : DyW lo w' v neg l e := by
  obtain ⟨a, h1, h2⟩ := h; exact ⟨a, h1, h2.call hb⟩

set_option maxHeartbeats 1000000 in
theorem Zero_any (lo : Nat) (v : Value) (neg : Bool) (l : List Nat) (x : Int) (w : World) (hd : DyW lo w v neg l x) :
    Calls Tryz.prog 121 #[v] w fun e w' => e = .returned (.bool (valN l == 0)) ∧ Below w.heap.size w w' := by
  obtain ⟨a, rfl, ha⟩ := hd
  have e0 := @limbsOf_len_zero (valN l)
  have E0 := Lib.hid e0
  clear e0
  obtain ⟨x1, n1, c1, rfl⟩ := ha.slice
  go_enter Tryz.func121, Tryz.ntmps121
  have hba := (Below.refl w.heap.size w).alloc (Nat.le_refl _) (.cells #[.bool neg, .slice x1 n1 c1, .int .i64 x] 62)
  go_wp2_with fail
  refine (Trim_any lo _ l _ (ha.call hba)).mono ?_
  rintro e w1 ⟨v1, rfl, hv1, hw⟩
  subst hw
  obtain ⟨px, cx, rfl, hcx, hcx2, _, _⟩ := hv1.words
  go_wp2
  go_ret
  exact ⟨ret_bool (by rw [Bool.eq_iff_iff, beq_iff_eq, beq_iff_eq]; have := E0.out; omega), hba⟩

set_option maxHeartbeats 1000000 in
theorem Power_any (n : Int) (w : World) : Calls Tryz.prog 95 #[.int .i64 n] w (DyPost w false 1 n) := by
  go_enter Tryz.func95, Tryz.ntmps95
  go_wp2
  have hw := (Blk.new (w.alloc (.cells #[.bool false, .slice (some ⟨w.heap.size + 1, 0, none⟩) 1 1, .int .i64 n] 62)) #[.int .u64 1] 22)
  have hn' : Num (w.heap.size + 1) ((w.alloc (.cells #[.bool false, .slice (some ⟨w.heap.size + 1, 0, none⟩) 1 1, .int .i64 n] 62)).alloc (.cells #[.int .u64 1] 22)) (.slice (some ⟨w.heap.size + 1, 0, none⟩) 1 1) 1 := by
    have hl : limbsOf 1 = [1] := by rw [limbsOf_pos (by omega), show (1 : Nat) / 18446744073709551616 = 0 by rfl, limbsOf_zero]
    unfold Num
    rw [hl]
    have := Words.ofBlk_all (z := [1]) (lo := w.heap.size + 1) hw (by simp) (okW_cons (by omega) okW_nil) (by simp)
    simpa using this
  have hb := ((Below.refl w.heap.size w).alloc (Nat.le_refl _) (.cells #[.bool false, .slice (some ⟨w.heap.size + 1, 0, none⟩) 1 1, .int .i64 n] 62)).alloc (by simp) (.cells #[.int .u64 1] 22)
  refine bodyPost_ret (v := .agg #[.bool false, .slice (some ⟨w.heap.size + 1, 0, none⟩) 1 1, .int .i64 n]) (by simp [results, Tryz.results95, go_sem]; try rfl) rfl ⟨_, rfl, ⟨_, rfl, hn'.mono (by omega)⟩, hb⟩

set_option maxHeartbeats 1000000 in
theorem Top_any (lo : Nat) (v : Value) (neg : Bool) (l : List Nat) (x : Int) (w : World) (hd : DyW lo w v neg l x) (hl : l.length ≤ 549755813888) (he : -4611686018427387904 ≤ x) (he2 : x ≤ 4611686018427387904) :
    Calls Tryz.prog 53 #[v] w fun e w' => e = .returned (.int .i64 (x + ((bl (valN l) : Nat) : Int) - 1)) ∧ Below w.heap.size w w' := by
  obtain ⟨a, rfl, ha⟩ := hd
  have hbl := bl_words ha.ok
  obtain ⟨x1, n1, c1, rfl⟩ := ha.slice
  have hba := (Below.refl w.heap.size w).alloc (Nat.le_refl _) (.cells #[.bool neg, .slice x1 n1 c1, .int .i64 x] 62)
  go_enter Tryz.func53, Tryz.ntmps53
  go_wp2_with fail
  go_quiet ((go_at_call 51; exact Calls.quiet_of_same ((Len_any lo _ l _ ((ha.call hba).drew _) (by omega)).mono fun _ _ h => ⟨h.1, h.2.symm⟩)))
  go_wp2
  go_ret
  exact ⟨rfl, hba.trans (below_drewN _ _ _)⟩

set_option maxHeartbeats 1000000 in
theorem Fits_any (lo : Nat) (v : Value) (neg : Bool) (l : List Nat) (x : Int) (w : World) (hd : DyW lo w v neg l x) :
    Calls Tryz.prog 165 #[v] w fun e w' => e = .returned (.bool (decide ((limbsOf (valN l)).length ≤ 1024 ∧ -32768 ≤ x ∧ x ≤ 32768))) ∧ Below w.heap.size w w' := by
  obtain ⟨a, rfl, ha⟩ := hd
  obtain ⟨x1, n1, c1, rfl⟩ := ha.slice
  generalize hn : (limbsOf (valN l)).length = n
  have HN := Lib.hid hn
  clear hn
  go_enter Tryz.func165, Tryz.ntmps165
  have hba := (Below.refl w.heap.size w).alloc (Nat.le_refl _) (.cells #[.bool neg, .slice x1 n1 c1, .int .i64 x] 62)
  go_wp2_with fail
  refine (Trim_any lo _ l _ (ha.call hba)).mono ?_
  rintro e w1 ⟨v1, rfl, hv1, hw⟩
  subst hw
  obtain ⟨px, cx, rfl, hcx, hcx2, _, _⟩ := hv1.words
  rw [HN.out] at hcx ⊢
  by_cases h1 : n ≤ 1024
  · by_cases h2 : -32768 ≤ x
    · by_cases h3 : x ≤ 32768
      · go_wp2
        go_ret
        exact ⟨ret_bool (by first | (simp [*]; done) | (simp [*]; omega)), hba⟩
      · go_wp2
        go_ret
        exact ⟨ret_bool (by first | (simp [*]; done) | (simp [*]; omega)), hba⟩
    · go_wp2
      go_ret
      exact ⟨ret_bool (by first | (simp [*]; done) | (simp [*]; omega)), hba⟩
  · go_wp2
    go_ret
    exact ⟨ret_bool (by first | (simp [*]; done) | (simp [*]; omega)), hba⟩
end Go.Proofs.YtkfbailpifmdcaaGreatDoor
end

section
namespace Go.Proofs.YtkfbailpifmdcaaGreatDoor
open Go.RowKit

theorem norm_num {lo : Nat} {w : World} {x : Option Addr} {cap k : Nat} {l : List Nat} (hk : k ≤ l.length) (hz : ∀ j, k ≤ j → gw l j = 0) (hl : k = 0 ∨ gw l (k - 1) ≠ 0) (h : Words lo w (.slice x l.length cap) l) :
    Num lo w (.slice x k cap) (valN l) := by
  have hc : l.length ≤ cap := by
    obtain ⟨_, _, e, hc, _⟩ := h
    injection e with _ _ e
    subst e; exact hc
  have h1 := h.take k cap hk (Nat.le_trans hk hc) (Nat.le_refl _)
  have h2 := take_limbs h.ok k hk hz hl
  unfold Num
  rw [← h2]
  exact h1

set_option maxHeartbeats 1000000 in
theorem norm_any (lo : Nat) (a : Value) (l : List Nat) (w : World) (ha : Words lo w a l) :
    Calls Tryz.prog 179 #[a] w (TrimPost w lo l) := by
  have ha0 := ha
  obtain ⟨x, cap, rfl, hcap, hcm, hok, hx⟩ := ha
  have HA := Lib.hid ha0
  have HX := Lib.hid hx
  clear ha0 hx
  go_enter Tryz.func179, Tryz.ntmps179
  go_wp2_with fail
  go_loop [0] (fun i => ∃ k : Nat, k ≤ l.length ∧ i = .slice x k cap ∧ Hid (∀ j, k ≤ j → gw l j = 0)) (fun i => match i with | .slice _ k _ => k | _ => 0)
  case atStart => exact ⟨l.length, Nat.le_refl _, rfl, fun j hj => gw_ge hj⟩
  case round =>
    obtain ⟨k, hk, rfl, hz⟩ := hrel
    by_cases h0 : k = 0
    · subst h0
      go_wp2
      go_ret
      exact ⟨_, rfl, norm_num hk hz.out (.inl rfl) HA.out, rfl⟩
    · obtain ⟨m, rfl⟩ : ∃ m, k = m + 1 := ⟨k - 1, by omega⟩
      obtain ⟨b, off, rfl, hlo, hc⟩ := HX.out m (by omega)
      have hcast : (((m + 1 : Nat) : Int) - 1) = ((m : Nat) : Int) := by omega
      cases hv : (((gw l m : Nat) : Int) == 0)
      · have hne : m + 1 = 0 ∨ gw l (m + 1 - 1) ≠ 0 := .inr (by rw [Nat.add_sub_cancel]; have := beq_eq_false_iff_ne.1 hv; omega)
        have HN := Lib.hid hne
        clear hne
        go_wp2
        go_ret
        exact ⟨_, rfl, norm_num hk hz.out HN.out HA.out, rfl⟩
      · have hz' : Hid (∀ j, m ≤ j → gw l j = 0) := fun j hj => by
          by_cases e : m = j
          · subst e; have := beq_iff_eq.1 hv; omega
          · exact hz.out j (by omega)
        clear hz
        go_wp2
        go_round
        case rel => exact ⟨m, by omega, rfl, hz'⟩
        case measure => simp

set_option maxHeartbeats 1000000 in
theorem great_any (lo : Nat) (a : Value) (l : List Nat) (w : World) (ha : Words lo w a l) :
    Calls Tryz.prog 180 #[a] w fun e w' => e = .returned (.bool (decide (1024 < l.length))) ∧ w = w' := by
  obtain ⟨x, cap, rfl, hcap, hcm, hok, hx⟩ := ha
  clear hx
  go_enter Tryz.func180, Tryz.ntmps180
  go_wp2
  go_ret
  exact ⟨ret_bool (by rw [decide_eq_decide]; omega), rfl⟩

set_option maxHeartbeats 1000000 in
theorem own_any (lo : Nat) (a : Value) (l : List Nat) (w : World) (ha : Words lo w a l) (hl : l.length ≤ 1099511627776) :
    Calls Tryz.prog 171 #[a] w fun e w' => ∃ v, e = .returned v ∧ Words w.heap.size w' v l ∧ Below w.heap.size w w' := by
  go_enter Tryz.func171, Tryz.ntmps171
  go_wp2_with (at_builtin; refine wpList_clone2 rfl _ _ _ _ rfl Tryz.underlying51 Tryz.underlying201 rfl lo l ha hl ?_; intro v' w' hv' hb')
  go_ret
  exact ⟨_, rfl, hv', hb'⟩

set_option maxHeartbeats 1000000 in
/-- A number that is not too great, normal; else ErrMany. -/
theorem one_any (lo : Nat) (a : Value) (l : List Nat) (w : World) (ha : Words lo w a l) (hl : (limbsOf (valN l)).length ≤ 1024) :
    Calls Tryz.prog 170 #[a] w fun e w' => ∃ v, e = .returned (.tuple #[v, .int .i64 0]) ∧ Num lo w v (valN l) ∧ w = w' := by
  go_enter Tryz.func170, Tryz.ntmps170
  go_wp2_with fail
  refine (norm_any lo _ l _ ha).mono ?_
  rintro e w1 ⟨v1, rfl, hv1, hw⟩
  subst hw
  go_wp2_with fail
  refine (great_any lo _ _ _ hv1.words).mono ?_
  rintro e w1 ⟨rfl, hw⟩
  subst hw
  have hb : decide (1024 < (limbsOf (valN l)).length) = false := decide_eq_false (by omega)
  rw [hb]
  clear hb
  go_wp2
  go_ret2
  exact ⟨_, rfl, hv1, rfl⟩
end Go.Proofs.YtkfbailpifmdcaaGreatDoor
end

section
namespace Go.Proofs.YtkfbailpifmdcaaGreatDoor
open Go.RowKit

set_option maxHeartbeats 1000000 in
theorem NNorm_any (lo : Nat) (a : Value) (l : List Nat) (w : World) (ha : Words lo w a l) (hl : (limbsOf (valN l)).length ≤ 1024) :
    Calls Tryz.prog 166 #[a] w fun e w' => ∃ v, e = .returned (.tuple #[v, .int .i64 0]) ∧ Num w.heap.size w' v (valN l) ∧ Below w.heap.size w w' := by
  go_enter Tryz.func166, Tryz.ntmps166
  go_wp2_with fail
  refine (one_any lo _ l _ ha hl).mono ?_
  rintro e w1 ⟨v1, rfl, hv1, hw⟩
  subst hw
  go_wp2_with fail
  refine (own_any lo _ _ _ hv1.words (by omega)).mono ?_
  rintro e w1 ⟨v2, rfl, hv2, hb⟩
  go_wp2
  go_ret2
  exact ⟨_, rfl, hv2, hb⟩

set_option maxHeartbeats 1000000 in
theorem nlen_any (lo : Nat) (a : Value) (n : Nat) (w : World) (hv : Num lo w a n) (hlen : (limbsOf n).length ≤ 1099511627776) :
    Calls Tryz.prog 181 #[a] w fun e w' => e = .returned (.int .i64 ((bl n : Nat) : Int)) ∧ w = w' := by
  obtain ⟨x, cap, rfl, hcap, hcm, hok, hx⟩ := hv
  by_cases h0 : n = 0
  · subst h0
    have e0 : (limbsOf 0).length = 0 := by rw [limbsOf_zero]; rfl
    clear hx hok
    go_enter Tryz.func181, Tryz.ntmps181
    go_wp2
    go_ret
    exact ⟨rfl, rfl⟩
  · have hL : (limbsOf n).length ≠ 0 := by rw [Ne, limbsOf_len_zero]; exact h0
    have hbl := bl_limbs h0
    have HBL := Lib.hid hbl
    have hgw := okW_gw hok.1 ((limbsOf n).length - 1)
    have hb64 := Lib.bitLen_le (gw (limbsOf n) ((limbsOf n).length - 1)) 64 (by decide) hgw
    obtain ⟨m, hm⟩ : ∃ m, (limbsOf n).length = m + 1 := ⟨_, (Nat.succ_pred_eq_of_ne_zero hL).symm⟩
    obtain ⟨b, off, rfl, hlo, hc⟩ := hx m (by omega)
    rw [hm] at hlen hcap hgw hb64
    rw [Nat.add_sub_cancel] at hgw hb64
    have hbe : (((m : Nat) : Int) + 1 == 0) = false := beq_eq_false_iff_ne.2 (by omega)
    have HM := Lib.hid hm
    clear hbl hx hok
    rw [HM.out]
    clear hm h0 hL
    go_enter Tryz.func181, Tryz.ntmps181
    go_wp2_with (go_at_call 92; refine (Tryz.bits_Len64 _ _ (by omega) (by omega)).mono ?_; rintro e w1 ⟨rfl, rfl⟩)
    go_ret
    refine ⟨ret_int ?_, rfl⟩
    rw [HBL.out, HM.out, Nat.add_sub_cancel]
    omega

set_option maxHeartbeats 1000000 in
theorem NLen_any (lo : Nat) (a : Value) (l : List Nat) (w : World) (ha : Words lo w a l) (hl : (limbsOf (valN l)).length ≤ 1024) :
    Calls Tryz.prog 172 #[a] w fun e w' => e = .returned (.tuple #[.int .i64 ((bl (valN l) : Nat) : Int), .int .i64 0]) ∧ w = w' := by
  go_enter Tryz.func172, Tryz.ntmps172
  go_wp2_with fail
  refine (one_any lo _ l _ ha hl).mono ?_
  rintro e w1 ⟨v1, rfl, hv1, hw⟩
  subst hw
  go_wp2_with fail
  refine (nlen_any lo _ _ _ hv1 (by omega)).mono ?_
  rintro e w1 ⟨rfl, hw⟩
  subst hw
  go_wp2
  go_ret2
  exact ⟨rfl, rfl⟩

set_option maxHeartbeats 1000000 in
theorem NBit_any (lo : Nat) (a : Value) (l : List Nat) (i : Nat) (w : World) (ha : Words lo w a l) (hl : (limbsOf (valN l)).length ≤ 1024) (hi : i ≤ 4611686018427387904) :
    Calls Tryz.prog 176 #[a, .int .i64 ((i : Nat) : Int)] w fun e w' => e = .returned (.tuple #[.bool (valN l / 2 ^ i % 2 == 1), .int .i64 0]) ∧ w = w' := by
  have hvl := valN_limbsOf (valN l)
  have hok := okW_limbsOf (valN l)
  generalize hx : limbsOf (valN l) = x at *
  have HX := Lib.hid hx
  have hbw := bit_words hok i
  have hbh := bit_high hok i
  rw [hvl] at hbw hbh
  have HBW := Lib.hid hbw
  have HBH := Lib.hid hbh
  clear hx hbw hbh hvl
  go_enter Tryz.func176, Tryz.ntmps176
  go_wp2_with fail
  refine (one_any lo _ l _ ha (by rw [HX.out]; exact hl)).mono ?_
  rintro e w1 ⟨v1, rfl, hv1, hw⟩
  subst hw
  have hv := hv1.words
  rw [HX.out] at hv
  obtain ⟨p, cap, rfl, hcap, hcm, _, hcell⟩ := hv
  have HC := Lib.hid hcell
  clear hcell hv1
  by_cases hlt : i / 64 < x.length
  · obtain ⟨b, off, rfl, _, hc⟩ := HC.out (i / 64) hlt
    have hg := okW_gw hok (i / 64)
    go_wp2
    go_ret2
    refine ⟨?_, rfl⟩
    show Ending.returned (.tuple #[.bool (bits .and .u64 (((gw x (i / 64) : Nat) : Int) / 2 ^ (i % 64)) 1 == 1), .int .i64 0]) = _
    rw [shr_cast, and1 _ (div_pow_lt hg _), HBW.out]
    rw [show ((((gw x (i / 64) / 2 ^ (i % 64) % 2 : Nat) : Int)) == 1) = (gw x (i / 64) / 2 ^ (i % 64) % 2 == 1) by rw [Bool.eq_iff_iff, beq_iff_eq, beq_iff_eq]; omega]
  · go_wp2
    go_ret2
    exact ⟨by rw [HBH.out (by omega)]; rfl, rfl⟩

set_option maxHeartbeats 1000000 in
theorem NLow_any (lo : Nat) (a : Value) (l : List Nat) (w : World) (ha : Words lo w a l) (hl : (limbsOf (valN l)).length ≤ 1024) (hT : TabW w) :
    Calls Tryz.prog 177 #[a] w fun e w' => e = .returned (.tuple #[.int .i64 ((tz (valN l) : Nat) : Int), .int .i64 0]) ∧ w = w' := by
  have hvl := valN_limbsOf (valN l)
  have hok := okW_limbsOf (valN l)
  have HT := Lib.hid hT
  generalize hx : limbsOf (valN l) = x at *
  have HX := Lib.hid hx
  have HV := Lib.hid hvl
  clear hx hvl hT
  go_enter Tryz.func177, Tryz.ntmps177
  go_wp2_with fail
  refine (one_any lo _ l _ ha (by rw [HX.out]; exact hl)).mono ?_
  rintro e w1 ⟨v1, rfl, hv1, hw⟩
  subst hw
  have hv := hv1.words
  rw [HX.out] at hv
  obtain ⟨p, cap, rfl, hcap, hcm, _, hcell⟩ := hv
  have HC := Lib.hid hcell
  clear hcell hv1
  go_wp2_with fail
  go_loop [15] (fun u => ∃ k : Nat, k ≤ x.length ∧ u = .int .i64 k ∧ Hid (∀ j, j < k → gw x j = 0)) (fun u => x.length - (intOf u).toNat)
  case atStart => exact ⟨0, Nat.zero_le _, rfl, fun j hj => by omega⟩
  case round =>
    obtain ⟨k, hk, rfl, hz⟩ := hrel
    by_cases hlt : k < x.length
    · obtain ⟨b, off, rfl, _, hc⟩ := HC.out k hlt
      cases hv : (((gw x k : Nat) : Int) != 0)
      · have hz' : Hid (∀ j, j < k + 1 → gw x j = 0) := fun j hj => by
          by_cases e : j = k
          · subst e; simp at hv; omega
          · exact hz.out j (by omega)
        clear hz
        go_wp2
        go_round
        case rel => exact ⟨k + 1, by omega, by go_num, hz'⟩
        case measure => simp [intOf]; omega
      · have hne : gw x k ≠ 0 := by intro e; rw [e] at hv; simp at hv
        have hg := okW_gw hok k
        obtain ⟨ht, _⟩ := tz_words hok hz.out hne
        have hb := (tz_ctz hne hg).2
        have HTZ := Lib.hid ht
        have HNE := Lib.hid hne
        clear hz ht hne
        go_wp2_with (go_at_call 117; refine (tz64 _ HNE.out hg _ HT.out).mono ?_; rintro e w1 ⟨rfl, rfl⟩)
        go_ret2
        exact ⟨by rw [← HV.out, HTZ.out]; simp, rfl⟩
    · obtain rfl : k = x.length := by omega
      have h0 := words_zero hz.out
      have H0 := Lib.hid h0
      clear h0 hz
      go_wp2
      go_ret2
      exact ⟨by rw [← HV.out, H0.out, tz_zero]; rfl, rfl⟩
end Go.Proofs.YtkfbailpifmdcaaGreatDoor
end

section
namespace Go.Proofs.YtkfbailpifmdcaaGreatDoor
open Go.RowKit

set_option maxRecDepth 100000 in
set_option maxHeartbeats 2000000 in
theorem nshl_any (lo : Nat) (a : Value) (V : Nat) (n : Nat) (w : World) (ha : Num lo w a V) (hl : (limbsOf V).length ≤ 549755813888) (hn : n ≤ 17592186044416) :
    Calls Tryz.prog 183 #[a, .int .i64 ((n : Nat) : Int)] w (NumPost w w.heap.size (V * 2 ^ n)) := by
  have e1 := valN_limbsOf V
  have hv1' := ha.words
  clear ha
  generalize limbsOf V = x at *
  have E1 := Lib.hid e1
  clear e1
  have hokx := hv1'.ok
  obtain ⟨pa, ca, rfl, hca, hcma, _, hxa⟩ := hv1'
  have HXA := Lib.hid hxa
  have hlx : x.length ≤ 549755813888 := hl
  clear hxa hl
  go_enter Tryz.func183, Tryz.ntmps183
  by_cases h0 : x.length = 0
  · have hz : V * 2 ^ n = 0 := by rw [← E1.out, List.length_eq_zero_iff.1 h0]; simp [valN]
    have HZ := Lib.hid hz
    clear hz
    have hb : (((x.length : Nat) : Int) == 0) = true := by rw [h0]; rfl
    clear h0
    go_wp2
    go_ret
    exact ⟨_, rfl, by rw [HZ.out]; exact Num.zero _ _ _ _ (by omega), Below.refl _ _⟩
  · have hb : (((x.length : Nat) : Int) == 0) = false := beq_eq_false_iff_ne.2 (by omega)
    have hmk := make_words 201 Tryz.underlying201 (x.length + n / 64 + 1) (by omega)
    have hmk' : ∀ w : World, (Instr.makeSlice 201 (.int .i64 (((x.length : Nat) : Int) + ((n : Nat) : Int) / 64 + 1)) (.int .i64 (((x.length : Nat) : Int) + ((n : Nat) : Int) / 64 + 1))).run Tryz.prog w = .ok (.slice (some ⟨w.heap.size, 0, none⟩) (x.length + n / 64 + 1) (x.length + n / 64 + 1)) (w.alloc (.cells (wArr (List.replicate (x.length + n / 64 + 1) 0)) 22)) := fun w => by
      rw [show ((x.length : Nat) : Int) + ((n : Nat) : Int) / 64 + 1 = ((x.length + n / 64 + 1 : Nat) : Int) by omega]; exact hmk w
    clear hmk h0
    have hkk : n % 64 < 64 := Nat.mod_lt _ (by decide)
    go_wp2_with fail
    clear hmk'
    go_loopw [25] (fun u25 wr => ShlRel w.heap.size w x (n / 64) (n % 64) u25 wr) (fun u25 _ => x.length - (intOf u25).toNat)
    case atStart => exact ⟨0, List.replicate (x.length + n / 64 + 1) 0, by omega, rfl, by rw [List.length_replicate]; omega, okW_replicate _, by rw [gw_replicate]; exact Nat.two_pow_pos _, fun j _ => gw_replicate _ _, by rw [vt_replicate]; simp [vt], Blk.new _ _ _, (Below.refl _ _).alloc (Nat.le_refl _) _⟩
    case round =>
      obtain ⟨i, z, hi, rfl, hzl, hzo, hzc, hz0, hsum, hz, hbl⟩ := hrel
      have HS := Lib.hid hsum
      have HZ := Lib.hid hzl
      have H0 := Lib.hid hz0
      clear hsum hzl hz0
      by_cases hlt : i < x.length
      · obtain ⟨b1, o1, rfl, _, hcx⟩ := HXA.out i hlt
        have hcx' := (hbl.cell (World.block_lt_of_cell? w _ hcx)).trans hcx
        have hxi := okW_gw hokx i
        have zc := hz.cell (n / 64 + i) _ (wArr_get z (n / 64 + i) (by have := HZ.out; omega))
        have zf := hz.free (n / 64 + i)
        have zc2 := hz.cell (n / 64 + i + 1) _ (wArr_get z (n / 64 + i + 1) (by have := HZ.out; omega))
        have zf2 := hz.free (n / 64 + i + 1)
        rw [Nat.add_comm (n / 64) i] at zf zf2
        have zc' : wr.cell? ⟨w.heap.size, i + n / 64, none⟩ = some (.int .u64 ((gw z (n / 64 + i) : Nat) : Int)) := by rw [Nat.add_comm i]; exact zc
        have zc2' : wr.cell? ⟨w.heap.size, i + n / 64 + 1, none⟩ = some (.int .u64 ((gw z (n / 64 + i + 1) : Nat) : Int)) := by rw [Nat.add_comm i]; exact zc2
        clear hcx zc zc2
        by_cases hk0 : n % 64 = 0
        · have hkb : ¬ (0 < n % 64) := by omega
          have HK := Lib.hid hk0
          clear hk0
          go_wp2_with fail
          go_region
          all_goals (go_wp2_with fail)
          go_roundw
          case rel => rw [Nat.add_comm i (n / 64)]; exact shl_close0 (shl_word hzc hkk) HK.out (Nat.le_refl _) hlt hokx HZ.out hzo hzc H0.out HS.out hz hbl
          case measure => simp [intOf]; omega
        · have hkb : 0 < n % 64 := by omega
          clear hk0
          go_wp2_with fail
          go_region
          all_goals (go_wp2_with fail)
          go_roundw
          case rel => rw [Nat.add_comm i (n / 64)]; exact shl_close (shl_word hzc hkk) (by rw [shH_shr (by omega), shr_cast]) hkk (Nat.le_refl _) hlt hokx HZ.out hzo hzc H0.out HS.out hz hbl
          case measure => simp [intOf]; omega
      · obtain rfl : i = x.length := by omega
        have hw2 := Words.ofBlk_all (lo := w.heap.size) hz (Nat.le_refl _) hzo (by have := HZ.out; omega)
        rw [HZ.out, Nat.add_comm (n / 64) x.length] at hw2
        have hval : valN z = V * 2 ^ n := by
          have h1 := HS.out
          rw [vt_all z _ (by have := HZ.out; omega), vt_all x _ (Nat.le_refl _), pw_two, ← Nat.pow_add, E1.out, show 64 * (n / 64) + n % 64 = n by omega] at h1
          exact h1
        have HV := Lib.hid hval
        clear hval
        go_wp2_with fail
        refine (norm_any w.heap.size _ _ _ hw2).mono ?_
        rintro e w3 ⟨v, rfl, hv, rfl⟩
        rw [HV.out] at hv
        go_wp2
        go_ret
        exact ⟨_, rfl, hv, hbl⟩
end Go.Proofs.YtkfbailpifmdcaaGreatDoor
end

section
namespace Go.Proofs.YtkfbailpifmdcaaGreatDoor
open Go.RowKit

set_option maxHeartbeats 1000000 in
theorem answer_any (lo : Nat) (a : Value) (V : Nat) (w : World) (ha : Num lo w a V) (hl : (limbsOf V).length ≤ 1024) :
    Calls Tryz.prog 182 #[a] w fun e w' => ∃ v, e = .returned (.tuple #[v, .int .i64 0]) ∧ Num w.heap.size w' v V ∧ Below w.heap.size w w' := by
  go_enter Tryz.func182, Tryz.ntmps182
  go_wp2_with fail
  refine (great_any lo _ _ _ ha.words).mono ?_
  rintro e w1 ⟨rfl, hw⟩
  subst hw
  have hb : decide (1024 < (limbsOf V).length) = false := decide_eq_false (by omega)
  rw [hb]
  clear hb
  go_wp2_with fail
  refine (own_any lo _ _ _ ha.words (by omega)).mono ?_
  rintro e w1 ⟨v2, rfl, hv2, hb⟩
  go_wp2
  go_ret2
  exact ⟨_, rfl, hv2, hb⟩

set_option maxHeartbeats 1000000 in
theorem NShl_any (lo : Nat) (a : Value) (l : List Nat) (n : Nat) (w : World) (ha : Words lo w a l) (hl : (limbsOf (valN l)).length ≤ 1024) (hn : n ≤ 65536) (hr : (limbsOf (valN l * 2 ^ n)).length ≤ 1024) :
    Calls Tryz.prog 173 #[a, .int .i64 ((n : Nat) : Int)] w fun e w' => ∃ v, e = .returned (.tuple #[v, .int .i64 0]) ∧ Num w.heap.size w' v (valN l * 2 ^ n) ∧ Below w.heap.size w w' := by
  have hz := @limbsOf_len_zero (valN l)
  have HZ := Lib.hid hz
  clear hz
  go_enter Tryz.func173, Tryz.ntmps173
  go_wp2_with fail
  refine (one_any lo _ l _ ha hl).mono ?_
  rintro e w1 ⟨v1, rfl, hv1, hw⟩
  subst hw
  have HV := Lib.hid hv1
  obtain ⟨p, cap, rfl, hcap, hcm, _, _⟩ := hv1.words
  by_cases h0 : (limbsOf (valN l)).length = 0
  · have hb : ((((limbsOf (valN l)).length : Nat) : Int) == 0) = true := by rw [h0]; rfl
    have hv0 := HZ.out.1 h0
    have HV0 := Lib.hid hv0
    clear h0 hv0
    go_wp2
    go_ret2
    exact ⟨_, rfl, by rw [HV0.out, Nat.zero_mul]; exact Num.zero _ _ _ _ (by omega), Below.refl _ _⟩
  · have hb : ((((limbsOf (valN l)).length : Nat) : Int) == 0) = false := beq_eq_false_iff_ne.2 (by omega)
    clear h0 hv1
    go_wp2_with fail
    refine (nshl_any lo _ (valN l) n _ HV.out (by omega) (by omega)).mono ?_
    rintro e w2 ⟨v2, rfl, hv2, hb2⟩
    go_wp2_with fail
    refine (answer_any _ _ _ _ hv2 hr).mono ?_
    rintro e w3 ⟨v3, rfl, hv3, hb3⟩
    go_wp2
    go_ret2
    exact ⟨_, rfl, hv3.mono hb2.size, hb2.trans (hb3.mono hb2.size)⟩
end Go.Proofs.YtkfbailpifmdcaaGreatDoor
end
