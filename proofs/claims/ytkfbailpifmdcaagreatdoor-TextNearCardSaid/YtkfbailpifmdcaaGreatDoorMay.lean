/- RefO -/
import Derived.Test.YtkfbailpifmdcaaGreatDoorMax
import Derived.Test.YtkfbailpifmdcaaGreatDoorMaq
section
namespace Go.Proofs.YtkfbailpifmdcaaGreatDoor
open Go.RowKit

/-- A number's bits and whether anything was lost, ahead of what an infinity says. -/
def nearB (m : Nat) (x : Int) : Nat × Bool :=
  if 1024 < topP m x then (9218868437227405312, true) else if topP m x < -1074 then (0, true) else
  if (atP m x (max (topP m x - 53) (-1074))).1 = 9007199254740992 then ((putP 4503599627370496 false (max (topP m x - 53) (-1074) + 1)).1, (atP m x (max (topP m x - 53) (-1074))).2)
  else ((putP (atP m x (max (topP m x - 53) (-1074))).1 false (max (topP m x - 53) (-1074))).1, (atP m x (max (topP m x - 53) (-1074))).2)
theorem putP_any (q : Nat) (l : Bool) (e : Int) : (putP q l e).1 = (putP q false e).1 ∧ ((putP q l e).1 ≠ 9218868437227405312 → (putP q l e).2 = l) := by
  unfold putP
  split
  · exact ⟨rfl, fun _ => rfl⟩
  · split
    · exact ⟨rfl, fun h => absurd rfl h⟩
    · exact ⟨rfl, fun _ => rfl⟩
theorem nearB_eq {m : Nat} {x : Int} (hm : m ≠ 0) (neg : Bool) : nearP neg m x = (if neg then (nearB m x).1 + 9223372036854775808 else (nearB m x).1, if (nearB m x).1 = 9218868437227405312 then 20 else if (nearB m x).2 then (if tinyB m x then 24 else 16) else 0) := by
  obtain ⟨_, _, h3⟩ := near_fin (x := x) hm
  have hz : (m == 0) = false := by simpa using hm
  have e1 : (nearestP m x).1 = (nearB m x).1 ∧ ((nearestP m x).1 ≠ 9218868437227405312 → (nearestP m x).2 = (nearB m x).2) := by
    unfold nearestP nearB
    rw [if_neg hm]
    split
    · exact ⟨rfl, fun h => absurd rfl h⟩
    · split
      · exact ⟨rfl, fun _ => rfl⟩
      · split
        · exact ⟨(putP_any _ _ _).1, (putP_any _ _ _).2⟩
        · exact ⟨(putP_any _ _ _).1, (putP_any _ _ _).2⟩
  unfold nearP
  rw [hz]
  by_cases hi : (nearestP m x).1 = 9218868437227405312
  · rw [h3 hi, if_pos rfl, if_pos hi, ← e1.1, if_pos hi]
    simp
  · rw [e1.2 hi, if_neg hi, ← e1.1, if_neg hi]
    simp

set_option maxRecDepth 100000 in
set_option maxHeartbeats 2000000 in
theorem near05_any (lo : Nat) (v : Value) (neg : Bool) (m : Nat) (x : Int) (w : World) (hd : Dy lo w v neg m x) (hm : bl m ≤ 100000) (hx1 : -100000 ≤ x) (hx2 : x ≤ 100000) (hm0 : m ≠ 0) :
    Calls Tryz.prog 103 #[v] w fun e w' => e = .returned (.agg #[.int .u64 (((nearP neg m x).1 : Nat) : Int), .int .u8 (((nearP neg m x).2 : Nat) : Int)]) ∧ Below w.heap.size w w' := by
  have hd0 := hd
  obtain ⟨a, rfl, ha⟩ := hd
  have hlt := nearestP_lt m x
  have hBl : (nearB m x).1 ≤ 9218868437227405312 := by
    have h := congrArg Prod.fst (nearB_eq (x := x) hm0 false)
    simp at h
    unfold nearP at h
    simp at h
    omega
  rw [nearB_eq hm0]
  have hl : (limbsOf m).length ≤ 1000000 := limbs3 (by omega)
  have hL := fun w ha => Len03_any lo a (limbsOf m) w ha (by omega)
  rw [valN_limbsOf] at hL
  have hT := fun w hd => top05_any lo (.agg #[.bool neg, a, .int .i64 x]) neg m x w hd (by omega) (by omega) (by omega)
  have hY := fun w hd => tiny05_any lo (.agg #[.bool neg, a, .int .i64 x]) neg m x w hd (by omega) (by omega) (by omega)
  have hC := fun e w ha h1 h2 => cut05_any lo a m x e w ha (by omega) (by omega) (by omega) h1 h2
  have hbz : bl m ≠ 0 := fun h => hm0 ((bl0 m).1 h)
  have hbe : (((bl m : Nat) : Int) == 0) = false := beq_eq_false_iff_ne.2 (by omega)
  have htp : topP m x = ((bl m : Nat) : Int) + x := rfl
  obtain ⟨B, hB⟩ : ∃ B, nearB m x = B := ⟨_, rfl⟩
  rw [hB] at hBl ⊢
  unfold nearB at hB
  obtain ⟨tn, htn⟩ : ∃ tn, tinyB m x = tn := ⟨_, rfl⟩
  rw [htn] at hY ⊢
  obtain ⟨px, cx, rfl⟩ : ∃ xx cc, a = .slice xx (limbsOf m).length cc := by
    obtain ⟨xx, cc, e, _⟩ := ha
    exact ⟨xx, cc, e⟩
  obtain ⟨t, ht⟩ : ∃ t, topP m x = t := ⟨_, rfl⟩
  rw [ht] at hT hB htp
  have ht1 : -1000000 ≤ t := by omega
  have ht2 : t ≤ 1000000 := by omega
  obtain ⟨e0, he0⟩ : ∃ e0, max (t - 53) (-1074) = e0 := ⟨_, rfl⟩
  rw [he0] at hB
  have he0i : max (t - 53) (-1074 : Int) = e0 := he0
  have he1 : -1074 ≤ e0 := by omega
  have he2 : t - 53 ≤ e0 := by omega
  have he3 : e0 ≤ 1000000 := by omega
  have hcat := @cut_at m x e0
  have hatl := @atP_le m x e0 (by rw [ht]; exact he2) hm0
  have hba := (Below.refl w.heap.size w).alloc (Nat.le_refl _) (.cells #[.bool neg, .slice px (limbsOf m).length cx, .int .i64 x] 62)
  have hk := Blk.new w #[.bool neg, .slice px (limbsOf m).length cx, .int .i64 x] 62
  have hd1 := hd0.call hba
  have ha1 := ha.call hba
  have HL := Lib.hid hL
  have HT := Lib.hid hT
  have HY := Lib.hid hY
  have HC := Lib.hid hC
  have HB := Lib.hid hB
  have HTP := Lib.hid htp
  obtain ⟨R1, hR1⟩ : ∃ R1, (if neg then B.1 + 9223372036854775808 else B.1) = R1 := ⟨_, rfl⟩
  obtain ⟨R2, hR2⟩ : ∃ R2, (if B.1 = 9218868437227405312 then 20 else if B.2 then (if tn then 24 else 16) else 0) = R2 := ⟨_, rfl⟩
  rw [hR1, hR2]
  have HR1 := Lib.hid hR1
  have HR2 := Lib.hid hR2
  clear hL hT hY hC hB htp hR1 hR2 hd0 ht htn he0 hbz hlt hm0
  go_enter Tryz.func103, Tryz.ntmps103
  go_upto_region 2 with fail
  have HA := Lib.hid ha
  have hb3 := (hba.alloc (by simp) (.cells #[.int .u64 0, .int .u8 0] 25)).alloc (by simp; omega) (.cells #[.int .u64 0, .int .u8 0] 25)
  have hk03 := (hk.alloc (.cells #[.int .u64 0, .int .u8 0] 25)).alloc (.cells #[.int .u64 0, .int .u8 0] 25)
  have hk13 := (Blk.new (w.alloc (.cells #[.bool neg, .slice px (limbsOf m).length cx, .int .i64 x] 62)) #[.int .u64 0, .int .u8 0] 25).alloc (.cells #[.int .u64 0, .int .u8 0] 25)
  have hk23 := Blk.new ((w.alloc (.cells #[.bool neg, .slice px (limbsOf m).length cx, .int .i64 x] 62)).alloc (.cells #[.int .u64 0, .int .u8 0] 25)) #[.int .u64 0, .int .u8 0] 25
  rw [show (w.alloc (.cells #[.bool neg, .slice px (limbsOf m).length cx, .int .i64 x] 62)).heap.size = w.heap.size + 1 by simp] at hk13
  rw [show ((w.alloc (.cells #[.bool neg, .slice px (limbsOf m).length cx, .int .i64 x] 62)).alloc (.cells #[.int .u64 0, .int .u8 0] 25)).heap.size = w.heap.size + 1 + 1 by simp] at hk23
  generalize hW3 : ((w.alloc (.cells #[.bool neg, .slice px (limbsOf m).length cx, .int .i64 x] 62)).alloc (.cells #[.int .u64 0, .int .u8 0] 25)).alloc (.cells #[.int .u64 0, .int .u8 0] 25) = w3 at *
  obtain ⟨g2, hg2e⟩ : ∃ g2, w.heap.size + 1 + 1 = g2 := ⟨_, rfl⟩
  obtain ⟨g1, hg1e⟩ : ∃ g1, w.heap.size + 1 = g1 := ⟨_, rfl⟩
  obtain ⟨g0, hg0e⟩ : ∃ g0, w.heap.size = g0 := ⟨_, rfl⟩
  have hg1 : w.heap.size ≤ g1 := by omega
  have hg2 : w.heap.size ≤ g2 := by omega
  have hg12 : g1 ≠ g2 := by omega
  have hg02 : g0 ≠ g2 := by omega
  rw [hg2e] at hk23
  rw [hg1e] at hk13
  rw [hg0e] at hk03
  rw [hg2e, hg1e, hg0e]
  clear hW3 hba hk hd1 ha1 hg2e hg1e hg0e ha
  have k0 := hk03.cell 0 _ rfl
  have k1 := hk03.cell 1 _ rfl
  have k2 := hk03.cell 2 _ rfl
  go_wp2_with fail
  refine (HL.out _ (HA.out.call hb3).words).mono ?_
  rintro en w4 ⟨rfl, hb4⟩
  have hk04 := hk03.call hb4
  have hk14 := hk13.call hb4
  have hk24 := hk23.call hb4
  have hb34 := hb3.trans (hb4.mono hb3.size)
  have k0 := hk04.cell 0 _ rfl
  have k1 := hk04.cell 1 _ rfl
  have k2 := hk04.cell 2 _ rfl
  clear hk03 hk13 hk23 hb3 hb4
  go_wp2_with fail
  refine (HT.out _ ⟨_, rfl, HA.out.call hb34⟩).mono ?_
  rintro en w5 ⟨rfl, hb5⟩
  have hk05 := hk04.call hb5
  have hk15 := hk14.call hb5
  have hk25 := hk24.call hb5
  have hb35 := hb34.trans (hb5.mono hb34.size)
  have k0 := hk05.cell 0 _ rfl
  have k1 := hk05.cell 1 _ rfl
  have k2 := hk05.cell 2 _ rfl
  clear hk04 hk14 hk24 hb34 hb5
  go_wp2_with fail
  refine (HT.out _ ⟨_, rfl, HA.out.call hb35⟩).mono ?_
  rintro en w6 ⟨rfl, hb6⟩
  have hk06 := hk05.call hb6
  have hk16 := hk15.call hb6
  have hk26 := hk25.call hb6
  have hb36 := hb35.trans (hb6.mono hb35.size)
  clear hk05 hk15 hk25 hb35 hb6 k0 k1 k2
  have f0 := hk26.free 0
  have fc0 := hk26.cell 0 _ rfl
  obtain ⟨b, s⟩ := B
  simp only at HB HR1 HR2 hBl
  by_cases c1 : 1024 < t
  · have hb := HB.out
    rw [if_pos c1] at hb
    injection hb with hb1 hb2
    subst hb2
    have HB1 := Lib.hid hb1
    clear hb1
    go_upto_region 16 with fail
    have e9 : (9218868437227405312 : Int) = ((b : Nat) : Int) := by have := HB1.out; omega
    have hk2B := hk26.set 0 (.int .u64 9218868437227405312)
    have hk1B := hk16.set_other hg12 0 (.int .u64 9218868437227405312)
    have hk0B := hk06.set_other hg02 0 (.int .u64 9218868437227405312)
    have hbB := hb36.setCell (show w.heap.size ≤ (⟨g2, 0, none⟩ : Addr).block from hg2) (.int .u64 9218868437227405312)
    generalize hWB : w6.setCell ⟨g2, 0, none⟩ (.int .u64 9218868437227405312) = wB at *
    have hk2B : Blk wB g2 #[.int .u64 ((b : Nat) : Int), .int .u8 0] 25 := by rw [← e9]; exact hk2B
    clear hWB hk26 hk16 hk06 hb36 e9
    have zz0 := hk2B.free 1
    have zc0 := hk2B.cell 1 _ rfl
    go_upto_region 18 with fail
    have hk2F := hk2B.set 1 (.int .u8 16)
    have hk1F := hk1B.set_other (b' := g2) (by omega) 1 (.int .u8 16)
    have hk0F := hk0B.set_other (b' := g2) (by omega) 1 (.int .u8 16)
    have hbF := hbB.setCell (show w.heap.size ≤ (⟨g2, 1, none⟩ : Addr).block from hg2) (.int .u8 16)
    have qq0 := hk0F.cell 0 _ rfl
    have qq1 := hk0F.cell 1 _ rfl
    have qq2 := hk0F.cell 2 _ rfl
    generalize hWF : wB.setCell ⟨g2, 1, none⟩ (.int .u8 16) = wF at *
    go_wp2_with fail
    refine (HY.out _ ⟨_, rfl, HA.out.call hbF⟩).mono ?_
    rintro en wG ⟨rfl, hbg⟩
    have hk2G := hk2F.call hbg
    have hk1G := hk1F.call hbg
    have hk0G := hk0F.call hbg
    have hbG := hbF.trans (hbg.mono hbF.size)
    clear hk2F hk1F hk0F hk2B hk1B hk0B hbB hWF hbF hbg qq0 qq1 qq2
    have p1 := hk2G.cell 1 _ rfl
    have zz1 := hk2G.free 1
    cases tn with
    | false =>
      go_upto_region 20 with fail
      have p0 := hk2G.cell 0 _ rfl
      have p1 := hk2G.cell 1 _ rfl
      have z0 := hk2G.free 0
      have z1 := hk2G.free 1
      by_cases hi : b = 9218868437227405312
      · have hib : (((b : Nat) : Int) == 9218868437227405312) = true := beq_iff_eq.2 (by omega)
        have hv2 : R2 = 20 := by have := HR2.out; rw [if_pos hi] at this; exact this.symm
        clear hi
        go_upto_region 22 with fail
        have hk2i := hk2G.set 1 (.int .u8 20)
        have hk1i := hk1G.set_other (b' := g2) (by omega) 1 (.int .u8 20)
        have hk0i := hk0G.set_other (b' := g2) (by omega) 1 (.int .u8 20)
        have hbi := hbG.setCell (show w.heap.size ≤ (⟨g2, 1, none⟩ : Addr).block from hg2) (.int .u8 20)
        have hr2 : R2 = 20 := hv2
        subst hr2
        have p0 := hk2i.cell 0 _ rfl
        have p1 := hk2i.cell 1 _ rfl
        have q0 := hk0i.cell 0 _ rfl
        have z0 := hk2i.free 0
        have z1 := hk2i.free 1
        have y0 := hk1i.free 0
        have y1 := hk1i.free 1
        have yc0 := hk1i.cell 0 _ rfl
        have yc1 := hk1i.cell 1 _ rfl
        cases neg with
        | false =>
          have hr1 : R1 = b := by have := HR1.out; simpa using this.symm
          subst hr1
          go_wp2_with fail
          have hq1 := (((hk1i).set 0 (.int .u64 ((R1 : Nat) : Int))).set 1 (.int .u8 20))
          have o0 := hq1.cell 0 _ rfl
          have o1 := hq1.cell 1 _ rfl
          exact bodyPost_ret (v := .agg #[.int .u64 ((R1 : Nat) : Int), .int .u8 20]) (by simp [results, Tryz.results103, go_sem, o0, o1]; try rfl) rfl ⟨rfl, (hbi.setCell hg1 _).setCell hg1 _⟩
        | true =>
          have hr1 : R1 = b + 9223372036854775808 := by have := HR1.out; simpa using this.symm
          have hng : neg3 b = R1 := by unfold neg3; rw [if_neg (by omega)]; exact hr1.symm
          have hn := fun w => Neg01_any b w (by omega)
          simp only [hng] at hn
          clear hr1 hng
          go_wp2_with fail
          refine (hn _).mono ?_
          rintro en w9 ⟨rfl, hw⟩
          subst hw
          have hk2n := hk2i.set 0 (.int .u64 ((R1 : Nat) : Int))
          have hk1n := hk1i.set_other (b' := g2) (by omega) 0 (.int .u64 ((R1 : Nat) : Int))
          have hbn := hbi.setCell (show w.heap.size ≤ (⟨g2, 0, none⟩ : Addr).block from hg2) (.int .u64 ((R1 : Nat) : Int))
          have p0 := hk2n.cell 0 _ rfl
          have p1 := hk2n.cell 1 _ rfl
          have y0 := hk1n.free 0
          have y1 := hk1n.free 1
          have yc0 := hk1n.cell 0 _ rfl
          have yc1 := hk1n.cell 1 _ rfl
          go_wp2_with fail
          have hq1 := (((hk1n).set 0 (.int .u64 ((R1 : Nat) : Int))).set 1 (.int .u8 20))
          have o0 := hq1.cell 0 _ rfl
          have o1 := hq1.cell 1 _ rfl
          exact bodyPost_ret (v := .agg #[.int .u64 ((R1 : Nat) : Int), .int .u8 20]) (by simp [results, Tryz.results103, go_sem, o0, o1]; try rfl) rfl ⟨rfl, (hbn.setCell hg1 _).setCell hg1 _⟩
      · have hib : (((b : Nat) : Int) == 9218868437227405312) = false := beq_eq_false_iff_ne.2 (by omega)
        have hv2 : R2 = 16 := by have := HR2.out; rw [if_neg hi] at this; simpa using this.symm
        clear hi
        go_upto_region 22 with fail
        have hr2 : R2 = 16 := hv2
        subst hr2
        have p0 := hk2G.cell 0 _ rfl
        have p1 := hk2G.cell 1 _ rfl
        have q0 := hk0G.cell 0 _ rfl
        have z0 := hk2G.free 0
        have z1 := hk2G.free 1
        have y0 := hk1G.free 0
        have y1 := hk1G.free 1
        have yc0 := hk1G.cell 0 _ rfl
        have yc1 := hk1G.cell 1 _ rfl
        cases neg with
        | false =>
          have hr1 : R1 = b := by have := HR1.out; simpa using this.symm
          subst hr1
          go_wp2_with fail
          have hq1 := (((hk1G).set 0 (.int .u64 ((R1 : Nat) : Int))).set 1 (.int .u8 16))
          have o0 := hq1.cell 0 _ rfl
          have o1 := hq1.cell 1 _ rfl
          exact bodyPost_ret (v := .agg #[.int .u64 ((R1 : Nat) : Int), .int .u8 16]) (by simp [results, Tryz.results103, go_sem, o0, o1]; try rfl) rfl ⟨rfl, (hbG.setCell hg1 _).setCell hg1 _⟩
        | true =>
          have hr1 : R1 = b + 9223372036854775808 := by have := HR1.out; simpa using this.symm
          have hng : neg3 b = R1 := by unfold neg3; rw [if_neg (by omega)]; exact hr1.symm
          have hn := fun w => Neg01_any b w (by omega)
          simp only [hng] at hn
          clear hr1 hng
          go_wp2_with fail
          refine (hn _).mono ?_
          rintro en w9 ⟨rfl, hw⟩
          subst hw
          have hk2n := hk2G.set 0 (.int .u64 ((R1 : Nat) : Int))
          have hk1n := hk1G.set_other (b' := g2) (by omega) 0 (.int .u64 ((R1 : Nat) : Int))
          have hbn := hbG.setCell (show w.heap.size ≤ (⟨g2, 0, none⟩ : Addr).block from hg2) (.int .u64 ((R1 : Nat) : Int))
          have p0 := hk2n.cell 0 _ rfl
          have p1 := hk2n.cell 1 _ rfl
          have y0 := hk1n.free 0
          have y1 := hk1n.free 1
          have yc0 := hk1n.cell 0 _ rfl
          have yc1 := hk1n.cell 1 _ rfl
          go_wp2_with fail
          have hq1 := (((hk1n).set 0 (.int .u64 ((R1 : Nat) : Int))).set 1 (.int .u8 16))
          have o0 := hq1.cell 0 _ rfl
          have o1 := hq1.cell 1 _ rfl
          exact bodyPost_ret (v := .agg #[.int .u64 ((R1 : Nat) : Int), .int .u8 16]) (by simp [results, Tryz.results103, go_sem, o0, o1]; try rfl) rfl ⟨rfl, (hbn.setCell hg1 _).setCell hg1 _⟩
    | true =>
      have hor : bits BinOp.or IntKind.u8 16 8 = 24 := by decide
      go_upto_region 20 with fail
      have hk2H := hk2G.set 1 (.int .u8 24)
      have hk1H := hk1G.set_other (b' := g2) (by omega) 1 (.int .u8 24)
      have hk0H := hk0G.set_other (b' := g2) (by omega) 1 (.int .u8 24)
      have hbH := hbG.setCell (show w.heap.size ≤ (⟨g2, 1, none⟩ : Addr).block from hg2) (.int .u8 24)
      generalize hWH : wG.setCell ⟨g2, 1, none⟩ (.int .u8 24) = wH at *
      clear hk2G hk1G hk0G hbG hWH
      have p0 := hk2H.cell 0 _ rfl
      have p1 := hk2H.cell 1 _ rfl
      have z0 := hk2H.free 0
      have z1 := hk2H.free 1
      by_cases hi : b = 9218868437227405312
      · have hib : (((b : Nat) : Int) == 9218868437227405312) = true := beq_iff_eq.2 (by omega)
        have hv2 : R2 = 20 := by have := HR2.out; rw [if_pos hi] at this; exact this.symm
        clear hi
        go_upto_region 22 with fail
        have hk2i := hk2H.set 1 (.int .u8 20)
        have hk1i := hk1H.set_other (b' := g2) (by omega) 1 (.int .u8 20)
        have hk0i := hk0H.set_other (b' := g2) (by omega) 1 (.int .u8 20)
        have hbi := hbH.setCell (show w.heap.size ≤ (⟨g2, 1, none⟩ : Addr).block from hg2) (.int .u8 20)
        have hr2 : R2 = 20 := hv2
        subst hr2
        have p0 := hk2i.cell 0 _ rfl
        have p1 := hk2i.cell 1 _ rfl
        have q0 := hk0i.cell 0 _ rfl
        have z0 := hk2i.free 0
        have z1 := hk2i.free 1
        have y0 := hk1i.free 0
        have y1 := hk1i.free 1
        have yc0 := hk1i.cell 0 _ rfl
        have yc1 := hk1i.cell 1 _ rfl
        cases neg with
        | false =>
          have hr1 : R1 = b := by have := HR1.out; simpa using this.symm
          subst hr1
          go_wp2_with fail
          have hq1 := (((hk1i).set 0 (.int .u64 ((R1 : Nat) : Int))).set 1 (.int .u8 20))
          have o0 := hq1.cell 0 _ rfl
          have o1 := hq1.cell 1 _ rfl
          exact bodyPost_ret (v := .agg #[.int .u64 ((R1 : Nat) : Int), .int .u8 20]) (by simp [results, Tryz.results103, go_sem, o0, o1]; try rfl) rfl ⟨rfl, (hbi.setCell hg1 _).setCell hg1 _⟩
        | true =>
          have hr1 : R1 = b + 9223372036854775808 := by have := HR1.out; simpa using this.symm
          have hng : neg3 b = R1 := by unfold neg3; rw [if_neg (by omega)]; exact hr1.symm
          have hn := fun w => Neg01_any b w (by omega)
          simp only [hng] at hn
          clear hr1 hng
          go_wp2_with fail
          refine (hn _).mono ?_
          rintro en w9 ⟨rfl, hw⟩
          subst hw
          have hk2n := hk2i.set 0 (.int .u64 ((R1 : Nat) : Int))
          have hk1n := hk1i.set_other (b' := g2) (by omega) 0 (.int .u64 ((R1 : Nat) : Int))
          have hbn := hbi.setCell (show w.heap.size ≤ (⟨g2, 0, none⟩ : Addr).block from hg2) (.int .u64 ((R1 : Nat) : Int))
          have p0 := hk2n.cell 0 _ rfl
          have p1 := hk2n.cell 1 _ rfl
          have y0 := hk1n.free 0
          have y1 := hk1n.free 1
          have yc0 := hk1n.cell 0 _ rfl
          have yc1 := hk1n.cell 1 _ rfl
          go_wp2_with fail
          have hq1 := (((hk1n).set 0 (.int .u64 ((R1 : Nat) : Int))).set 1 (.int .u8 20))
          have o0 := hq1.cell 0 _ rfl
          have o1 := hq1.cell 1 _ rfl
          exact bodyPost_ret (v := .agg #[.int .u64 ((R1 : Nat) : Int), .int .u8 20]) (by simp [results, Tryz.results103, go_sem, o0, o1]; try rfl) rfl ⟨rfl, (hbn.setCell hg1 _).setCell hg1 _⟩
      · have hib : (((b : Nat) : Int) == 9218868437227405312) = false := beq_eq_false_iff_ne.2 (by omega)
        have hv2 : R2 = 24 := by have := HR2.out; rw [if_neg hi] at this; simpa using this.symm
        clear hi
        go_upto_region 22 with fail
        have hr2 : R2 = 24 := hv2
        subst hr2
        have p0 := hk2H.cell 0 _ rfl
        have p1 := hk2H.cell 1 _ rfl
        have q0 := hk0H.cell 0 _ rfl
        have z0 := hk2H.free 0
        have z1 := hk2H.free 1
        have y0 := hk1H.free 0
        have y1 := hk1H.free 1
        have yc0 := hk1H.cell 0 _ rfl
        have yc1 := hk1H.cell 1 _ rfl
        cases neg with
        | false =>
          have hr1 : R1 = b := by have := HR1.out; simpa using this.symm
          subst hr1
          go_wp2_with fail
          have hq1 := (((hk1H).set 0 (.int .u64 ((R1 : Nat) : Int))).set 1 (.int .u8 24))
          have o0 := hq1.cell 0 _ rfl
          have o1 := hq1.cell 1 _ rfl
          exact bodyPost_ret (v := .agg #[.int .u64 ((R1 : Nat) : Int), .int .u8 24]) (by simp [results, Tryz.results103, go_sem, o0, o1]; try rfl) rfl ⟨rfl, (hbH.setCell hg1 _).setCell hg1 _⟩
        | true =>
          have hr1 : R1 = b + 9223372036854775808 := by have := HR1.out; simpa using this.symm
          have hng : neg3 b = R1 := by unfold neg3; rw [if_neg (by omega)]; exact hr1.symm
          have hn := fun w => Neg01_any b w (by omega)
          simp only [hng] at hn
          clear hr1 hng
          go_wp2_with fail
          refine (hn _).mono ?_
          rintro en w9 ⟨rfl, hw⟩
          subst hw
          have hk2n := hk2H.set 0 (.int .u64 ((R1 : Nat) : Int))
          have hk1n := hk1H.set_other (b' := g2) (by omega) 0 (.int .u64 ((R1 : Nat) : Int))
          have hbn := hbH.setCell (show w.heap.size ≤ (⟨g2, 0, none⟩ : Addr).block from hg2) (.int .u64 ((R1 : Nat) : Int))
          have p0 := hk2n.cell 0 _ rfl
          have p1 := hk2n.cell 1 _ rfl
          have y0 := hk1n.free 0
          have y1 := hk1n.free 1
          have yc0 := hk1n.cell 0 _ rfl
          have yc1 := hk1n.cell 1 _ rfl
          go_wp2_with fail
          have hq1 := (((hk1n).set 0 (.int .u64 ((R1 : Nat) : Int))).set 1 (.int .u8 24))
          have o0 := hq1.cell 0 _ rfl
          have o1 := hq1.cell 1 _ rfl
          exact bodyPost_ret (v := .agg #[.int .u64 ((R1 : Nat) : Int), .int .u8 24]) (by simp [results, Tryz.results103, go_sem, o0, o1]; try rfl) rfl ⟨rfl, (hbn.setCell hg1 _).setCell hg1 _⟩
  by_cases c2 : t < -1074
  · have hb := HB.out
    rw [if_neg c1, if_pos c2] at hb
    injection hb with hb1 hb2
    subst hb2
    have HB1 := Lib.hid hb1
    clear hb1
    have k0 := hk06.cell 0 _ rfl
    have k1 := hk06.cell 1 _ rfl
    have k2 := hk06.cell 2 _ rfl
    go_wp2_with fail
    refine (HT.out _ ⟨_, rfl, HA.out.call hb36⟩).mono ?_
    rintro en w7 ⟨rfl, hb7⟩
    have hk07 := hk06.call hb7
    have hk17 := hk16.call hb7
    have hk27 := hk26.call hb7
    have hb37 := hb36.trans (hb7.mono hb36.size)
    have f0 := hk27.free 0
    have fc0 := hk27.cell 0 _ rfl
    clear hk06 hk16 hk26 hb36 hb7 k0 k1 k2
    go_upto_region 16 with fail
    have e9 : (0 : Int) = ((b : Nat) : Int) := by have := HB1.out; omega
    have hk2B := hk27.set 0 (.int .u64 0)
    have hk1B := hk17.set_other hg12 0 (.int .u64 0)
    have hk0B := hk07.set_other hg02 0 (.int .u64 0)
    have hbB := hb37.setCell (show w.heap.size ≤ (⟨g2, 0, none⟩ : Addr).block from hg2) (.int .u64 0)
    generalize hWB : w7.setCell ⟨g2, 0, none⟩ (.int .u64 0) = wB at *
    have hk2B : Blk wB g2 #[.int .u64 ((b : Nat) : Int), .int .u8 0] 25 := by rw [← e9]; exact hk2B
    clear hWB hk27 hk17 hk07 hb37 e9
    have zz0 := hk2B.free 1
    have zc0 := hk2B.cell 1 _ rfl
    go_upto_region 18 with fail
    have hk2F := hk2B.set 1 (.int .u8 16)
    have hk1F := hk1B.set_other (b' := g2) (by omega) 1 (.int .u8 16)
    have hk0F := hk0B.set_other (b' := g2) (by omega) 1 (.int .u8 16)
    have hbF := hbB.setCell (show w.heap.size ≤ (⟨g2, 1, none⟩ : Addr).block from hg2) (.int .u8 16)
    have qq0 := hk0F.cell 0 _ rfl
    have qq1 := hk0F.cell 1 _ rfl
    have qq2 := hk0F.cell 2 _ rfl
    generalize hWF : wB.setCell ⟨g2, 1, none⟩ (.int .u8 16) = wF at *
    go_wp2_with fail
    refine (HY.out _ ⟨_, rfl, HA.out.call hbF⟩).mono ?_
    rintro en wG ⟨rfl, hbg⟩
    have hk2G := hk2F.call hbg
    have hk1G := hk1F.call hbg
    have hk0G := hk0F.call hbg
    have hbG := hbF.trans (hbg.mono hbF.size)
    clear hk2F hk1F hk0F hk2B hk1B hk0B hbB hWF hbF hbg qq0 qq1 qq2
    have p1 := hk2G.cell 1 _ rfl
    have zz1 := hk2G.free 1
    cases tn with
    | false =>
      go_upto_region 20 with fail
      have p0 := hk2G.cell 0 _ rfl
      have p1 := hk2G.cell 1 _ rfl
      have z0 := hk2G.free 0
      have z1 := hk2G.free 1
      by_cases hi : b = 9218868437227405312
      · have hib : (((b : Nat) : Int) == 9218868437227405312) = true := beq_iff_eq.2 (by omega)
        have hv2 : R2 = 20 := by have := HR2.out; rw [if_pos hi] at this; exact this.symm
        clear hi
        go_upto_region 22 with fail
        have hk2i := hk2G.set 1 (.int .u8 20)
        have hk1i := hk1G.set_other (b' := g2) (by omega) 1 (.int .u8 20)
        have hk0i := hk0G.set_other (b' := g2) (by omega) 1 (.int .u8 20)
        have hbi := hbG.setCell (show w.heap.size ≤ (⟨g2, 1, none⟩ : Addr).block from hg2) (.int .u8 20)
        have hr2 : R2 = 20 := hv2
        subst hr2
        have p0 := hk2i.cell 0 _ rfl
        have p1 := hk2i.cell 1 _ rfl
        have q0 := hk0i.cell 0 _ rfl
        have z0 := hk2i.free 0
        have z1 := hk2i.free 1
        have y0 := hk1i.free 0
        have y1 := hk1i.free 1
        have yc0 := hk1i.cell 0 _ rfl
        have yc1 := hk1i.cell 1 _ rfl
        cases neg with
        | false =>
          have hr1 : R1 = b := by have := HR1.out; simpa using this.symm
          subst hr1
          go_wp2_with fail
          have hq1 := (((hk1i).set 0 (.int .u64 ((R1 : Nat) : Int))).set 1 (.int .u8 20))
          have o0 := hq1.cell 0 _ rfl
          have o1 := hq1.cell 1 _ rfl
          exact bodyPost_ret (v := .agg #[.int .u64 ((R1 : Nat) : Int), .int .u8 20]) (by simp [results, Tryz.results103, go_sem, o0, o1]; try rfl) rfl ⟨rfl, (hbi.setCell hg1 _).setCell hg1 _⟩
        | true =>
          have hr1 : R1 = b + 9223372036854775808 := by have := HR1.out; simpa using this.symm
          have hng : neg3 b = R1 := by unfold neg3; rw [if_neg (by omega)]; exact hr1.symm
          have hn := fun w => Neg01_any b w (by omega)
          simp only [hng] at hn
          clear hr1 hng
          go_wp2_with fail
          refine (hn _).mono ?_
          rintro en w9 ⟨rfl, hw⟩
          subst hw
          have hk2n := hk2i.set 0 (.int .u64 ((R1 : Nat) : Int))
          have hk1n := hk1i.set_other (b' := g2) (by omega) 0 (.int .u64 ((R1 : Nat) : Int))
          have hbn := hbi.setCell (show w.heap.size ≤ (⟨g2, 0, none⟩ : Addr).block from hg2) (.int .u64 ((R1 : Nat) : Int))
          have p0 := hk2n.cell 0 _ rfl
          have p1 := hk2n.cell 1 _ rfl
          have y0 := hk1n.free 0
          have y1 := hk1n.free 1
          have yc0 := hk1n.cell 0 _ rfl
          have yc1 := hk1n.cell 1 _ rfl
          go_wp2_with fail
          have hq1 := (((hk1n).set 0 (.int .u64 ((R1 : Nat) : Int))).set 1 (.int .u8 20))
          have o0 := hq1.cell 0 _ rfl
          have o1 := hq1.cell 1 _ rfl
          exact bodyPost_ret (v := .agg #[.int .u64 ((R1 : Nat) : Int), .int .u8 20]) (by simp [results, Tryz.results103, go_sem, o0, o1]; try rfl) rfl ⟨rfl, (hbn.setCell hg1 _).setCell hg1 _⟩
      · have hib : (((b : Nat) : Int) == 9218868437227405312) = false := beq_eq_false_iff_ne.2 (by omega)
        have hv2 : R2 = 16 := by have := HR2.out; rw [if_neg hi] at this; simpa using this.symm
        clear hi
        go_upto_region 22 with fail
        have hr2 : R2 = 16 := hv2
        subst hr2
        have p0 := hk2G.cell 0 _ rfl
        have p1 := hk2G.cell 1 _ rfl
        have q0 := hk0G.cell 0 _ rfl
        have z0 := hk2G.free 0
        have z1 := hk2G.free 1
        have y0 := hk1G.free 0
        have y1 := hk1G.free 1
        have yc0 := hk1G.cell 0 _ rfl
        have yc1 := hk1G.cell 1 _ rfl
        cases neg with
        | false =>
          have hr1 : R1 = b := by have := HR1.out; simpa using this.symm
          subst hr1
          go_wp2_with fail
          have hq1 := (((hk1G).set 0 (.int .u64 ((R1 : Nat) : Int))).set 1 (.int .u8 16))
          have o0 := hq1.cell 0 _ rfl
          have o1 := hq1.cell 1 _ rfl
          exact bodyPost_ret (v := .agg #[.int .u64 ((R1 : Nat) : Int), .int .u8 16]) (by simp [results, Tryz.results103, go_sem, o0, o1]; try rfl) rfl ⟨rfl, (hbG.setCell hg1 _).setCell hg1 _⟩
        | true =>
          have hr1 : R1 = b + 9223372036854775808 := by have := HR1.out; simpa using this.symm
          have hng : neg3 b = R1 := by unfold neg3; rw [if_neg (by omega)]; exact hr1.symm
          have hn := fun w => Neg01_any b w (by omega)
          simp only [hng] at hn
          clear hr1 hng
          go_wp2_with fail
          refine (hn _).mono ?_
          rintro en w9 ⟨rfl, hw⟩
          subst hw
          have hk2n := hk2G.set 0 (.int .u64 ((R1 : Nat) : Int))
          have hk1n := hk1G.set_other (b' := g2) (by omega) 0 (.int .u64 ((R1 : Nat) : Int))
          have hbn := hbG.setCell (show w.heap.size ≤ (⟨g2, 0, none⟩ : Addr).block from hg2) (.int .u64 ((R1 : Nat) : Int))
          have p0 := hk2n.cell 0 _ rfl
          have p1 := hk2n.cell 1 _ rfl
          have y0 := hk1n.free 0
          have y1 := hk1n.free 1
          have yc0 := hk1n.cell 0 _ rfl
          have yc1 := hk1n.cell 1 _ rfl
          go_wp2_with fail
          have hq1 := (((hk1n).set 0 (.int .u64 ((R1 : Nat) : Int))).set 1 (.int .u8 16))
          have o0 := hq1.cell 0 _ rfl
          have o1 := hq1.cell 1 _ rfl
          exact bodyPost_ret (v := .agg #[.int .u64 ((R1 : Nat) : Int), .int .u8 16]) (by simp [results, Tryz.results103, go_sem, o0, o1]; try rfl) rfl ⟨rfl, (hbn.setCell hg1 _).setCell hg1 _⟩
    | true =>
      have hor : bits BinOp.or IntKind.u8 16 8 = 24 := by decide
      go_upto_region 20 with fail
      have hk2H := hk2G.set 1 (.int .u8 24)
      have hk1H := hk1G.set_other (b' := g2) (by omega) 1 (.int .u8 24)
      have hk0H := hk0G.set_other (b' := g2) (by omega) 1 (.int .u8 24)
      have hbH := hbG.setCell (show w.heap.size ≤ (⟨g2, 1, none⟩ : Addr).block from hg2) (.int .u8 24)
      generalize hWH : wG.setCell ⟨g2, 1, none⟩ (.int .u8 24) = wH at *
      clear hk2G hk1G hk0G hbG hWH
      have p0 := hk2H.cell 0 _ rfl
      have p1 := hk2H.cell 1 _ rfl
      have z0 := hk2H.free 0
      have z1 := hk2H.free 1
      by_cases hi : b = 9218868437227405312
      · have hib : (((b : Nat) : Int) == 9218868437227405312) = true := beq_iff_eq.2 (by omega)
        have hv2 : R2 = 20 := by have := HR2.out; rw [if_pos hi] at this; exact this.symm
        clear hi
        go_upto_region 22 with fail
        have hk2i := hk2H.set 1 (.int .u8 20)
        have hk1i := hk1H.set_other (b' := g2) (by omega) 1 (.int .u8 20)
        have hk0i := hk0H.set_other (b' := g2) (by omega) 1 (.int .u8 20)
        have hbi := hbH.setCell (show w.heap.size ≤ (⟨g2, 1, none⟩ : Addr).block from hg2) (.int .u8 20)
        have hr2 : R2 = 20 := hv2
        subst hr2
        have p0 := hk2i.cell 0 _ rfl
        have p1 := hk2i.cell 1 _ rfl
        have q0 := hk0i.cell 0 _ rfl
        have z0 := hk2i.free 0
        have z1 := hk2i.free 1
        have y0 := hk1i.free 0
        have y1 := hk1i.free 1
        have yc0 := hk1i.cell 0 _ rfl
        have yc1 := hk1i.cell 1 _ rfl
        cases neg with
        | false =>
          have hr1 : R1 = b := by have := HR1.out; simpa using this.symm
          subst hr1
          go_wp2_with fail
          have hq1 := (((hk1i).set 0 (.int .u64 ((R1 : Nat) : Int))).set 1 (.int .u8 20))
          have o0 := hq1.cell 0 _ rfl
          have o1 := hq1.cell 1 _ rfl
          exact bodyPost_ret (v := .agg #[.int .u64 ((R1 : Nat) : Int), .int .u8 20]) (by simp [results, Tryz.results103, go_sem, o0, o1]; try rfl) rfl ⟨rfl, (hbi.setCell hg1 _).setCell hg1 _⟩
        | true =>
          have hr1 : R1 = b + 9223372036854775808 := by have := HR1.out; simpa using this.symm
          have hng : neg3 b = R1 := by unfold neg3; rw [if_neg (by omega)]; exact hr1.symm
          have hn := fun w => Neg01_any b w (by omega)
          simp only [hng] at hn
          clear hr1 hng
          go_wp2_with fail
          refine (hn _).mono ?_
          rintro en w9 ⟨rfl, hw⟩
          subst hw
          have hk2n := hk2i.set 0 (.int .u64 ((R1 : Nat) : Int))
          have hk1n := hk1i.set_other (b' := g2) (by omega) 0 (.int .u64 ((R1 : Nat) : Int))
          have hbn := hbi.setCell (show w.heap.size ≤ (⟨g2, 0, none⟩ : Addr).block from hg2) (.int .u64 ((R1 : Nat) : Int))
          have p0 := hk2n.cell 0 _ rfl
          have p1 := hk2n.cell 1 _ rfl
          have y0 := hk1n.free 0
          have y1 := hk1n.free 1
          have yc0 := hk1n.cell 0 _ rfl
          have yc1 := hk1n.cell 1 _ rfl
          go_wp2_with fail
          have hq1 := (((hk1n).set 0 (.int .u64 ((R1 : Nat) : Int))).set 1 (.int .u8 20))
          have o0 := hq1.cell 0 _ rfl
          have o1 := hq1.cell 1 _ rfl
          exact bodyPost_ret (v := .agg #[.int .u64 ((R1 : Nat) : Int), .int .u8 20]) (by simp [results, Tryz.results103, go_sem, o0, o1]; try rfl) rfl ⟨rfl, (hbn.setCell hg1 _).setCell hg1 _⟩
      · have hib : (((b : Nat) : Int) == 9218868437227405312) = false := beq_eq_false_iff_ne.2 (by omega)
        have hv2 : R2 = 24 := by have := HR2.out; rw [if_neg hi] at this; simpa using this.symm
        clear hi
        go_upto_region 22 with fail
        have hr2 : R2 = 24 := hv2
        subst hr2
        have p0 := hk2H.cell 0 _ rfl
        have p1 := hk2H.cell 1 _ rfl
        have q0 := hk0H.cell 0 _ rfl
        have z0 := hk2H.free 0
        have z1 := hk2H.free 1
        have y0 := hk1H.free 0
        have y1 := hk1H.free 1
        have yc0 := hk1H.cell 0 _ rfl
        have yc1 := hk1H.cell 1 _ rfl
        cases neg with
        | false =>
          have hr1 : R1 = b := by have := HR1.out; simpa using this.symm
          subst hr1
          go_wp2_with fail
          have hq1 := (((hk1H).set 0 (.int .u64 ((R1 : Nat) : Int))).set 1 (.int .u8 24))
          have o0 := hq1.cell 0 _ rfl
          have o1 := hq1.cell 1 _ rfl
          exact bodyPost_ret (v := .agg #[.int .u64 ((R1 : Nat) : Int), .int .u8 24]) (by simp [results, Tryz.results103, go_sem, o0, o1]; try rfl) rfl ⟨rfl, (hbH.setCell hg1 _).setCell hg1 _⟩
        | true =>
          have hr1 : R1 = b + 9223372036854775808 := by have := HR1.out; simpa using this.symm
          have hng : neg3 b = R1 := by unfold neg3; rw [if_neg (by omega)]; exact hr1.symm
          have hn := fun w => Neg01_any b w (by omega)
          simp only [hng] at hn
          clear hr1 hng
          go_wp2_with fail
          refine (hn _).mono ?_
          rintro en w9 ⟨rfl, hw⟩
          subst hw
          have hk2n := hk2H.set 0 (.int .u64 ((R1 : Nat) : Int))
          have hk1n := hk1H.set_other (b' := g2) (by omega) 0 (.int .u64 ((R1 : Nat) : Int))
          have hbn := hbH.setCell (show w.heap.size ≤ (⟨g2, 0, none⟩ : Addr).block from hg2) (.int .u64 ((R1 : Nat) : Int))
          have p0 := hk2n.cell 0 _ rfl
          have p1 := hk2n.cell 1 _ rfl
          have y0 := hk1n.free 0
          have y1 := hk1n.free 1
          have yc0 := hk1n.cell 0 _ rfl
          have yc1 := hk1n.cell 1 _ rfl
          go_wp2_with fail
          have hq1 := (((hk1n).set 0 (.int .u64 ((R1 : Nat) : Int))).set 1 (.int .u8 24))
          have o0 := hq1.cell 0 _ rfl
          have o1 := hq1.cell 1 _ rfl
          exact bodyPost_ret (v := .agg #[.int .u64 ((R1 : Nat) : Int), .int .u8 24]) (by simp [results, Tryz.results103, go_sem, o0, o1]; try rfl) rfl ⟨rfl, (hbn.setCell hg1 _).setCell hg1 _⟩
  · have hb := HB.out
    rw [if_neg c1, if_neg c2, ← hcat (by have := HTP.out; omega)] at hb
    rw [← hcat (by have := HTP.out; omega)] at hatl
    have k0 := hk06.cell 0 _ rfl
    have k1 := hk06.cell 1 _ rfl
    have k2 := hk06.cell 2 _ rfl
    have HB2 := Lib.hid hb
    clear hb HB hcat
    go_wp2_with fail
    refine (HT.out _ ⟨_, rfl, HA.out.call hb36⟩).mono ?_
    rintro en w7 ⟨rfl, hb7⟩
    have hk07 := hk06.call hb7
    have hk17 := hk16.call hb7
    have hk27 := hk26.call hb7
    have hb37 := hb36.trans (hb7.mono hb36.size)
    have k0 := hk07.cell 0 _ rfl
    have k1 := hk07.cell 1 _ rfl
    have k2 := hk07.cell 2 _ rfl
    clear hk06 hk16 hk26 hb36 hb7
    have hc := HC.out e0 w7 (HA.out.call hb37) (by omega) (by omega)
    generalize cutN m x e0 = c at *
    obtain ⟨c1', c2'⟩ := c
    simp only at hatl HB2 hc
    have HCC := Lib.hid hc
    clear hc HC
    go_wp2_with fail
    refine HCC.out.mono ?_
    rintro en w8 ⟨v8, rfl, hv8, hb8⟩
    have hk08 := hk07.call hb8
    have hk18 := hk17.call hb8
    have hk28 := hk27.call hb8
    have hb38 := hb37.trans (hb8.mono hb37.size)
    have hq : (limbsOf c1').length ≤ 1 := limbs3 (bl_le (Nat.lt_of_le_of_lt hatl (by decide)))
    have hL8 := Len03_any _ v8 _ w8 hv8.words (by omega)
    rw [valN_limbsOf] at hL8
    clear hk07 hk17 hk27 hb37 hb8 k0 k1 k2 HCC
    go_wp2_with fail
    refine hL8.mono ?_
    rintro en w10 ⟨rfl, hb10⟩
    have hk010 := hk08.call hb10
    have hk110 := hk18.call hb10
    have hk210 := hk28.call hb10
    have hb310 := hb38.trans (hb10.mono hb38.size)
    have hv10 := hv8.call hb10
    clear hk08 hk18 hk28 hb38 hb10 hv8 hL8
    by_cases h53 : c1' = 9007199254740992
    · have hb := HB2.out
      rw [if_pos h53] at hb
      injection hb with hb1 hb2
      subst hb2
      have HB1 := Lib.hid (rfl : b = b)
      have hbl : 53 < bl c1' := by
        have := (bl53 c1')
        omega
      have hS := Shr03_any _ v8 _ 1 w10 hv10.words (by omega) (by decide)
      rw [valN_limbsOf, h53, show 9007199254740992 / 2 ^ 1 = 4503599627370496 from rfl] at hS
      have HS := Lib.hid hS
      clear hS
      have hw1 : IntKind.i64.wrap (e0 + 1) = e0 + 1 := wrapi3 (by omega) (by omega)
      generalize bl c1' = bc at *
      clear h53
      go_wp2_with fail
      refine HS.out.mono ?_
      rintro en w11 ⟨v11, rfl, hv11, hb11⟩
      have hk011 := hk010.call hb11
      have hk111 := hk110.call hb11
      have hk211 := hk210.call hb11
      have hb311 := hb310.trans (hb11.mono hb310.size)
      have hp := put05_any _ v11 _ (e0 + 1) w11 hv11 (by decide) (by omega) (by omega) (Or.inr (by omega))
      rw [hb1] at hp
      have f0 := hk211.free 0
      have fc0 := hk211.cell 0 _ rfl
      clear hk010 hk110 hk210 hb310 hb11 hv10 HS HB2
      go_wp2_with fail
      refine hp.mono ?_
      rintro en w12 ⟨rfl, hw⟩
      subst hw
      go_upto_region 16 with fail
      have e9 : (((b : Nat) : Int) : Int) = ((b : Nat) : Int) := by have := HB1.out; omega
      have hk2B := hk211.set 0 (.int .u64 ((b : Nat) : Int))
      have hk1B := hk111.set_other hg12 0 (.int .u64 ((b : Nat) : Int))
      have hk0B := hk011.set_other hg02 0 (.int .u64 ((b : Nat) : Int))
      have hbB := hb311.setCell (show w.heap.size ≤ (⟨g2, 0, none⟩ : Addr).block from hg2) (.int .u64 ((b : Nat) : Int))
      generalize hWB : w11.setCell ⟨g2, 0, none⟩ (.int .u64 ((b : Nat) : Int)) = wB at *
      have hk2B : Blk wB g2 #[.int .u64 ((b : Nat) : Int), .int .u8 0] 25 := by rw [← e9]; exact hk2B
      clear hWB hk211 hk111 hk011 hb311 e9
      cases c2' with
      | false =>
        have p0 := hk2B.cell 0 _ rfl
        have p1 := hk2B.cell 1 _ rfl
        have z0 := hk2B.free 0
        have z1 := hk2B.free 1
        by_cases hi : b = 9218868437227405312
        · have hib : (((b : Nat) : Int) == 9218868437227405312) = true := beq_iff_eq.2 (by omega)
          have hv2 : R2 = 20 := by have := HR2.out; rw [if_pos hi] at this; exact this.symm
          clear hi
          go_upto_region 22 with fail
          have hk2i := hk2B.set 1 (.int .u8 20)
          have hk1i := hk1B.set_other (b' := g2) (by omega) 1 (.int .u8 20)
          have hk0i := hk0B.set_other (b' := g2) (by omega) 1 (.int .u8 20)
          have hbi := hbB.setCell (show w.heap.size ≤ (⟨g2, 1, none⟩ : Addr).block from hg2) (.int .u8 20)
          have hr2 : R2 = 20 := hv2
          subst hr2
          have p0 := hk2i.cell 0 _ rfl
          have p1 := hk2i.cell 1 _ rfl
          have q0 := hk0i.cell 0 _ rfl
          have z0 := hk2i.free 0
          have z1 := hk2i.free 1
          have y0 := hk1i.free 0
          have y1 := hk1i.free 1
          have yc0 := hk1i.cell 0 _ rfl
          have yc1 := hk1i.cell 1 _ rfl
          cases neg with
          | false =>
            have hr1 : R1 = b := by have := HR1.out; simpa using this.symm
            subst hr1
            go_wp2_with fail
            have hq1 := (((hk1i).set 0 (.int .u64 ((R1 : Nat) : Int))).set 1 (.int .u8 20))
            have o0 := hq1.cell 0 _ rfl
            have o1 := hq1.cell 1 _ rfl
            exact bodyPost_ret (v := .agg #[.int .u64 ((R1 : Nat) : Int), .int .u8 20]) (by simp [results, Tryz.results103, go_sem, o0, o1]; try rfl) rfl ⟨rfl, (hbi.setCell hg1 _).setCell hg1 _⟩
          | true =>
            have hr1 : R1 = b + 9223372036854775808 := by have := HR1.out; simpa using this.symm
            have hng : neg3 b = R1 := by unfold neg3; rw [if_neg (by omega)]; exact hr1.symm
            have hn := fun w => Neg01_any b w (by omega)
            simp only [hng] at hn
            clear hr1 hng
            go_wp2_with fail
            refine (hn _).mono ?_
            rintro en w9 ⟨rfl, hw⟩
            subst hw
            have hk2n := hk2i.set 0 (.int .u64 ((R1 : Nat) : Int))
            have hk1n := hk1i.set_other (b' := g2) (by omega) 0 (.int .u64 ((R1 : Nat) : Int))
            have hbn := hbi.setCell (show w.heap.size ≤ (⟨g2, 0, none⟩ : Addr).block from hg2) (.int .u64 ((R1 : Nat) : Int))
            have p0 := hk2n.cell 0 _ rfl
            have p1 := hk2n.cell 1 _ rfl
            have y0 := hk1n.free 0
            have y1 := hk1n.free 1
            have yc0 := hk1n.cell 0 _ rfl
            have yc1 := hk1n.cell 1 _ rfl
            go_wp2_with fail
            have hq1 := (((hk1n).set 0 (.int .u64 ((R1 : Nat) : Int))).set 1 (.int .u8 20))
            have o0 := hq1.cell 0 _ rfl
            have o1 := hq1.cell 1 _ rfl
            exact bodyPost_ret (v := .agg #[.int .u64 ((R1 : Nat) : Int), .int .u8 20]) (by simp [results, Tryz.results103, go_sem, o0, o1]; try rfl) rfl ⟨rfl, (hbn.setCell hg1 _).setCell hg1 _⟩
        · have hib : (((b : Nat) : Int) == 9218868437227405312) = false := beq_eq_false_iff_ne.2 (by omega)
          have hv2 : R2 = 0 := by have := HR2.out; rw [if_neg hi] at this; simpa using this.symm
          clear hi
          go_upto_region 22 with fail
          have hr2 : R2 = 0 := hv2
          subst hr2
          have p0 := hk2B.cell 0 _ rfl
          have p1 := hk2B.cell 1 _ rfl
          have q0 := hk0B.cell 0 _ rfl
          have z0 := hk2B.free 0
          have z1 := hk2B.free 1
          have y0 := hk1B.free 0
          have y1 := hk1B.free 1
          have yc0 := hk1B.cell 0 _ rfl
          have yc1 := hk1B.cell 1 _ rfl
          cases neg with
          | false =>
            have hr1 : R1 = b := by have := HR1.out; simpa using this.symm
            subst hr1
            go_wp2_with fail
            have hq1 := (((hk1B).set 0 (.int .u64 ((R1 : Nat) : Int))).set 1 (.int .u8 0))
            have o0 := hq1.cell 0 _ rfl
            have o1 := hq1.cell 1 _ rfl
            exact bodyPost_ret (v := .agg #[.int .u64 ((R1 : Nat) : Int), .int .u8 0]) (by simp [results, Tryz.results103, go_sem, o0, o1]; try rfl) rfl ⟨rfl, (hbB.setCell hg1 _).setCell hg1 _⟩
          | true =>
            have hr1 : R1 = b + 9223372036854775808 := by have := HR1.out; simpa using this.symm
            have hng : neg3 b = R1 := by unfold neg3; rw [if_neg (by omega)]; exact hr1.symm
            have hn := fun w => Neg01_any b w (by omega)
            simp only [hng] at hn
            clear hr1 hng
            go_wp2_with fail
            refine (hn _).mono ?_
            rintro en w9 ⟨rfl, hw⟩
            subst hw
            have hk2n := hk2B.set 0 (.int .u64 ((R1 : Nat) : Int))
            have hk1n := hk1B.set_other (b' := g2) (by omega) 0 (.int .u64 ((R1 : Nat) : Int))
            have hbn := hbB.setCell (show w.heap.size ≤ (⟨g2, 0, none⟩ : Addr).block from hg2) (.int .u64 ((R1 : Nat) : Int))
            have p0 := hk2n.cell 0 _ rfl
            have p1 := hk2n.cell 1 _ rfl
            have y0 := hk1n.free 0
            have y1 := hk1n.free 1
            have yc0 := hk1n.cell 0 _ rfl
            have yc1 := hk1n.cell 1 _ rfl
            go_wp2_with fail
            have hq1 := (((hk1n).set 0 (.int .u64 ((R1 : Nat) : Int))).set 1 (.int .u8 0))
            have o0 := hq1.cell 0 _ rfl
            have o1 := hq1.cell 1 _ rfl
            exact bodyPost_ret (v := .agg #[.int .u64 ((R1 : Nat) : Int), .int .u8 0]) (by simp [results, Tryz.results103, go_sem, o0, o1]; try rfl) rfl ⟨rfl, (hbn.setCell hg1 _).setCell hg1 _⟩
      | true =>
        have zz0 := hk2B.free 1
        have zc0 := hk2B.cell 1 _ rfl
        go_upto_region 18 with fail
        have hk2F := hk2B.set 1 (.int .u8 16)
        have hk1F := hk1B.set_other (b' := g2) (by omega) 1 (.int .u8 16)
        have hk0F := hk0B.set_other (b' := g2) (by omega) 1 (.int .u8 16)
        have hbF := hbB.setCell (show w.heap.size ≤ (⟨g2, 1, none⟩ : Addr).block from hg2) (.int .u8 16)
        have qq0 := hk0F.cell 0 _ rfl
        have qq1 := hk0F.cell 1 _ rfl
        have qq2 := hk0F.cell 2 _ rfl
        generalize hWF : wB.setCell ⟨g2, 1, none⟩ (.int .u8 16) = wF at *
        go_wp2_with fail
        refine (HY.out _ ⟨_, rfl, HA.out.call hbF⟩).mono ?_
        rintro en wG ⟨rfl, hbg⟩
        have hk2G := hk2F.call hbg
        have hk1G := hk1F.call hbg
        have hk0G := hk0F.call hbg
        have hbG := hbF.trans (hbg.mono hbF.size)
        clear hk2F hk1F hk0F hk2B hk1B hk0B hbB hWF hbF hbg qq0 qq1 qq2
        have p1 := hk2G.cell 1 _ rfl
        have zz1 := hk2G.free 1
        cases tn with
        | false =>
          go_upto_region 20 with fail
          have p0 := hk2G.cell 0 _ rfl
          have p1 := hk2G.cell 1 _ rfl
          have z0 := hk2G.free 0
          have z1 := hk2G.free 1
          by_cases hi : b = 9218868437227405312
          · have hib : (((b : Nat) : Int) == 9218868437227405312) = true := beq_iff_eq.2 (by omega)
            have hv2 : R2 = 20 := by have := HR2.out; rw [if_pos hi] at this; exact this.symm
            clear hi
            go_upto_region 22 with fail
            have hk2i := hk2G.set 1 (.int .u8 20)
            have hk1i := hk1G.set_other (b' := g2) (by omega) 1 (.int .u8 20)
            have hk0i := hk0G.set_other (b' := g2) (by omega) 1 (.int .u8 20)
            have hbi := hbG.setCell (show w.heap.size ≤ (⟨g2, 1, none⟩ : Addr).block from hg2) (.int .u8 20)
            have hr2 : R2 = 20 := hv2
            subst hr2
            have p0 := hk2i.cell 0 _ rfl
            have p1 := hk2i.cell 1 _ rfl
            have q0 := hk0i.cell 0 _ rfl
            have z0 := hk2i.free 0
            have z1 := hk2i.free 1
            have y0 := hk1i.free 0
            have y1 := hk1i.free 1
            have yc0 := hk1i.cell 0 _ rfl
            have yc1 := hk1i.cell 1 _ rfl
            cases neg with
            | false =>
              have hr1 : R1 = b := by have := HR1.out; simpa using this.symm
              subst hr1
              go_wp2_with fail
              have hq1 := (((hk1i).set 0 (.int .u64 ((R1 : Nat) : Int))).set 1 (.int .u8 20))
              have o0 := hq1.cell 0 _ rfl
              have o1 := hq1.cell 1 _ rfl
              exact bodyPost_ret (v := .agg #[.int .u64 ((R1 : Nat) : Int), .int .u8 20]) (by simp [results, Tryz.results103, go_sem, o0, o1]; try rfl) rfl ⟨rfl, (hbi.setCell hg1 _).setCell hg1 _⟩
            | true =>
              have hr1 : R1 = b + 9223372036854775808 := by have := HR1.out; simpa using this.symm
              have hng : neg3 b = R1 := by unfold neg3; rw [if_neg (by omega)]; exact hr1.symm
              have hn := fun w => Neg01_any b w (by omega)
              simp only [hng] at hn
              clear hr1 hng
              go_wp2_with fail
              refine (hn _).mono ?_
              rintro en w9 ⟨rfl, hw⟩
              subst hw
              have hk2n := hk2i.set 0 (.int .u64 ((R1 : Nat) : Int))
              have hk1n := hk1i.set_other (b' := g2) (by omega) 0 (.int .u64 ((R1 : Nat) : Int))
              have hbn := hbi.setCell (show w.heap.size ≤ (⟨g2, 0, none⟩ : Addr).block from hg2) (.int .u64 ((R1 : Nat) : Int))
              have p0 := hk2n.cell 0 _ rfl
              have p1 := hk2n.cell 1 _ rfl
              have y0 := hk1n.free 0
              have y1 := hk1n.free 1
              have yc0 := hk1n.cell 0 _ rfl
              have yc1 := hk1n.cell 1 _ rfl
              go_wp2_with fail
              have hq1 := (((hk1n).set 0 (.int .u64 ((R1 : Nat) : Int))).set 1 (.int .u8 20))
              have o0 := hq1.cell 0 _ rfl
              have o1 := hq1.cell 1 _ rfl
              exact bodyPost_ret (v := .agg #[.int .u64 ((R1 : Nat) : Int), .int .u8 20]) (by simp [results, Tryz.results103, go_sem, o0, o1]; try rfl) rfl ⟨rfl, (hbn.setCell hg1 _).setCell hg1 _⟩
          · have hib : (((b : Nat) : Int) == 9218868437227405312) = false := beq_eq_false_iff_ne.2 (by omega)
            have hv2 : R2 = 16 := by have := HR2.out; rw [if_neg hi] at this; simpa using this.symm
            clear hi
            go_upto_region 22 with fail
            have hr2 : R2 = 16 := hv2
            subst hr2
            have p0 := hk2G.cell 0 _ rfl
            have p1 := hk2G.cell 1 _ rfl
            have q0 := hk0G.cell 0 _ rfl
            have z0 := hk2G.free 0
            have z1 := hk2G.free 1
            have y0 := hk1G.free 0
            have y1 := hk1G.free 1
            have yc0 := hk1G.cell 0 _ rfl
            have yc1 := hk1G.cell 1 _ rfl
            cases neg with
            | false =>
              have hr1 : R1 = b := by have := HR1.out; simpa using this.symm
              subst hr1
              go_wp2_with fail
              have hq1 := (((hk1G).set 0 (.int .u64 ((R1 : Nat) : Int))).set 1 (.int .u8 16))
              have o0 := hq1.cell 0 _ rfl
              have o1 := hq1.cell 1 _ rfl
              exact bodyPost_ret (v := .agg #[.int .u64 ((R1 : Nat) : Int), .int .u8 16]) (by simp [results, Tryz.results103, go_sem, o0, o1]; try rfl) rfl ⟨rfl, (hbG.setCell hg1 _).setCell hg1 _⟩
            | true =>
              have hr1 : R1 = b + 9223372036854775808 := by have := HR1.out; simpa using this.symm
              have hng : neg3 b = R1 := by unfold neg3; rw [if_neg (by omega)]; exact hr1.symm
              have hn := fun w => Neg01_any b w (by omega)
              simp only [hng] at hn
              clear hr1 hng
              go_wp2_with fail
              refine (hn _).mono ?_
              rintro en w9 ⟨rfl, hw⟩
              subst hw
              have hk2n := hk2G.set 0 (.int .u64 ((R1 : Nat) : Int))
              have hk1n := hk1G.set_other (b' := g2) (by omega) 0 (.int .u64 ((R1 : Nat) : Int))
              have hbn := hbG.setCell (show w.heap.size ≤ (⟨g2, 0, none⟩ : Addr).block from hg2) (.int .u64 ((R1 : Nat) : Int))
              have p0 := hk2n.cell 0 _ rfl
              have p1 := hk2n.cell 1 _ rfl
              have y0 := hk1n.free 0
              have y1 := hk1n.free 1
              have yc0 := hk1n.cell 0 _ rfl
              have yc1 := hk1n.cell 1 _ rfl
              go_wp2_with fail
              have hq1 := (((hk1n).set 0 (.int .u64 ((R1 : Nat) : Int))).set 1 (.int .u8 16))
              have o0 := hq1.cell 0 _ rfl
              have o1 := hq1.cell 1 _ rfl
              exact bodyPost_ret (v := .agg #[.int .u64 ((R1 : Nat) : Int), .int .u8 16]) (by simp [results, Tryz.results103, go_sem, o0, o1]; try rfl) rfl ⟨rfl, (hbn.setCell hg1 _).setCell hg1 _⟩
        | true =>
          have hor : bits BinOp.or IntKind.u8 16 8 = 24 := by decide
          go_upto_region 20 with fail
          have hk2H := hk2G.set 1 (.int .u8 24)
          have hk1H := hk1G.set_other (b' := g2) (by omega) 1 (.int .u8 24)
          have hk0H := hk0G.set_other (b' := g2) (by omega) 1 (.int .u8 24)
          have hbH := hbG.setCell (show w.heap.size ≤ (⟨g2, 1, none⟩ : Addr).block from hg2) (.int .u8 24)
          generalize hWH : wG.setCell ⟨g2, 1, none⟩ (.int .u8 24) = wH at *
          clear hk2G hk1G hk0G hbG hWH
          have p0 := hk2H.cell 0 _ rfl
          have p1 := hk2H.cell 1 _ rfl
          have z0 := hk2H.free 0
          have z1 := hk2H.free 1
          by_cases hi : b = 9218868437227405312
          · have hib : (((b : Nat) : Int) == 9218868437227405312) = true := beq_iff_eq.2 (by omega)
            have hv2 : R2 = 20 := by have := HR2.out; rw [if_pos hi] at this; exact this.symm
            clear hi
            go_upto_region 22 with fail
            have hk2i := hk2H.set 1 (.int .u8 20)
            have hk1i := hk1H.set_other (b' := g2) (by omega) 1 (.int .u8 20)
            have hk0i := hk0H.set_other (b' := g2) (by omega) 1 (.int .u8 20)
            have hbi := hbH.setCell (show w.heap.size ≤ (⟨g2, 1, none⟩ : Addr).block from hg2) (.int .u8 20)
            have hr2 : R2 = 20 := hv2
            subst hr2
            have p0 := hk2i.cell 0 _ rfl
            have p1 := hk2i.cell 1 _ rfl
            have q0 := hk0i.cell 0 _ rfl
            have z0 := hk2i.free 0
            have z1 := hk2i.free 1
            have y0 := hk1i.free 0
            have y1 := hk1i.free 1
            have yc0 := hk1i.cell 0 _ rfl
            have yc1 := hk1i.cell 1 _ rfl
            cases neg with
            | false =>
              have hr1 : R1 = b := by have := HR1.out; simpa using this.symm
              subst hr1
              go_wp2_with fail
              have hq1 := (((hk1i).set 0 (.int .u64 ((R1 : Nat) : Int))).set 1 (.int .u8 20))
              have o0 := hq1.cell 0 _ rfl
              have o1 := hq1.cell 1 _ rfl
              exact bodyPost_ret (v := .agg #[.int .u64 ((R1 : Nat) : Int), .int .u8 20]) (by simp [results, Tryz.results103, go_sem, o0, o1]; try rfl) rfl ⟨rfl, (hbi.setCell hg1 _).setCell hg1 _⟩
            | true =>
              have hr1 : R1 = b + 9223372036854775808 := by have := HR1.out; simpa using this.symm
              have hng : neg3 b = R1 := by unfold neg3; rw [if_neg (by omega)]; exact hr1.symm
              have hn := fun w => Neg01_any b w (by omega)
              simp only [hng] at hn
              clear hr1 hng
              go_wp2_with fail
              refine (hn _).mono ?_
              rintro en w9 ⟨rfl, hw⟩
              subst hw
              have hk2n := hk2i.set 0 (.int .u64 ((R1 : Nat) : Int))
              have hk1n := hk1i.set_other (b' := g2) (by omega) 0 (.int .u64 ((R1 : Nat) : Int))
              have hbn := hbi.setCell (show w.heap.size ≤ (⟨g2, 0, none⟩ : Addr).block from hg2) (.int .u64 ((R1 : Nat) : Int))
              have p0 := hk2n.cell 0 _ rfl
              have p1 := hk2n.cell 1 _ rfl
              have y0 := hk1n.free 0
              have y1 := hk1n.free 1
              have yc0 := hk1n.cell 0 _ rfl
              have yc1 := hk1n.cell 1 _ rfl
              go_wp2_with fail
              have hq1 := (((hk1n).set 0 (.int .u64 ((R1 : Nat) : Int))).set 1 (.int .u8 20))
              have o0 := hq1.cell 0 _ rfl
              have o1 := hq1.cell 1 _ rfl
              exact bodyPost_ret (v := .agg #[.int .u64 ((R1 : Nat) : Int), .int .u8 20]) (by simp [results, Tryz.results103, go_sem, o0, o1]; try rfl) rfl ⟨rfl, (hbn.setCell hg1 _).setCell hg1 _⟩
          · have hib : (((b : Nat) : Int) == 9218868437227405312) = false := beq_eq_false_iff_ne.2 (by omega)
            have hv2 : R2 = 24 := by have := HR2.out; rw [if_neg hi] at this; simpa using this.symm
            clear hi
            go_upto_region 22 with fail
            have hr2 : R2 = 24 := hv2
            subst hr2
            have p0 := hk2H.cell 0 _ rfl
            have p1 := hk2H.cell 1 _ rfl
            have q0 := hk0H.cell 0 _ rfl
            have z0 := hk2H.free 0
            have z1 := hk2H.free 1
            have y0 := hk1H.free 0
            have y1 := hk1H.free 1
            have yc0 := hk1H.cell 0 _ rfl
            have yc1 := hk1H.cell 1 _ rfl
            cases neg with
            | false =>
              have hr1 : R1 = b := by have := HR1.out; simpa using this.symm
              subst hr1
              go_wp2_with fail
              have hq1 := (((hk1H).set 0 (.int .u64 ((R1 : Nat) : Int))).set 1 (.int .u8 24))
              have o0 := hq1.cell 0 _ rfl
              have o1 := hq1.cell 1 _ rfl
              exact bodyPost_ret (v := .agg #[.int .u64 ((R1 : Nat) : Int), .int .u8 24]) (by simp [results, Tryz.results103, go_sem, o0, o1]; try rfl) rfl ⟨rfl, (hbH.setCell hg1 _).setCell hg1 _⟩
            | true =>
              have hr1 : R1 = b + 9223372036854775808 := by have := HR1.out; simpa using this.symm
              have hng : neg3 b = R1 := by unfold neg3; rw [if_neg (by omega)]; exact hr1.symm
              have hn := fun w => Neg01_any b w (by omega)
              simp only [hng] at hn
              clear hr1 hng
              go_wp2_with fail
              refine (hn _).mono ?_
              rintro en w9 ⟨rfl, hw⟩
              subst hw
              have hk2n := hk2H.set 0 (.int .u64 ((R1 : Nat) : Int))
              have hk1n := hk1H.set_other (b' := g2) (by omega) 0 (.int .u64 ((R1 : Nat) : Int))
              have hbn := hbH.setCell (show w.heap.size ≤ (⟨g2, 0, none⟩ : Addr).block from hg2) (.int .u64 ((R1 : Nat) : Int))
              have p0 := hk2n.cell 0 _ rfl
              have p1 := hk2n.cell 1 _ rfl
              have y0 := hk1n.free 0
              have y1 := hk1n.free 1
              have yc0 := hk1n.cell 0 _ rfl
              have yc1 := hk1n.cell 1 _ rfl
              go_wp2_with fail
              have hq1 := (((hk1n).set 0 (.int .u64 ((R1 : Nat) : Int))).set 1 (.int .u8 24))
              have o0 := hq1.cell 0 _ rfl
              have o1 := hq1.cell 1 _ rfl
              exact bodyPost_ret (v := .agg #[.int .u64 ((R1 : Nat) : Int), .int .u8 24]) (by simp [results, Tryz.results103, go_sem, o0, o1]; try rfl) rfl ⟨rfl, (hbn.setCell hg1 _).setCell hg1 _⟩
    · have hb := HB2.out
      rw [if_neg h53] at hb
      injection hb with hb1 hb2
      subst hb2
      have HB1 := Lib.hid (rfl : b = b)
      have hbl : bl c1' ≤ 53 := (bl53 c1').2 (by omega)
      have hp := put05_any _ v8 c1' e0 w10 hv10 (by omega) (by omega) (by omega) (Or.inr (by omega))
      rw [hb1] at hp
      have HP := Lib.hid hp
      have f0 := hk210.free 0
      have fc0 := hk210.cell 0 _ rfl
      generalize bl c1' = bc at *
      clear h53 hp hv10 HB2
      go_wp2_with fail
      refine HP.out.mono ?_
      rintro en w12 ⟨rfl, hw⟩
      subst hw
      go_upto_region 16 with fail
      have e9 : (((b : Nat) : Int) : Int) = ((b : Nat) : Int) := by have := HB1.out; omega
      have hk2B := hk210.set 0 (.int .u64 ((b : Nat) : Int))
      have hk1B := hk110.set_other hg12 0 (.int .u64 ((b : Nat) : Int))
      have hk0B := hk010.set_other hg02 0 (.int .u64 ((b : Nat) : Int))
      have hbB := hb310.setCell (show w.heap.size ≤ (⟨g2, 0, none⟩ : Addr).block from hg2) (.int .u64 ((b : Nat) : Int))
      generalize hWB : w10.setCell ⟨g2, 0, none⟩ (.int .u64 ((b : Nat) : Int)) = wB at *
      have hk2B : Blk wB g2 #[.int .u64 ((b : Nat) : Int), .int .u8 0] 25 := by rw [← e9]; exact hk2B
      clear hWB hk210 hk110 hk010 hb310 e9
      cases c2' with
      | false =>
        have p0 := hk2B.cell 0 _ rfl
        have p1 := hk2B.cell 1 _ rfl
        have z0 := hk2B.free 0
        have z1 := hk2B.free 1
        by_cases hi : b = 9218868437227405312
        · have hib : (((b : Nat) : Int) == 9218868437227405312) = true := beq_iff_eq.2 (by omega)
          have hv2 : R2 = 20 := by have := HR2.out; rw [if_pos hi] at this; exact this.symm
          clear hi
          go_upto_region 22 with fail
          have hk2i := hk2B.set 1 (.int .u8 20)
          have hk1i := hk1B.set_other (b' := g2) (by omega) 1 (.int .u8 20)
          have hk0i := hk0B.set_other (b' := g2) (by omega) 1 (.int .u8 20)
          have hbi := hbB.setCell (show w.heap.size ≤ (⟨g2, 1, none⟩ : Addr).block from hg2) (.int .u8 20)
          have hr2 : R2 = 20 := hv2
          subst hr2
          have p0 := hk2i.cell 0 _ rfl
          have p1 := hk2i.cell 1 _ rfl
          have q0 := hk0i.cell 0 _ rfl
          have z0 := hk2i.free 0
          have z1 := hk2i.free 1
          have y0 := hk1i.free 0
          have y1 := hk1i.free 1
          have yc0 := hk1i.cell 0 _ rfl
          have yc1 := hk1i.cell 1 _ rfl
          cases neg with
          | false =>
            have hr1 : R1 = b := by have := HR1.out; simpa using this.symm
            subst hr1
            go_wp2_with fail
            have hq1 := (((hk1i).set 0 (.int .u64 ((R1 : Nat) : Int))).set 1 (.int .u8 20))
            have o0 := hq1.cell 0 _ rfl
            have o1 := hq1.cell 1 _ rfl
            exact bodyPost_ret (v := .agg #[.int .u64 ((R1 : Nat) : Int), .int .u8 20]) (by simp [results, Tryz.results103, go_sem, o0, o1]; try rfl) rfl ⟨rfl, (hbi.setCell hg1 _).setCell hg1 _⟩
          | true =>
            have hr1 : R1 = b + 9223372036854775808 := by have := HR1.out; simpa using this.symm
            have hng : neg3 b = R1 := by unfold neg3; rw [if_neg (by omega)]; exact hr1.symm
            have hn := fun w => Neg01_any b w (by omega)
            simp only [hng] at hn
            clear hr1 hng
            go_wp2_with fail
            refine (hn _).mono ?_
            rintro en w9 ⟨rfl, hw⟩
            subst hw
            have hk2n := hk2i.set 0 (.int .u64 ((R1 : Nat) : Int))
            have hk1n := hk1i.set_other (b' := g2) (by omega) 0 (.int .u64 ((R1 : Nat) : Int))
            have hbn := hbi.setCell (show w.heap.size ≤ (⟨g2, 0, none⟩ : Addr).block from hg2) (.int .u64 ((R1 : Nat) : Int))
            have p0 := hk2n.cell 0 _ rfl
            have p1 := hk2n.cell 1 _ rfl
            have y0 := hk1n.free 0
            have y1 := hk1n.free 1
            have yc0 := hk1n.cell 0 _ rfl
            have yc1 := hk1n.cell 1 _ rfl
            go_wp2_with fail
            have hq1 := (((hk1n).set 0 (.int .u64 ((R1 : Nat) : Int))).set 1 (.int .u8 20))
            have o0 := hq1.cell 0 _ rfl
            have o1 := hq1.cell 1 _ rfl
            exact bodyPost_ret (v := .agg #[.int .u64 ((R1 : Nat) : Int), .int .u8 20]) (by simp [results, Tryz.results103, go_sem, o0, o1]; try rfl) rfl ⟨rfl, (hbn.setCell hg1 _).setCell hg1 _⟩
        · have hib : (((b : Nat) : Int) == 9218868437227405312) = false := beq_eq_false_iff_ne.2 (by omega)
          have hv2 : R2 = 0 := by have := HR2.out; rw [if_neg hi] at this; simpa using this.symm
          clear hi
          go_upto_region 22 with fail
          have hr2 : R2 = 0 := hv2
          subst hr2
          have p0 := hk2B.cell 0 _ rfl
          have p1 := hk2B.cell 1 _ rfl
          have q0 := hk0B.cell 0 _ rfl
          have z0 := hk2B.free 0
          have z1 := hk2B.free 1
          have y0 := hk1B.free 0
          have y1 := hk1B.free 1
          have yc0 := hk1B.cell 0 _ rfl
          have yc1 := hk1B.cell 1 _ rfl
          cases neg with
          | false =>
            have hr1 : R1 = b := by have := HR1.out; simpa using this.symm
            subst hr1
            go_wp2_with fail
            have hq1 := (((hk1B).set 0 (.int .u64 ((R1 : Nat) : Int))).set 1 (.int .u8 0))
            have o0 := hq1.cell 0 _ rfl
            have o1 := hq1.cell 1 _ rfl
            exact bodyPost_ret (v := .agg #[.int .u64 ((R1 : Nat) : Int), .int .u8 0]) (by simp [results, Tryz.results103, go_sem, o0, o1]; try rfl) rfl ⟨rfl, (hbB.setCell hg1 _).setCell hg1 _⟩
          | true =>
            have hr1 : R1 = b + 9223372036854775808 := by have := HR1.out; simpa using this.symm
            have hng : neg3 b = R1 := by unfold neg3; rw [if_neg (by omega)]; exact hr1.symm
            have hn := fun w => Neg01_any b w (by omega)
            simp only [hng] at hn
            clear hr1 hng
            go_wp2_with fail
            refine (hn _).mono ?_
            rintro en w9 ⟨rfl, hw⟩
            subst hw
            have hk2n := hk2B.set 0 (.int .u64 ((R1 : Nat) : Int))
            have hk1n := hk1B.set_other (b' := g2) (by omega) 0 (.int .u64 ((R1 : Nat) : Int))
            have hbn := hbB.setCell (show w.heap.size ≤ (⟨g2, 0, none⟩ : Addr).block from hg2) (.int .u64 ((R1 : Nat) : Int))
            have p0 := hk2n.cell 0 _ rfl
            have p1 := hk2n.cell 1 _ rfl
            have y0 := hk1n.free 0
            have y1 := hk1n.free 1
            have yc0 := hk1n.cell 0 _ rfl
            have yc1 := hk1n.cell 1 _ rfl
            go_wp2_with fail
            have hq1 := (((hk1n).set 0 (.int .u64 ((R1 : Nat) : Int))).set 1 (.int .u8 0))
            have o0 := hq1.cell 0 _ rfl
            have o1 := hq1.cell 1 _ rfl
            exact bodyPost_ret (v := .agg #[.int .u64 ((R1 : Nat) : Int), .int .u8 0]) (by simp [results, Tryz.results103, go_sem, o0, o1]; try rfl) rfl ⟨rfl, (hbn.setCell hg1 _).setCell hg1 _⟩
      | true =>
        have zz0 := hk2B.free 1
        have zc0 := hk2B.cell 1 _ rfl
        go_upto_region 18 with fail
        have hk2F := hk2B.set 1 (.int .u8 16)
        have hk1F := hk1B.set_other (b' := g2) (by omega) 1 (.int .u8 16)
        have hk0F := hk0B.set_other (b' := g2) (by omega) 1 (.int .u8 16)
        have hbF := hbB.setCell (show w.heap.size ≤ (⟨g2, 1, none⟩ : Addr).block from hg2) (.int .u8 16)
        have qq0 := hk0F.cell 0 _ rfl
        have qq1 := hk0F.cell 1 _ rfl
        have qq2 := hk0F.cell 2 _ rfl
        generalize hWF : wB.setCell ⟨g2, 1, none⟩ (.int .u8 16) = wF at *
        go_wp2_with fail
        refine (HY.out _ ⟨_, rfl, HA.out.call hbF⟩).mono ?_
        rintro en wG ⟨rfl, hbg⟩
        have hk2G := hk2F.call hbg
        have hk1G := hk1F.call hbg
        have hk0G := hk0F.call hbg
        have hbG := hbF.trans (hbg.mono hbF.size)
        clear hk2F hk1F hk0F hk2B hk1B hk0B hbB hWF hbF hbg qq0 qq1 qq2
        have p1 := hk2G.cell 1 _ rfl
        have zz1 := hk2G.free 1
        cases tn with
        | false =>
          go_upto_region 20 with fail
          have p0 := hk2G.cell 0 _ rfl
          have p1 := hk2G.cell 1 _ rfl
          have z0 := hk2G.free 0
          have z1 := hk2G.free 1
          by_cases hi : b = 9218868437227405312
          · have hib : (((b : Nat) : Int) == 9218868437227405312) = true := beq_iff_eq.2 (by omega)
            have hv2 : R2 = 20 := by have := HR2.out; rw [if_pos hi] at this; exact this.symm
            clear hi
            go_upto_region 22 with fail
            have hk2i := hk2G.set 1 (.int .u8 20)
            have hk1i := hk1G.set_other (b' := g2) (by omega) 1 (.int .u8 20)
            have hk0i := hk0G.set_other (b' := g2) (by omega) 1 (.int .u8 20)
            have hbi := hbG.setCell (show w.heap.size ≤ (⟨g2, 1, none⟩ : Addr).block from hg2) (.int .u8 20)
            have hr2 : R2 = 20 := hv2
            subst hr2
            have p0 := hk2i.cell 0 _ rfl
            have p1 := hk2i.cell 1 _ rfl
            have q0 := hk0i.cell 0 _ rfl
            have z0 := hk2i.free 0
            have z1 := hk2i.free 1
            have y0 := hk1i.free 0
            have y1 := hk1i.free 1
            have yc0 := hk1i.cell 0 _ rfl
            have yc1 := hk1i.cell 1 _ rfl
            cases neg with
            | false =>
              have hr1 : R1 = b := by have := HR1.out; simpa using this.symm
              subst hr1
              go_wp2_with fail
              have hq1 := (((hk1i).set 0 (.int .u64 ((R1 : Nat) : Int))).set 1 (.int .u8 20))
              have o0 := hq1.cell 0 _ rfl
              have o1 := hq1.cell 1 _ rfl
              exact bodyPost_ret (v := .agg #[.int .u64 ((R1 : Nat) : Int), .int .u8 20]) (by simp [results, Tryz.results103, go_sem, o0, o1]; try rfl) rfl ⟨rfl, (hbi.setCell hg1 _).setCell hg1 _⟩
            | true =>
              have hr1 : R1 = b + 9223372036854775808 := by have := HR1.out; simpa using this.symm
              have hng : neg3 b = R1 := by unfold neg3; rw [if_neg (by omega)]; exact hr1.symm
              have hn := fun w => Neg01_any b w (by omega)
              simp only [hng] at hn
              clear hr1 hng
              go_wp2_with fail
              refine (hn _).mono ?_
              rintro en w9 ⟨rfl, hw⟩
              subst hw
              have hk2n := hk2i.set 0 (.int .u64 ((R1 : Nat) : Int))
              have hk1n := hk1i.set_other (b' := g2) (by omega) 0 (.int .u64 ((R1 : Nat) : Int))
              have hbn := hbi.setCell (show w.heap.size ≤ (⟨g2, 0, none⟩ : Addr).block from hg2) (.int .u64 ((R1 : Nat) : Int))
              have p0 := hk2n.cell 0 _ rfl
              have p1 := hk2n.cell 1 _ rfl
              have y0 := hk1n.free 0
              have y1 := hk1n.free 1
              have yc0 := hk1n.cell 0 _ rfl
              have yc1 := hk1n.cell 1 _ rfl
              go_wp2_with fail
              have hq1 := (((hk1n).set 0 (.int .u64 ((R1 : Nat) : Int))).set 1 (.int .u8 20))
              have o0 := hq1.cell 0 _ rfl
              have o1 := hq1.cell 1 _ rfl
              exact bodyPost_ret (v := .agg #[.int .u64 ((R1 : Nat) : Int), .int .u8 20]) (by simp [results, Tryz.results103, go_sem, o0, o1]; try rfl) rfl ⟨rfl, (hbn.setCell hg1 _).setCell hg1 _⟩
          · have hib : (((b : Nat) : Int) == 9218868437227405312) = false := beq_eq_false_iff_ne.2 (by omega)
            have hv2 : R2 = 16 := by have := HR2.out; rw [if_neg hi] at this; simpa using this.symm
            clear hi
            go_upto_region 22 with fail
            have hr2 : R2 = 16 := hv2
            subst hr2
            have p0 := hk2G.cell 0 _ rfl
            have p1 := hk2G.cell 1 _ rfl
            have q0 := hk0G.cell 0 _ rfl
            have z0 := hk2G.free 0
            have z1 := hk2G.free 1
            have y0 := hk1G.free 0
            have y1 := hk1G.free 1
            have yc0 := hk1G.cell 0 _ rfl
            have yc1 := hk1G.cell 1 _ rfl
            cases neg with
            | false =>
              have hr1 : R1 = b := by have := HR1.out; simpa using this.symm
              subst hr1
              go_wp2_with fail
              have hq1 := (((hk1G).set 0 (.int .u64 ((R1 : Nat) : Int))).set 1 (.int .u8 16))
              have o0 := hq1.cell 0 _ rfl
              have o1 := hq1.cell 1 _ rfl
              exact bodyPost_ret (v := .agg #[.int .u64 ((R1 : Nat) : Int), .int .u8 16]) (by simp [results, Tryz.results103, go_sem, o0, o1]; try rfl) rfl ⟨rfl, (hbG.setCell hg1 _).setCell hg1 _⟩
            | true =>
              have hr1 : R1 = b + 9223372036854775808 := by have := HR1.out; simpa using this.symm
              have hng : neg3 b = R1 := by unfold neg3; rw [if_neg (by omega)]; exact hr1.symm
              have hn := fun w => Neg01_any b w (by omega)
              simp only [hng] at hn
              clear hr1 hng
              go_wp2_with fail
              refine (hn _).mono ?_
              rintro en w9 ⟨rfl, hw⟩
              subst hw
              have hk2n := hk2G.set 0 (.int .u64 ((R1 : Nat) : Int))
              have hk1n := hk1G.set_other (b' := g2) (by omega) 0 (.int .u64 ((R1 : Nat) : Int))
              have hbn := hbG.setCell (show w.heap.size ≤ (⟨g2, 0, none⟩ : Addr).block from hg2) (.int .u64 ((R1 : Nat) : Int))
              have p0 := hk2n.cell 0 _ rfl
              have p1 := hk2n.cell 1 _ rfl
              have y0 := hk1n.free 0
              have y1 := hk1n.free 1
              have yc0 := hk1n.cell 0 _ rfl
              have yc1 := hk1n.cell 1 _ rfl
              go_wp2_with fail
              have hq1 := (((hk1n).set 0 (.int .u64 ((R1 : Nat) : Int))).set 1 (.int .u8 16))
              have o0 := hq1.cell 0 _ rfl
              have o1 := hq1.cell 1 _ rfl
              exact bodyPost_ret (v := .agg #[.int .u64 ((R1 : Nat) : Int), .int .u8 16]) (by simp [results, Tryz.results103, go_sem, o0, o1]; try rfl) rfl ⟨rfl, (hbn.setCell hg1 _).setCell hg1 _⟩
        | true =>
          have hor : bits BinOp.or IntKind.u8 16 8 = 24 := by decide
          go_upto_region 20 with fail
          have hk2H := hk2G.set 1 (.int .u8 24)
          have hk1H := hk1G.set_other (b' := g2) (by omega) 1 (.int .u8 24)
          have hk0H := hk0G.set_other (b' := g2) (by omega) 1 (.int .u8 24)
          have hbH := hbG.setCell (show w.heap.size ≤ (⟨g2, 1, none⟩ : Addr).block from hg2) (.int .u8 24)
          generalize hWH : wG.setCell ⟨g2, 1, none⟩ (.int .u8 24) = wH at *
          clear hk2G hk1G hk0G hbG hWH
          have p0 := hk2H.cell 0 _ rfl
          have p1 := hk2H.cell 1 _ rfl
          have z0 := hk2H.free 0
          have z1 := hk2H.free 1
          by_cases hi : b = 9218868437227405312
          · have hib : (((b : Nat) : Int) == 9218868437227405312) = true := beq_iff_eq.2 (by omega)
            have hv2 : R2 = 20 := by have := HR2.out; rw [if_pos hi] at this; exact this.symm
            clear hi
            go_upto_region 22 with fail
            have hk2i := hk2H.set 1 (.int .u8 20)
            have hk1i := hk1H.set_other (b' := g2) (by omega) 1 (.int .u8 20)
            have hk0i := hk0H.set_other (b' := g2) (by omega) 1 (.int .u8 20)
            have hbi := hbH.setCell (show w.heap.size ≤ (⟨g2, 1, none⟩ : Addr).block from hg2) (.int .u8 20)
            have hr2 : R2 = 20 := hv2
            subst hr2
            have p0 := hk2i.cell 0 _ rfl
            have p1 := hk2i.cell 1 _ rfl
            have q0 := hk0i.cell 0 _ rfl
            have z0 := hk2i.free 0
            have z1 := hk2i.free 1
            have y0 := hk1i.free 0
            have y1 := hk1i.free 1
            have yc0 := hk1i.cell 0 _ rfl
            have yc1 := hk1i.cell 1 _ rfl
            cases neg with
            | false =>
              have hr1 : R1 = b := by have := HR1.out; simpa using this.symm
              subst hr1
              go_wp2_with fail
              have hq1 := (((hk1i).set 0 (.int .u64 ((R1 : Nat) : Int))).set 1 (.int .u8 20))
              have o0 := hq1.cell 0 _ rfl
              have o1 := hq1.cell 1 _ rfl
              exact bodyPost_ret (v := .agg #[.int .u64 ((R1 : Nat) : Int), .int .u8 20]) (by simp [results, Tryz.results103, go_sem, o0, o1]; try rfl) rfl ⟨rfl, (hbi.setCell hg1 _).setCell hg1 _⟩
            | true =>
              have hr1 : R1 = b + 9223372036854775808 := by have := HR1.out; simpa using this.symm
              have hng : neg3 b = R1 := by unfold neg3; rw [if_neg (by omega)]; exact hr1.symm
              have hn := fun w => Neg01_any b w (by omega)
              simp only [hng] at hn
              clear hr1 hng
              go_wp2_with fail
              refine (hn _).mono ?_
              rintro en w9 ⟨rfl, hw⟩
              subst hw
              have hk2n := hk2i.set 0 (.int .u64 ((R1 : Nat) : Int))
              have hk1n := hk1i.set_other (b' := g2) (by omega) 0 (.int .u64 ((R1 : Nat) : Int))
              have hbn := hbi.setCell (show w.heap.size ≤ (⟨g2, 0, none⟩ : Addr).block from hg2) (.int .u64 ((R1 : Nat) : Int))
              have p0 := hk2n.cell 0 _ rfl
              have p1 := hk2n.cell 1 _ rfl
              have y0 := hk1n.free 0
              have y1 := hk1n.free 1
              have yc0 := hk1n.cell 0 _ rfl
              have yc1 := hk1n.cell 1 _ rfl
              go_wp2_with fail
              have hq1 := (((hk1n).set 0 (.int .u64 ((R1 : Nat) : Int))).set 1 (.int .u8 20))
              have o0 := hq1.cell 0 _ rfl
              have o1 := hq1.cell 1 _ rfl
              exact bodyPost_ret (v := .agg #[.int .u64 ((R1 : Nat) : Int), .int .u8 20]) (by simp [results, Tryz.results103, go_sem, o0, o1]; try rfl) rfl ⟨rfl, (hbn.setCell hg1 _).setCell hg1 _⟩
          · have hib : (((b : Nat) : Int) == 9218868437227405312) = false := beq_eq_false_iff_ne.2 (by omega)
            have hv2 : R2 = 24 := by have := HR2.out; rw [if_neg hi] at this; simpa using this.symm
            clear hi
            go_upto_region 22 with fail
            have hr2 : R2 = 24 := hv2
            subst hr2
            have p0 := hk2H.cell 0 _ rfl
            have p1 := hk2H.cell 1 _ rfl
            have q0 := hk0H.cell 0 _ rfl
            have z0 := hk2H.free 0
            have z1 := hk2H.free 1
            have y0 := hk1H.free 0
            have y1 := hk1H.free 1
            have yc0 := hk1H.cell 0 _ rfl
            have yc1 := hk1H.cell 1 _ rfl
            cases neg with
            | false =>
              have hr1 : R1 = b := by have := HR1.out; simpa using this.symm
              subst hr1
              go_wp2_with fail
              have hq1 := (((hk1H).set 0 (.int .u64 ((R1 : Nat) : Int))).set 1 (.int .u8 24))
              have o0 := hq1.cell 0 _ rfl
              have o1 := hq1.cell 1 _ rfl
              exact bodyPost_ret (v := .agg #[.int .u64 ((R1 : Nat) : Int), .int .u8 24]) (by simp [results, Tryz.results103, go_sem, o0, o1]; try rfl) rfl ⟨rfl, (hbH.setCell hg1 _).setCell hg1 _⟩
            | true =>
              have hr1 : R1 = b + 9223372036854775808 := by have := HR1.out; simpa using this.symm
              have hng : neg3 b = R1 := by unfold neg3; rw [if_neg (by omega)]; exact hr1.symm
              have hn := fun w => Neg01_any b w (by omega)
              simp only [hng] at hn
              clear hr1 hng
              go_wp2_with fail
              refine (hn _).mono ?_
              rintro en w9 ⟨rfl, hw⟩
              subst hw
              have hk2n := hk2H.set 0 (.int .u64 ((R1 : Nat) : Int))
              have hk1n := hk1H.set_other (b' := g2) (by omega) 0 (.int .u64 ((R1 : Nat) : Int))
              have hbn := hbH.setCell (show w.heap.size ≤ (⟨g2, 0, none⟩ : Addr).block from hg2) (.int .u64 ((R1 : Nat) : Int))
              have p0 := hk2n.cell 0 _ rfl
              have p1 := hk2n.cell 1 _ rfl
              have y0 := hk1n.free 0
              have y1 := hk1n.free 1
              have yc0 := hk1n.cell 0 _ rfl
              have yc1 := hk1n.cell 1 _ rfl
              go_wp2_with fail
              have hq1 := (((hk1n).set 0 (.int .u64 ((R1 : Nat) : Int))).set 1 (.int .u8 24))
              have o0 := hq1.cell 0 _ rfl
              have o1 := hq1.cell 1 _ rfl
              exact bodyPost_ret (v := .agg #[.int .u64 ((R1 : Nat) : Int), .int .u8 24]) (by simp [results, Tryz.results103, go_sem, o0, o1]; try rfl) rfl ⟨rfl, (hbn.setCell hg1 _).setCell hg1 _⟩
end Go.Proofs.YtkfbailpifmdcaaGreatDoor
end
