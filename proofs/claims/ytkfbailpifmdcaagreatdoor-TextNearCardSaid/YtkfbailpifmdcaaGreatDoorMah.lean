/- RndH RndI TenA TenB TenC -/
import Derived.Laws.Bits64
import Derived.Deep.DeepCutAuto
import Derived.Deep.CutBlock
import Derived.Test.YtkfbailpifmdcaaGreatDoorMag
section
namespace Go.Proofs.YtkfbailpifmdcaaGreatDoor
open Go.RowKit

theorem flip_low {x : Nat} (h : x < 9223372036854775808) : x ^^^ 9223372036854775808 = x + 9223372036854775808 := by
  apply Nat.eq_of_testBit_eq
  intro i
  have h2 : (9223372036854775808 : Nat) = 2 ^ 63 := rfl
  rw [h2] at h ⊢
  rw [Nat.testBit_xor, Nat.testBit_two_pow, Nat.add_comm]
  by_cases h63 : i = 63
  · subst h63
    rw [Nat.testBit_two_pow_add_eq]
    cases x.testBit 63 <;> rfl
  · by_cases hlt : i < 63
    · rw [Nat.testBit_two_pow_add_gt hlt]
      have : decide (63 = i) = false := decide_eq_false (by omega)
      rw [this]
      cases x.testBit i <;> rfl
    · have h1 : x.testBit i = false := Nat.testBit_lt_two_pow (Nat.lt_of_lt_of_le h (Nat.pow_le_pow_right (by decide) (by omega)))
      have h3 : (2 ^ 63 + x).testBit i = false := Nat.testBit_lt_two_pow (Nat.lt_of_lt_of_le (by omega : 2 ^ 63 + x < 2 ^ 64) (Nat.pow_le_pow_right (by decide) (by omega)))
      have : decide (63 = i) = false := decide_eq_false (by omega)
      rw [h1, h3, this]
      rfl
theorem flip_high {x : Nat} (h : x < 9223372036854775808) : (x + 9223372036854775808) ^^^ 9223372036854775808 = x := by
  rw [← flip_low h, Nat.xor_assoc, Nat.xor_self, Nat.xor_zero]


theorem Neg_any (x : Nat) (w : World) (hx : x < 18446744073709551616) :
    Calls Tryz.prog 162 #[.int .u64 ((x : Nat) : Int)] w fun e w' => e = .returned (.int .u64 ((x ^^^ 9223372036854775808 : Nat) : Int)) ∧ w = w' := by
  have hb := bits_xor_u64_nat x 9223372036854775808 hx (by decide)
  obtain ⟨r, hr⟩ : ∃ r, x ^^^ 9223372036854775808 = r := ⟨_, rfl⟩
  rw [hr] at hb ⊢
  clear hr
  go_enter Tryz.func162, Tryz.ntmps162
  go_wp2
  go_ret
  exact ⟨ret_int hb, rfl⟩

/-- A number, rounded: its bits, its flags. -/
def nearP (neg : Bool) (m : Nat) (x : Int) : Nat × Nat :=
  (if neg && !(m == 0) then (nearestP m x).1 + 9223372036854775808 else (nearestP m x).1,
   if (nearestP m x).2 then (if (nearestP m x).1 = 9218868437227405312 then 20 else if tinyB m x then 24 else 16) else 0)

theorem nearestP_lt (m : Nat) (x : Int) : (nearestP m x).1 ≤ 9218868437227405312 := by
  unfold nearestP
  by_cases h0 : m = 0
  · rw [if_pos h0]; simp
  rw [if_neg h0]
  split
  · exact Nat.le_refl _
  split
  · simp
  have := atP_le (m := m) (x := x) (e := max (topP m x - 53) (-1074)) (by omega) h0
  split
  · exact putP_lt (by decide)
  · exact putP_lt this

def nearF (b : Nat) (s t : Bool) : Nat := if s then (if b = 9218868437227405312 then 20 else if t then 24 else 16) else 0

set_option maxRecDepth 100000 in
set_option maxHeartbeats 4000000 in
theorem near_any (lo : Nat) (v : Value) (neg : Bool) (l : List Nat) (x : Int) (w : World) (hd : DyW lo w v neg l x) (hl : (limbsOf (valN l)).length ≤ 1024) (he : -900000 ≤ x) (he2 : x ≤ 900000) (hT : TabW w) :
    Calls Tryz.prog 146 #[v] w fun en w' => en = .returned (.agg #[.int .u64 (((nearP neg (valN l) x).1 : Nat) : Int), .int .u8 (((nearP neg (valN l) x).2 : Nat) : Int)]) ∧ Below w.heap.size w w' := by
  obtain ⟨m, hm⟩ : ∃ m, valN l = m := ⟨_, rfl⟩
  have hof := fun lo' v' (w' : World) (hd' : DyW lo' w' v' neg l x) => of_any lo' v' neg l x w' hd' hl
  rw [hm] at hl hof ⊢
  have HOF := Lib.hid hof
  clear hof hm
  have hnl := nearestP_lt m x
  have HNE := Lib.hid (fun lo' v' w' (h1 : Am lo' w' v' m x) h2 => nearest_any lo' v' m x w' h1 hl he he2 h2)
  have HTI := Lib.hid (fun lo' v' w' (h1 : Am lo' w' v' m x) h2 => tiny_any lo' v' m x w' h1 hl he he2 h2)
  obtain ⟨b, hb⟩ : ∃ b, (nearestP m x).1 = b := ⟨_, rfl⟩
  obtain ⟨s, hs⟩ : ∃ s, (nearestP m x).2 = s := ⟨_, rfl⟩
  obtain ⟨t, ht⟩ : ∃ s, tinyB m x = s := ⟨_, rfl⟩
  have hR : nearP neg m x = (if neg && !(m == 0) then b + 9223372036854775808 else b, if s then (if b = 9218868437227405312 then 20 else if t then 24 else 16) else 0) := by unfold nearP; rw [hb, hs, ht]
  rw [hb, hs] at HNE
  rw [ht] at HTI
  rw [hb] at hnl
  obtain ⟨r, hr⟩ : ∃ s, nearP neg m x = s := ⟨_, rfl⟩
  rw [hr] at hR ⊢
  have HR := Lib.hid hR
  clear hR hr hb hs ht
  obtain ⟨a, rfl, ha⟩ := hd
  obtain ⟨x1, n1, c1, rfl⟩ := ha.slice
  go_enter Tryz.func146, Tryz.ntmps146
  have hb1 := (Below.refl w.heap.size w).alloc (Nat.le_refl _) (.cells #[.bool neg, .slice x1 n1 c1, .int .i64 x] 62)
  have hb2 := hb1.alloc (by simp) (.cells #[.int .u64 0, .int .u8 0] 25)
  go_wp2_with fail
  refine (HOF.out lo _ _ ⟨_, rfl, ha.call hb2⟩).mono ?_
  rintro e w1 ⟨v1, rfl, hv1, hb3⟩
  clear HOF
  obtain ⟨a1, rfl, ha1⟩ := hv1
  obtain ⟨x2, n2, c2, rfl⟩ := ha1.slice
  have hp := ((Blk.new w #[.bool neg, .slice x1 n1 c1, .int .i64 x] 62).alloc (.cells #[.int .u64 0, .int .u8 0] 25)).call hb3
  have hq0 := (Blk.new (w.alloc (.cells #[.bool neg, .slice x1 n1 c1, .int .i64 x] 62)) #[.int .u64 0, .int .u8 0] 25).call hb3
  have hq : Blk w1 (w.heap.size + 1) #[.int .u64 0, .int .u8 0] 25 := by simpa using hq0
  have hb13 := hb2.trans (hb3.mono hb2.size)
  have hs1 := hb13.size
  have hb14 := hb13.alloc (by omega) (.cells #[.slice x2 n2 c2, .int .i64 x] 188)
  have ha2 : Am _ (w1.alloc (.cells #[.slice x2 n2 c2, .int .i64 x] 188)) (.agg #[.slice x2 n2 c2, .int .i64 x]) m x := ⟨_, rfl, ha1.call ((Below.refl w1.heap.size w1).alloc (Nat.le_refl _) _)⟩
  go_wp2_with fail
  refine (HNE.out _ _ _ ha2 (hT.call hb14)).mono ?_
  rintro e w2 ⟨rfl, hb5⟩
  clear HNE
  have hb15 := hb14.trans (hb5.mono hb14.size)
  have hs2 := hb15.size
  have ha3 := ha2.call hb5
  have hp2 := (hp.alloc (.cells #[.slice x2 n2 c2, .int .i64 x] 188)).call hb5
  have hq2 := (hq.alloc (.cells #[.slice x2 n2 c2, .int .i64 x] 188)).call hb5
  have hr2 := (Blk.new w1 #[.slice x2 n2 c2, .int .i64 x] 188).call hb5
  clear hb2 hb3 hb13 hb14 hb1 ha2 hq0
  have p0 := hp2.cell 0 _ rfl
  have p1 := hp2.cell 1 _ rfl
  have p2 := hp2.cell 2 _ rfl
  have q0 := hq2.cell 0 _ rfl
  have q1 := hq2.cell 1 _ rfl
  have r0 := hr2.cell 0 _ rfl
  have r1 := hr2.cell 1 _ rfl
  have f0 := hq2.free 0
  have f1 := hq2.free 1
  have l0 := hp2.lt
  have l1 := hq2.lt
  have l2 := hr2.lt
  have ho1 : bits BinOp.or IntKind.u8 16 4 = 20 := by decide
  have ho2 : bits BinOp.or IntKind.u8 16 8 = 24 := by decide
  have hfl : nearF b s t = if s then (if b = 9218868437227405312 then 20 else if t then 24 else 16) else 0 := rfl
  have HFL := Lib.hid hfl
  have hm2 : m ≠ 0 ∨ m = 0 := by omega
  clear hfl
  go_upto_if 16 with fail
  go_cut [] (fun wx => Blk wx w2.heap.size #[.int .u64 ((b : Nat) : Int), .int .u8 ((nearF b s t : Nat) : Int)] 25 ∧ Below w2.heap.size w2 wx)
  case first =>
    have hbw := (Below.refl w2.heap.size w2).alloc (Nat.le_refl _) (.cells #[.int .u64 ((b : Nat) : Int), .int .u8 0] 25)
    have hbk := Blk.new w2 #[.int .u64 ((b : Nat) : Int), .int .u8 0] 25
    cases s with
    | false =>
      have e1 : nearF b false t = 0 := HFL.out
      go_wp2_with fail
      go_meet
      exact ⟨by rw [e1]; exact hbk, hbw⟩
    | true =>
      by_cases hbi : b = 9218868437227405312
      · have e1 : nearF b true t = 20 := by rw [HFL.out, if_pos rfl, if_pos hbi]
        have e2 : (((b : Nat) : Int) == 9218868437227405312) = true := beq_iff_eq.2 (by omega)
        have hbi' := Lib.hid hbi
        clear hbi
        go_wp2_with fail
        go_meet
        exact ⟨by rw [e1]; exact Blk.new w2 _ _, (Below.refl w2.heap.size w2).alloc (Nat.le_refl _) _⟩
      · have e1 : nearF b true t = if t then 24 else 16 := by rw [HFL.out, if_pos rfl, if_neg hbi]
        have e2 : (((b : Nat) : Int) == 9218868437227405312) = false := beq_eq_false_iff_ne.2 (by omega)
        have hbi' := Lib.hid hbi
        clear hbi
        have hb7 := (Below.refl w2.heap.size w2).alloc (Nat.le_refl _) (.cells #[.int .u64 ((b : Nat) : Int), .int .u8 16] 25)
        go_wp2_with fail
        refine (HTI.out _ _ _ (ha3.call hb7) ((hT.call hb15).call hb7)).mono ?_
        rintro e w4 ⟨rfl, hb8⟩
        have hk8 := (Blk.new w2 #[.int .u64 ((b : Nat) : Int), .int .u8 16] 25).call hb8
        have k1 := hk8.cell 1 _ rfl
        have kf := hk8.free 1
        have hb9 := hb7.trans (hb8.mono hb7.size)
        cases t with
        | false =>
          go_wp2_with fail
          go_meet
          exact ⟨by rw [e1]; exact hk8, hb9⟩
        | true =>
          go_wp2_with fail
          go_meet
          exact ⟨by rw [e1]; exact hk8.set 1 _, hb9.setCell (Nat.le_refl _) _⟩
  case rest =>
    obtain ⟨hk, hb6⟩ := hcut
    have hbf := hb15.trans (hb6.mono hb15.size)
    have ha4 := ha3.call hb6
    have ep := hr2.call hb6
    have P0 := (hp2.call hb6).cell 0 _ rfl
    have R0 := ep.cell 0 _ rfl
    have R1 := ep.cell 1 _ rfl
    have K0 := hk.cell 0 _ rfl
    have K1 := hk.cell 1 _ rfl
    have hqx := (hq2.call hb6)
    have F0 := hqx.free 0
    have F1 := hqx.free 1
    have Q0 := hqx.cell 0 _ rfl
    have Q1 := hqx.cell 1 _ rfl
    have hrr : r = (if neg && !(m == 0) then b + 9223372036854775808 else b, nearF b s t) := HR.out
    have HRR := Lib.hid hrr
    clear hrr p0 p1 p2 q0 q1 r0 r1 f0 f1 HR HTI
    cases neg with
    | false =>
      have er := HRR.out
      rw [Bool.false_and, if_neg (by decide)] at er
      subst er
      clear HRR
      go_wp2_with fail
      have hd3 := (hqx.set 0 (.int .u64 ((b : Nat) : Int))).set 1 (.int .u8 ((nearF b s t : Nat) : Int))
      have o0 := hd3.cell 0 _ rfl
      have o1 := hd3.cell 1 _ rfl
      exact bodyPost_ret (v := .agg #[.int .u64 ((b : Nat) : Int), .int .u8 ((nearF b s t : Nat) : Int)]) (by simp [results, Tryz.results146, go_sem, o0, o1]; try rfl) rfl ⟨rfl, (hbf.setCell (by simp) _).setCell (by simp) _⟩
    | true =>
      go_wp2_with fail
      refine (zero_any _ _ m x _ ha4).mono ?_
      rintro e w5 ⟨rfl, hb7⟩
      have hbg := hbf.trans (hb7.mono hbf.size)
      have hk5 := hk.call hb7
      have hq5 := hqx.call hb7
      have S0 := hk5.cell 0 _ rfl
      have S1 := hk5.cell 1 _ rfl
      have S2 := hk5.free 0
      have T0 := hq5.cell 0 _ rfl
      have T1 := hq5.cell 1 _ rfl
      have T2 := hq5.free 0
      have T3 := hq5.free 1
      clear P0 R0 R1 K0 K1 F0 F1 Q0 Q1
      by_cases h0 : m = 0
      · have e1 : (m == 0) = true := by rw [h0]; rfl
        rw [e1]
        have er := HRR.out
        rw [e1, if_neg (by decide)] at er
        subst er
        clear e1 HRR
        go_wp2_with fail
        have hd3 := (hq5.set 0 (.int .u64 ((b : Nat) : Int))).set 1 (.int .u8 ((nearF b s t : Nat) : Int))
        have o0 := hd3.cell 0 _ rfl
        have o1 := hd3.cell 1 _ rfl
        exact bodyPost_ret (v := .agg #[.int .u64 ((b : Nat) : Int), .int .u8 ((nearF b s t : Nat) : Int)]) (by simp [results, Tryz.results146, go_sem, o0, o1]; try rfl) rfl ⟨rfl, (hbg.setCell (by simp) _).setCell (by simp) _⟩
      · have e1 : (m == 0) = false := beq_eq_false_iff_ne.2 h0
        rw [e1]
        have er := HRR.out
        rw [e1, if_pos (by decide)] at er
        subst er
        clear e1 HRR
        go_wp2_with fail
        refine (Neg_any b _ (by omega)).mono ?_
        rintro e w6 ⟨rfl, hw⟩
        subst hw
        rw [flip_low (by omega)]
        have hk6 := hk5.set 0 (.int .u64 ((b + 9223372036854775808 : Nat) : Int))
        have U0 := hk6.cell 0 _ rfl
        have U1 := hk6.cell 1 _ rfl
        have hne : w2.heap.size ≠ w.heap.size + 1 := by have := hq2.lt; omega

        have hBc : ((b : Nat) : Int) + 9223372036854775808 = ((b + 9223372036854775808 : Nat) : Int) := by omega
        generalize b + 9223372036854775808 = B at *
        go_wp2_with fail
        have hd3 := ((hq5.set_other (fun e => hne e.symm) 0 (.int .u64 ((B : Nat) : Int))).set 0 (.int .u64 ((B : Nat) : Int))).set 1 (.int .u8 ((nearF b s t : Nat) : Int))
        have o0 := hd3.cell 0 _ rfl
        have o1 := hd3.cell 1 _ rfl
        exact bodyPost_ret (v := .agg #[.int .u64 ((B : Nat) : Int), .int .u8 ((nearF b s t : Nat) : Int)]) (by simp [results, Tryz.results146, go_sem, o0, o1]; try rfl) rfl ⟨by rw [← hBc], ((hbg.setCell (by simp; omega) _).setCell (by simp) _).setCell (by simp) _⟩
end Go.Proofs.YtkfbailpifmdcaaGreatDoor
end

section
namespace Go.Proofs.YtkfbailpifmdcaaGreatDoor
open Go.RowKit

theorem nearP_lt (neg : Bool) (m : Nat) (x : Int) : (nearP neg m x).1 < 18446744073709551616 ∧ (nearP neg m x).2 < 256 := by
  have := nearestP_lt m x
  unfold nearP
  constructor
  · simp only; split <;> omega
  · simp only; split
    · split
      · omega
      · split <;> omega
    · omega

set_option maxRecDepth 100000 in
set_option maxHeartbeats 4000000 in
theorem Near_any (lo : Nat) (v : Value) (neg : Bool) (l : List Nat) (x : Int) (w : World) (hd : DyW lo w v neg l x) (hfit : fitsB l x = true) (hT : TabW w) :
    Calls Tryz.prog 122 #[v] w fun en w' => en = .returned (.tuple #[.agg #[.int .u64 (((nearP neg (valN l) x).1 : Nat) : Int), .int .u8 (((nearP neg (valN l) x).2 : Nat) : Int)], .int .i64 0]) ∧ Below w.heap.size w w' := by
  have hchk := fun lo' v' (w' : World) (hd' : DyW lo' w' v' neg l x) => Check_any lo' v' neg l x w' hd'
  rw [hfit, if_pos rfl] at hchk
  have hf2 : (limbsOf (valN l)).length ≤ 1024 ∧ -32768 ≤ x ∧ x ≤ 32768 := by simpa [fitsB] using hfit
  have hnear := fun lo' v' (w' : World) (hd' : DyW lo' w' v' neg l x) hT' => near_any lo' v' neg l x w' hd' hf2.1 (by omega) (by omega) hT'
  generalize (nearP neg (valN l) x).1 = b at *
  generalize (nearP neg (valN l) x).2 = f at *
  have HC := Lib.hid hchk
  have HN := Lib.hid hnear
  clear hchk hnear hfit hf2
  obtain ⟨a, rfl, ha⟩ := hd
  obtain ⟨x1, n1, c1, rfl⟩ := ha.slice
  go_enter Tryz.func122, Tryz.ntmps122
  have hb1 := (Below.refl w.heap.size w).alloc (Nat.le_refl _) (.cells #[.bool neg, .slice x1 n1 c1, .int .i64 x] 62)
  have hb2 := hb1.alloc (by simp) (.cells #[.int .u64 0, .int .u8 0] 25)
  go_wp2_with fail
  refine (HC.out lo _ _ ⟨_, rfl, ha.call hb2⟩).mono ?_
  rintro e w1 ⟨rfl, hb3⟩
  clear HC
  have hp := ((Blk.new w #[.bool neg, .slice x1 n1 c1, .int .i64 x] 62).alloc (.cells #[.int .u64 0, .int .u8 0] 25)).call hb3
  have hq0 := (Blk.new (w.alloc (.cells #[.bool neg, .slice x1 n1 c1, .int .i64 x] 62)) #[.int .u64 0, .int .u8 0] 25).call hb3
  have hq : Blk w1 (w.heap.size + 1) #[.int .u64 0, .int .u8 0] 25 := by simpa using hq0
  have hb13 := hb2.trans (hb3.mono hb2.size)
  have p0 := hp.cell 0 _ rfl
  have p1 := hp.cell 1 _ rfl
  have p2 := hp.cell 2 _ rfl
  go_wp2_with fail
  refine (HN.out lo _ w1 ⟨_, rfl, ha.call hb13⟩ (hT.call hb13)).mono ?_
  rintro e w2 ⟨rfl, hb4⟩
  clear HN
  have hb14 := hb13.trans (hb4.mono hb13.size)
  have hq2 := hq.call hb4
  have q0 := hq2.cell 0 _ rfl
  have q1 := hq2.cell 1 _ rfl
  have f0 := hq2.free 0
  have f1 := hq2.free 1
  go_wp2_with fail
  have hd3 := (hq2.set 0 (.int .u64 ((b : Nat) : Int))).set 1 (.int .u8 ((f : Nat) : Int))
  have o0 := hd3.cell 0 _ rfl
  have o1 := hd3.cell 1 _ rfl
  exact bodyPost_ret (v := .tuple #[.agg #[.int .u64 ((b : Nat) : Int), .int .u8 ((f : Nat) : Int)], .int .i64 0]) (by simp [results, Tryz.results122, go_sem, o0, o1]; try rfl) rfl ⟨rfl, (hb14.setCell (by simp) _).setCell (by simp) _⟩
end Go.Proofs.YtkfbailpifmdcaaGreatDoor
end

section
namespace Go.Proofs.YtkfbailpifmdcaaGreatDoor
open Go.RowKit

theorem ten_len (r : Nat) : (limbsOf (10 ^ r)).length ≤ r + 1 := by
  refine limbsOf_len ?_
  rw [pw_two]
  have h1 : (10 : Nat) ^ r ≤ (2 ^ 64) ^ r := Nat.pow_le_pow_left (by decide) r
  rw [← Nat.pow_mul] at h1
  exact Nat.lt_of_le_of_lt h1 (Nat.pow_lt_pow_right (by decide) (by omega))

def TenRel (w : World) (N : Nat) (u0 u3 : Value) (wr : World) : Prop :=
  ∃ k : Nat, k ≤ N ∧ u0 = .int .i64 (((N - k : Nat) : Int)) ∧ Num w.heap.size wr u3 (10 ^ k) ∧ Below w.heap.size w wr

set_option maxRecDepth 100000 in
set_option maxHeartbeats 2000000 in
theorem ten_any (N : Nat) (w : World) (hN : N ≤ 100000) :
    Calls Tryz.prog 73 #[.int .i64 ((N : Nat) : Int)] w (NumPost w w.heap.size (10 ^ N)) := by
  go_enter Tryz.func73, Tryz.ntmps73
  generalize hZ' : (10000000000000000000 : Int) = Z
  have hZ := Lib.hid hZ'
  clear hZ'
  go_wp2_with fail
  refine (Of_any 1 w (by decide) (by decide)).mono ?_
  rintro e w1 ⟨v1, rfl, hv1, hb1⟩
  go_wp2_with fail
  go_loopw [0, 3] (fun u0 u3 wr => TenRel w N u0 u3 wr) (fun u0 _ _ => (intOf u0).toNat)
  case atStart => exact ⟨0, Nat.zero_le _, rfl, hv1, hb1⟩
  case round =>
    obtain ⟨k, hk, rfl, hn3, hbl⟩ := hrel
    by_cases h19 : 19 ≤ N - k
    · have hd19 : decide ((19 : Int) ≤ ((N - k : Nat) : Int)) = true := decide_eq_true (by omega)
      have hstep : ((N - k : Nat) : Int) - 19 = ((N - (k + 19) : Nat) : Int) := by omega
      have hl := ten_len k
      go_wp2_with fail
      refine (Of_any Z wr (by have := hZ.out; omega) (by have := hZ.out; omega)).mono ?_
      rintro e w2 ⟨v2, rfl, hv2, hb2⟩
      have hz2 : Z.toNat = 10 ^ 19 := by have := hZ.out; subst this; rfl
      rw [hz2] at hv2
      clear hz2
      go_wp2_with fail
      refine (Mul_any w.heap.size _ _ (limbsOf (10 ^ k)) (limbsOf (10 ^ 19)) w2 (hn3.call hb2).words (hv2.mono hbl.size).words (by omega) (by have := ten_len 19; omega)).mono ?_
      rintro e w3 ⟨v3, rfl, hv3, hb3⟩
      rw [valN_limbsOf, valN_limbsOf, ← Nat.pow_add] at hv3
      have hbk := (hbl.trans (hb2.mono hbl.size))
      have hbk2 := hbk.trans (hb3.mono hbk.size)
      go_wp2_with fail
      go_roundw
      case rel => exact ⟨k + 19, by omega, by go_num, hv3.mono hbk.size, hbk2⟩
      case measure => simp [intOf]; omega
    · have hd19 : decide ((19 : Int) ≤ ((N - k : Nat) : Int)) = false := decide_eq_false (by omega)
      clear hZ
      go_wp2_with fail
      go_loopw [0, 3] (fun u0 u3 wr => TenRel w N u0 u3 wr) (fun u0 _ _ => (intOf u0).toNat)
      case atStart => exact ⟨k, hk, rfl, hn3, hbl⟩
      case round =>
        clear hn3 hbl h19 hd19
        obtain ⟨j, hj, rfl, hm3, hbm⟩ := hrel
        by_cases h0 : 0 < N - j
        · have hd0 : decide ((0 : Int) < ((N - j : Nat) : Int)) = true := decide_eq_true (by omega)
          have hstep : ((N - j : Nat) : Int) - 1 = ((N - (j + 1) : Nat) : Int) := by omega
          have hl := ten_len j
          go_wp2_with fail
          refine (Of_any 10 _ (by decide) (by decide)).mono ?_
          rintro e w2 ⟨v2, rfl, hv2, hb2⟩
          go_wp2_with fail
          refine (Mul_any w.heap.size _ _ (limbsOf (10 ^ j)) (limbsOf 10) w2 (hm3.call hb2).words (hv2.mono hbm.size).words (by omega) (by have := ten_len 1; rw [Nat.pow_one] at this; omega)).mono ?_
          rintro e w3 ⟨v3, rfl, hv3, hb3⟩
          rw [valN_limbsOf, valN_limbsOf, ← Nat.pow_succ] at hv3
          have hbk := (hbm.trans (hb2.mono hbm.size))
          have hbk2 := hbk.trans (hb3.mono hbk.size)
          go_wp2_with fail
          go_roundw
          case rel => exact ⟨j + 1, by omega, by go_num, hv3.mono hbk.size, hbk2⟩
          case measure => simp [intOf]; omega
        · have hjN : j = N := by omega
          subst hjN
          go_wp2_with fail
          go_ret
          exact ⟨_, rfl, hm3, hbm⟩
end Go.Proofs.YtkfbailpifmdcaaGreatDoor
end

section
namespace Go.Proofs.YtkfbailpifmdcaaGreatDoor
open Go.RowKit

theorem Blk.new2 (w : World) (o : Obj) (cur : Array Value) (e : TypeId) : Blk ((w.alloc o).alloc (.cells cur e)) (w.heap.size + 1) cur e := by
  have h := Blk.new (w.alloc o) cur e
  rw [show (w.alloc o).heap.size = w.heap.size + 1 by simp] at h
  exact h

/-- A number, rounded, with its sign. -/
def resultP (neg : Bool) (m : Nat) (x : Int) : Nat × Nat :=
  (if (m == 0) && neg then 9223372036854775808 else (nearP (neg && !(m == 0)) m x).1, (nearP (neg && !(m == 0)) m x).2)

set_option maxRecDepth 100000 in
set_option maxHeartbeats 4000000 in
theorem result_any (lo : Nat) (v : Value) (neg neg0 : Bool) (l : List Nat) (x : Int) (w : World) (hd : DyW lo w v neg0 l x) (hfit : fitsB l x = true) (hT : TabW w) :
    Calls Tryz.prog 94 #[.bool neg, v] w fun en w' => en = .returned (.agg #[.int .u64 (((resultP neg (valN l) x).1 : Nat) : Int), .int .u8 (((resultP neg (valN l) x).2 : Nat) : Int)]) ∧ Below w.heap.size w w' := by
  have hz := fun lo' v' neg' (w' : World) (hd' : DyW lo' w' v' neg' l x) => Zero_any lo' v' neg' l x w' hd'
  obtain ⟨z, hz1⟩ : ∃ z, (valN l == 0) = z := ⟨_, rfl⟩
  have hn := fun lo' v' (w' : World) (hd' : DyW lo' w' v' (neg && !z) l x) hT' => Near_any lo' v' (neg && !z) l x w' hd' hfit hT'
  have hR : resultP neg (valN l) x = (if z && neg then 9223372036854775808 else (nearP (neg && !z) (valN l) x).1, (nearP (neg && !z) (valN l) x).2) := by unfold resultP; rw [hz1]
  rw [hR]
  rw [hz1] at hz
  generalize (nearP (neg && !z) (valN l) x).1 = b at *
  generalize (nearP (neg && !z) (valN l) x).2 = f at *
  obtain ⟨r, hr⟩ : ∃ r, (if z && neg then 9223372036854775808 else b) = r := ⟨_, rfl⟩
  rw [hr]
  have HR := Lib.hid hr
  have HZ := Lib.hid hz
  have HN := Lib.hid hn
  clear hz hn hfit hR hr hz1
  obtain ⟨a, rfl, ha⟩ := hd
  obtain ⟨x1, n1, c1, rfl⟩ := ha.slice
  go_enter Tryz.func94, Tryz.ntmps94
  have hb1 := (Below.refl w.heap.size w).alloc (Nat.le_refl _) (.cells #[.bool neg0, .slice x1 n1 c1, .int .i64 x] 62)
  have hb2 := hb1.alloc (by simp) (.cells #[.int .u64 0, .int .u8 0] 25)
  have hq := Blk.new2 w (.cells #[.bool neg0, .slice x1 n1 c1, .int .i64 x] 62) #[.int .u64 0, .int .u8 0] 25
  have hp := ((Blk.new w #[.bool neg0, .slice x1 n1 c1, .int .i64 x] 62).alloc (.cells #[.int .u64 0, .int .u8 0] 25))
  go_upto_region 1 with fail
  go_cut [] (fun wx => Blk wx w.heap.size #[.bool (neg && !z), .slice x1 n1 c1, .int .i64 x] 62 ∧ Blk wx (w.heap.size + 1) #[.int .u64 0, .int .u8 0] 25 ∧ Below w.heap.size w wx)
  case first =>
    cases neg with
    | false =>
      go_wp2_with fail
      go_meet
      exact ⟨(Blk.new w _ _).alloc _, Blk.new2 w _ _ _, ((Below.refl w.heap.size w).alloc (Nat.le_refl _) _).alloc (by simp) _⟩
    | true =>
      go_wp2_with fail
      refine (HZ.out lo _ neg0 _ ⟨_, rfl, ha.call hb2⟩).mono ?_
      rintro e w1 ⟨rfl, hb3⟩
      have hp1 := hp.call hb3
      have hq1 := hq.call hb3
      have hb4 := hb2.trans (hb3.mono hb2.size)
      have p0 := hp1.cell 0 _ rfl
      have f0 := hp1.free 0
      have e1 : (true && !z) = !z := rfl
      go_wp2_with fail
      go_meet
      exact ⟨hp1.set 0 _, hq1.set_other (by omega) _ _, hb4.setCell (Nat.le_refl _) _⟩
  case rest =>
    obtain ⟨hp1, hq1, hb3⟩ := hcut
    clear hp hq hb1 hb2
    have p0 := hp1.cell 0 _ rfl
    have p1 := hp1.cell 1 _ rfl
    have p2 := hp1.cell 2 _ rfl
    go_wp2_with fail
    refine (HN.out lo _ _ ⟨_, rfl, ha.call hb3⟩ (hT.call hb3)).mono ?_
    rintro e w2 ⟨rfl, hb4⟩
    clear HN
    have hp2 := hp1.call hb4
    have hq2 := hq1.call hb4
    have hb5 := hb3.trans (hb4.mono hb3.size)
    clear p0 p1 p2
    have l0 := hp2.lt
    have l1 := hq2.lt
    have q0 := hp2.cell 0 _ rfl
    have q1 := hp2.cell 1 _ rfl
    have q2 := hp2.cell 2 _ rfl
    have hb6 := (Below.refl w2.heap.size w2).alloc (Nat.le_refl _) (.cells #[.int .u64 ((b : Nat) : Int), .int .u8 ((f : Nat) : Int)] 25)
    have hp3 := (hp2.alloc (.cells #[.int .u64 ((b : Nat) : Int), .int .u8 ((f : Nat) : Int)] 25))
    have hb7 := hb5.trans (hb6.mono hb5.size)
    go_wp2_with fail
    refine (HZ.out lo _ _ _ ⟨_, rfl, ha.call hb7⟩).mono ?_
    rintro e w3 ⟨rfl, hb8⟩
    clear HZ
    have hb9 := hb7.trans (hb8.mono hb7.size)
    have hr3 := (Blk.new w2 #[.int .u64 ((b : Nat) : Int), .int .u8 ((f : Nat) : Int)] 25).call hb8
    have hq3 := (hq2.alloc (.cells #[.int .u64 ((b : Nat) : Int), .int .u8 ((f : Nat) : Int)] 25)).call hb8
    clear q0 q1 q2
    have r0 := hr3.cell 0 _ rfl
    have r1 := hr3.cell 1 _ rfl
    have r2 := hr3.free 0
    have s0 := hq3.cell 0 _ rfl
    have s1 := hq3.cell 1 _ rfl
    have s2 := hq3.free 0
    have s3 := hq3.free 1
    have hs5 := hb5.size
    have hne : w2.heap.size ≠ w.heap.size + 1 := by omega
    by_cases hzn : (z && neg) = true
    · have er := HR.out
      rw [if_pos hzn] at er
      obtain ⟨rfl, rfl⟩ : z = true ∧ neg = true := by simpa using hzn
      clear HR
      have hr4 := hr3.set 0 (.int .u64 9223372036854775808)
      have u0 := hr4.cell 0 _ rfl
      have u1 := hr4.cell 1 _ rfl
      go_wp2_with fail
      have hd3 := ((hq3.set_other (fun e => hne e.symm) 0 (.int .u64 9223372036854775808)).set 0 (.int .u64 9223372036854775808)).set 1 (.int .u8 ((f : Nat) : Int))
      have o0 := hd3.cell 0 _ rfl
      have o1 := hd3.cell 1 _ rfl
      exact bodyPost_ret (v := .agg #[.int .u64 9223372036854775808, .int .u8 ((f : Nat) : Int)]) (by simp [results, Tryz.results94, go_sem, o0, o1]; try rfl) rfl ⟨by rw [← er]; rfl, ((hb9.setCell (by omega) _).setCell (by simp) _).setCell (by simp) _⟩
    · have er := HR.out
      rw [if_neg hzn] at er
      subst er
      clear HR
      have hd3 := (hq3.set 0 (.int .u64 ((b : Nat) : Int))).set 1 (.int .u8 ((f : Nat) : Int))
      have o0 := hd3.cell 0 _ rfl
      have o1 := hd3.cell 1 _ rfl
      cases z <;> cases neg
      all_goals first | exact absurd rfl hzn | clear hzn
      all_goals (go_wp2_with fail; exact bodyPost_ret (v := .agg #[.int .u64 ((b : Nat) : Int), .int .u8 ((f : Nat) : Int)]) (by simp [results, Tryz.results94, go_sem, o0, o1]; try rfl) rfl ⟨rfl, (hb9.setCell (by simp) _).setCell (by simp) _⟩)
end Go.Proofs.YtkfbailpifmdcaaGreatDoor
end

section
namespace Go.Proofs.YtkfbailpifmdcaaGreatDoor
open Go.RowKit

def formP (neg : Bool) (m : Nat) (x : Int) : Nat × Nat := resultP neg (fAbs m) (fExp m x)
/-- A quotient by 10^j, of at least 80 bits, a last bit for what is left. -/
def quoS (n j : Nat) : Nat := 80 + bl (10 ^ j) - bl n
def quoM (n j : Nat) : Nat := n * 2 ^ quoS n j / 10 ^ j * 2 + (if n * 2 ^ quoS n j % 10 ^ j = 0 then 0 else 1)
def tensP (neg : Bool) (n digits : Nat) (k : Int) : Nat × Nat :=
  if n = 0 then resultP neg 0 0 else if 400 < (digits : Int) + k then resultP neg 1 2000 else if (digits : Int) + k < -400 then resultP neg 1 (-2000) else
  if 0 ≤ k then formP neg (n * 10 ^ k.toNat) 0 else formP neg (quoM n (-k).toNat) (-((quoS n (-k).toNat : Nat) : Int) - 1)

theorem bl_ten {n d : Nat} (h : n < 10 ^ d) : bl n ≤ 4 * d := by
  refine bl_le (Nat.lt_of_lt_of_le h ?_)
  rw [Nat.pow_mul]
  exact Nat.pow_le_pow_left (by decide) d
theorem limbs_bl {n k : Nat} (h : bl n ≤ 64 * k) : (limbsOf n).length ≤ k := by
  refine limbsOf_len ?_
  rw [pw_two]
  exact Nat.lt_of_lt_of_le (bl_lt n) (Nat.pow_le_pow_right (by decide) h)
theorem bl_mul (a b : Nat) : bl (a * b) ≤ bl a + bl b := by
  refine bl_le ?_
  rw [Nat.pow_add]
  exact Nat.mul_lt_mul'' (bl_lt a) (bl_lt b)
theorem bl_two (k : Nat) : bl (2 ^ k) = k + 1 := bl_unique (Nat.le_refl _) (Nat.pow_lt_pow_right (by decide) (by omega))
theorem fAbs_le (m : Nat) : fAbs m ≤ m := Nat.div_le_self _ _
theorem fits_of {m : Nat} {x : Int} (h1 : bl m ≤ 65536) (h2 : -32768 ≤ x) (h3 : x ≤ 32768) : fitsB (limbsOf m) x = true := by
  have ha : (limbsOf m).length ≤ 1024 := limbs_bl h1
  simp only [fitsB, valN_limbsOf]
  exact decide_eq_true ⟨ha, h2, h3⟩
theorem fits_one {x : Int} (h2 : -32768 ≤ x) (h3 : x ≤ 32768) : fitsB (limbsOf 1) x = true :=
  fits_of (Nat.le_trans (bl_le (k := 1) (by decide)) (by decide)) h2 h3
theorem fits_form {m : Nat} {x : Int} (h1 : bl m ≤ 65536) (h2 : -32768 ≤ x) (h3 : x + (bl m : Nat) ≤ 32768) : fitsB (limbsOf (fAbs m)) (fExp m x) = true := by
  have ha : (limbsOf (fAbs m)).length ≤ 1024 := limbs_bl (Nat.le_trans (bl_mono (fAbs_le m)) h1)
  simp only [fitsB, valN_limbsOf]
  refine decide_eq_true ⟨ha, ?_⟩
  unfold fExp
  by_cases h0 : m = 0
  · rw [if_pos h0]; omega
  · rw [if_neg h0]
    have := tz_le h0
    omega
theorem quoM_bl (n j : Nat) : bl (quoM n j) ≤ bl n + quoS n j + 2 := by
  have h1 : n * 2 ^ quoS n j < 2 ^ (bl n + quoS n j) := by
    rw [Nat.pow_add]
    exact Nat.mul_lt_mul_of_pos_right (bl_lt n) (Nat.two_pow_pos _)
  refine bl_le ?_
  have h2 := Nat.div_le_self (n * 2 ^ quoS n j) (10 ^ j)
  rw [Nat.pow_succ, Nat.pow_succ]
  unfold quoM
  generalize n * 2 ^ quoS n j / 10 ^ j = q at *
  generalize n * 2 ^ quoS n j = p at *
  split <;> omega

theorem Num.slice' {lo : Nat} {w : World} {v : Value} {n : Nat} (h : Num lo w v n) : ∃ x cap, v = .slice x (limbsOf n).length cap := by
  obtain ⟨x, cap, h1, _⟩ := h; exact ⟨x, cap, h1⟩

theorem result_dy (lo : Nat) (v : Value) (neg neg0 : Bool) (m : Nat) (x : Int) (w : World) (hd : Dy lo w v neg0 m x) (hfit : fitsB (limbsOf m) x = true) (hT : TabW w) :
    Calls Tryz.prog 94 #[.bool neg, v] w fun en w' => en = .returned (.agg #[.int .u64 (((resultP neg m x).1 : Nat) : Int), .int .u8 (((resultP neg m x).2 : Nat) : Int)]) ∧ Below w.heap.size w w' := by
  have h := result_any lo v neg neg0 (limbsOf m) x w hd.any hfit hT
  rwa [valN_limbsOf] at h

set_option maxRecDepth 100000 in
set_option maxHeartbeats 4000000 in
theorem tens_any (lo : Nat) (neg : Bool) (a : Value) (n digits : Nat) (k : Int) (w : World) (ha : Num lo w a n) (hn : n < 10 ^ digits) (hd : digits ≤ 4200) (hk1 : -1099511627776 ≤ k) (hk2 : k ≤ 1099511627776) (hT : TabW w) :
    Calls Tryz.prog 55 #[.bool neg, a, .int .i64 ((digits : Nat) : Int), .int .i64 k] w fun en w' => en = .returned (.agg #[.int .u64 (((tensP neg n digits k).1 : Nat) : Int), .int .u8 (((tensP neg n digits k).2 : Nat) : Int)]) ∧ Below w.heap.size w w' := by
  obtain ⟨x1, c1, rfl⟩ := ha.slice'
  have hz := @limbsOf_len_zero n
  obtain ⟨R, hR⟩ : ∃ R, tensP neg n digits k = R := ⟨_, rfl⟩
  rw [hR]
  unfold tensP at hR
  have HR := Lib.hid hR
  clear hR
  have hbn := bl_ten hn
  go_enter Tryz.func55, Tryz.ntmps55
  have hb1 := (Below.refl w.heap.size w).alloc (Nat.le_refl _) (.cells #[.int .u64 0, .int .u8 0] 25)
  have hk0 := Blk.new w #[.int .u64 0, .int .u8 0] 25
  have hT1 := hT.call hb1
  by_cases h0 : n = 0
  · rw [if_pos h0] at HR
    subst h0
    have e0 : ((((limbsOf 0).length : Nat) : Int) == 0) = true := by rw [limbsOf_zero]; rfl
    go_wp2_with fail
    refine (result_dy lo _ neg false 0 0 _ ⟨_, rfl, Num.zero _ _ _ _ (by decide)⟩ (fits_of (by rw [bl_zero]; decide) (by decide) (by decide)) hT1).mono ?_
    rintro e w2 ⟨rfl, hb2⟩
    rw [HR.out]
    have hb12 := hb1.trans (hb2.mono hb1.size)
    have hk2 := hk0.call hb2
    have c0 := hk2.cell 0 _ rfl
    have c1 := hk2.cell 1 _ rfl
    have f0 := hk2.free 0
    have f1 := hk2.free 1
    go_wp2_with fail
    have hd3 := (hk2.set 0 (.int .u64 ((R.1 : Nat) : Int))).set 1 (.int .u8 ((R.2 : Nat) : Int))
    have o0 := hd3.cell 0 _ rfl
    have o1 := hd3.cell 1 _ rfl
    exact bodyPost_ret (v := .agg #[.int .u64 ((R.1 : Nat) : Int), .int .u8 ((R.2 : Nat) : Int)]) (by simp [results, Tryz.results55, go_sem, o0, o1]; try rfl) rfl ⟨rfl, (hb12.setCell (by simp) _).setCell (by simp) _⟩
  · have e0 : ((((limbsOf n).length : Nat) : Int) == 0) = false := beq_eq_false_iff_ne.2 (by have := mt hz.1 h0; omega)
    rw [if_neg h0] at HR
    by_cases h1 : 400 < (digits : Int) + k
    · rw [if_pos h1] at HR
      go_wp2_with fail
      refine (Power_any 2000 _).mono ?_
      rintro e w2 ⟨v2, rfl, hv2, hb2⟩
      have hb12 := hb1.trans (hb2.mono hb1.size)
      go_wp2_with fail
      refine (result_dy _ _ neg false 1 2000 _ hv2 (fits_one (by decide) (by decide)) (hT.call hb12)).mono ?_
      rintro e w3 ⟨rfl, hb3⟩
      rw [HR.out]
      have hb13 := hb12.trans (hb3.mono hb12.size)
      have hk3 := (hk0.call hb2).call hb3
      have c0 := hk3.cell 0 _ rfl
      have c1 := hk3.cell 1 _ rfl
      have f0 := hk3.free 0
      have f1 := hk3.free 1
      go_wp2_with fail
      have hd3 := (hk3.set 0 (.int .u64 ((R.1 : Nat) : Int))).set 1 (.int .u8 ((R.2 : Nat) : Int))
      have o0 := hd3.cell 0 _ rfl
      have o1 := hd3.cell 1 _ rfl
      exact bodyPost_ret (v := .agg #[.int .u64 ((R.1 : Nat) : Int), .int .u8 ((R.2 : Nat) : Int)]) (by simp [results, Tryz.results55, go_sem, o0, o1]; try rfl) rfl ⟨rfl, (hb13.setCell (by simp) _).setCell (by simp) _⟩
    rw [if_neg h1] at HR
    by_cases h2 : (digits : Int) + k < -400
    · rw [if_pos h2] at HR
      go_wp2_with fail
      refine (Power_any (-2000) _).mono ?_
      rintro e w2 ⟨v2, rfl, hv2, hb2⟩
      have hb12 := hb1.trans (hb2.mono hb1.size)
      go_wp2_with fail
      refine (result_dy _ _ neg false 1 (-2000) _ hv2 (fits_one (by decide) (by decide)) (hT.call hb12)).mono ?_
      rintro e w3 ⟨rfl, hb3⟩
      rw [HR.out]
      have hb13 := hb12.trans (hb3.mono hb12.size)
      have hkk := (hk0.call hb2).call hb3
      have c0 := hkk.cell 0 _ rfl
      have c1 := hkk.cell 1 _ rfl
      have f0 := hkk.free 0
      have f1 := hkk.free 1
      go_wp2_with fail
      have hd3 := (hkk.set 0 (.int .u64 ((R.1 : Nat) : Int))).set 1 (.int .u8 ((R.2 : Nat) : Int))
      have o0 := hd3.cell 0 _ rfl
      have o1 := hd3.cell 1 _ rfl
      exact bodyPost_ret (v := .agg #[.int .u64 ((R.1 : Nat) : Int), .int .u8 ((R.2 : Nat) : Int)]) (by simp [results, Tryz.results55, go_sem, o0, o1]; try rfl) rfl ⟨rfl, (hb13.setCell (by simp) _).setCell (by simp) _⟩
    rw [if_neg h2] at HR
    by_cases h3 : 0 ≤ k
    · rw [if_pos h3] at HR
      obtain ⟨j, rfl⟩ : ∃ j : Nat, k = (j : Int) := ⟨k.toNat, by omega⟩
      rw [Int.toNat_natCast] at HR
      have hjb : j ≤ 400 := by omega
      go_wp2_with fail
      refine (ten_any j _ (by omega)).mono ?_
      rintro e w2 ⟨v2, rfl, hv2, hb2⟩
      have hb12 := hb1.trans (hb2.mono hb1.size)
      have hl1 := limbs_bl (n := n) (k := 4200) (by omega)
      have hl2 := ten_len j
      go_wp2_with fail
      refine (Mul_any 0 _ _ (limbsOf n) (limbsOf (10 ^ j)) w2 ((ha.call hb12).words.mono (Nat.zero_le _)) (hv2.words.mono (Nat.zero_le _)) (by omega) (by omega)).mono ?_
      rintro e w3 ⟨v3, rfl, hv3, hb3⟩
      rw [valN_limbsOf, valN_limbsOf] at hv3
      have hb13 := hb12.trans (hb3.mono hb12.size)
      have hm : n * 10 ^ j < 10 ^ (digits + j) := by rw [Nat.pow_add]; exact Nat.mul_lt_mul_of_pos_right hn (Nat.pow_pos (by decide))
      have hbm := bl_ten hm
      have hl3 := limbs_bl (n := n * 10 ^ j) (k := 100) (by omega)
      generalize hM : n * 10 ^ j = M at *
      clear hM hm
      have hform := Form_any w2.heap.size false v3 (limbsOf M) 0 w3 hv3.words (by omega) (by decide) (by decide) (hT.call hb13)
      rw [valN_limbsOf] at hform
      have hfit := fits_form (m := M) (x := 0) (by omega) (by decide) (by omega)
      go_wp2_with fail
      refine hform.mono ?_
      rintro e w4 ⟨v4, rfl, hv4, hb4⟩
      clear hform
      have hb14 := hb13.trans (hb4.mono hb13.size)
      go_wp2_with fail
      refine (result_dy _ _ neg _ _ _ _ hv4 hfit (hT.call hb14)).mono ?_
      rintro e w5 ⟨rfl, hb5⟩
      have hrr : resultP neg (fAbs M) (fExp M 0) = R := HR.out
      rw [hrr]
      have hb15 := hb14.trans (hb5.mono hb14.size)
      have hkk := (((hk0.call hb2).call hb3).call hb4).call hb5
      have c0 := hkk.cell 0 _ rfl
      have c1 := hkk.cell 1 _ rfl
      have f0 := hkk.free 0
      have f1 := hkk.free 1
      go_wp2_with fail
      have hd3 := (hkk.set 0 (.int .u64 ((R.1 : Nat) : Int))).set 1 (.int .u8 ((R.2 : Nat) : Int))
      have o0 := hd3.cell 0 _ rfl
      have o1 := hd3.cell 1 _ rfl
      exact bodyPost_ret (v := .agg #[.int .u64 ((R.1 : Nat) : Int), .int .u8 ((R.2 : Nat) : Int)]) (by simp [results, Tryz.results55, go_sem, o0, o1]; try rfl) rfl ⟨rfl, (hb15.setCell (by simp) _).setCell (by simp) _⟩
    rw [if_neg h3] at HR
    obtain ⟨j, hj⟩ : ∃ j : Nat, (-k).toNat = j := ⟨_, rfl⟩
    rw [hj] at HR
    have hkj : -k = ((j : Nat) : Int) := by omega
    have hjb : j ≤ 4600 := by omega
    obtain ⟨s, hs⟩ : ∃ s, quoS n j = s := ⟨_, rfl⟩
    have hs1 : max (80 + ((bl (10 ^ j) : Nat) : Int) - ((bl n : Nat) : Int)) 0 = ((s : Nat) : Int) := by rw [← hs]; unfold quoS; omega
    have hqb := quoM_bl n j
    have htb := bl_ten (n := 10 ^ j) (d := j + 1) (Nat.pow_lt_pow_right (by decide) (by omega))
    have hsb : s ≤ 80 + bl (10 ^ j) := by rw [← hs]; unfold quoS; omega
    have hQ : quoM n j = n * 2 ^ s / 10 ^ j * 2 + (if n * 2 ^ s % 10 ^ j = 0 then 0 else 1) := by unfold quoM; rw [hs]
    obtain ⟨M, hM⟩ : ∃ M, quoM n j = M := ⟨_, rfl⟩
    rw [hs, hM] at hqb
    rw [hs, hM] at HR
    rw [hM] at hQ
    have HQ := Lib.hid hQ
    clear hs hM hQ hj
    have hl1 := limbs_bl (n := n) (k := 4200) (by omega)
    have hl2 := ten_len j
    have hp0 : (10 : Nat) ^ j ≠ 0 := Nat.ne_of_gt (Nat.pow_pos (by decide))
    have hl4 := bl_mul n (2 ^ s)
    rw [bl_two] at hl4
    have hl5 := limbs_bl (n := n * 2 ^ s) (k := 1000) (by omega)
    have HP := Lib.hid hp0
    clear hp0 hl4 hn hz
    go_wp2_with fail
    refine (ten_any j _ (by omega)).mono ?_
    rintro e w2 ⟨v2, rfl, hv2, hb2⟩
    have hb12 := hb1.trans (hb2.mono hb1.size)
    have hlen1 := Len_any _ v2 (limbsOf (10 ^ j)) w2 hv2.words (by omega)
    rw [valN_limbsOf] at hlen1
    have hlen2 := Len_any 0 _ (limbsOf n) w2 ((ha.call hb12).words.mono (Nat.zero_le _)) (by omega)
    rw [valN_limbsOf] at hlen2
    have HL2 := Lib.hid hlen2
    clear hlen2
    go_wp2_with fail
    refine hlen1.mono ?_
    rintro e w3 ⟨rfl, hw3⟩
    subst hw3
    clear hlen1
    go_wp2_with fail
    refine HL2.out.mono ?_
    rintro e w3 ⟨rfl, hw3⟩
    subst hw3
    clear HL2
    have hshl := Shl_any 0 _ (limbsOf n) s w2 ((ha.call hb12).words.mono (Nat.zero_le _)) (by omega) (by omega)
    rw [valN_limbsOf] at hshl
    have HS := Lib.hid hshl
    clear hshl
    go_wp2_with fail
    refine HS.out.mono ?_
    rintro e w3 ⟨v3, rfl, hv3, hb3⟩
    clear HS
    have hb13 := hb12.trans (hb3.mono hb12.size)
    have hdiv := Div_any 0 v3 v2 (limbsOf (n * 2 ^ s)) (limbsOf (10 ^ j)) w3 (hv3.words.mono (Nat.zero_le _)) ((hv2.call hb3).words.mono (Nat.zero_le _)) (by omega) (by omega) (by rw [valN_limbsOf]; exact HP.out) (hT.call hb13)
    rw [valN_limbsOf, valN_limbsOf] at hdiv
    have hqr : (limbsOf (n * 2 ^ s / 10 ^ j)).length ≤ 1000 := Nat.le_trans (limbsOf_len (Nat.lt_of_le_of_lt (Nat.div_le_self _ _) (limbsOf_lt (n * 2 ^ s)))) hl5
    generalize n * 2 ^ s / 10 ^ j = q at *
    generalize n * 2 ^ s % 10 ^ j = r at *
    go_wp2_with fail
    refine hdiv.mono ?_
    rintro e w4 ⟨v4, v5, rfl, hv4, hv5, hb4⟩
    clear hdiv
    have hb14 := hb13.trans (hb4.mono hb13.size)
    obtain ⟨x5, c5, rfl⟩ := hv5.slice'
    have hz5 := @limbsOf_len_zero r
    have hshl := Shl_any _ v4 (limbsOf q) 1 w4 hv4.words (by omega) (by omega)
    rw [valN_limbsOf] at hshl
    have HS := Lib.hid hshl
    clear hshl
    go_wp2_with fail
    refine HS.out.mono ?_
    rintro e w5 ⟨v6, rfl, hv6, hb5⟩
    clear HS
    have hb15 := hb14.trans (hb5.mono hb14.size)
    have hkk5 := (((hk0.call hb2).call hb3).call hb4).call hb5
    have hq1 : (limbsOf (q * 2 ^ 1)).length ≤ 2000 := by
      have h1 := limbsOf_lt q
      refine limbsOf_len (Nat.lt_of_lt_of_le (m := pw (1000 + 1)) ?_ (pw_le (by omega)))
      have h2 := pw_le hqr
      rw [pw_succ]
      omega
    go_upto_if 68 with fail
    go_cut [11] (fun u11 wx => Num 0 wx u11 M ∧ Below w5.heap.size w5 wx)
    case first =>
      by_cases hr0 : r = 0
      · have hq := HQ.out
        rw [if_pos hr0] at hq
        have e5 : decide (0 < (limbsOf r).length) = false := decide_eq_false (by have := hz5.2 hr0; omega)
        clear hr0
        simp only [e5]
        go_wp2_with fail
        go_meet
        refine ⟨?_, Below.refl _ _⟩
        rw [hq]
        exact hv6.mono (Nat.zero_le _)
      · have hq := HQ.out
        rw [if_neg hr0] at hq
        have e5 : decide (0 < (limbsOf r).length) = true := decide_eq_true (by have := mt hz5.1 hr0; omega)
        clear hr0
        simp only [e5]
        go_wp2_with fail
        refine (Of_any 1 w5 (by decide) (by decide)).mono ?_
        rintro e w6 ⟨v7, rfl, hv7, hb6⟩
        have hadd := Add_any 0 _ _ _ _ w6 ((hv6.call hb6).words.mono (Nat.zero_le _)) (hv7.words.mono (Nat.zero_le _)) (by omega) (by have := ten_len 0; rw [Nat.pow_zero] at this; show (limbsOf 1).length ≤ _; omega)
        rw [valN_limbsOf, valN_limbsOf] at hadd
        go_wp2_with fail
        refine hadd.mono ?_
        rintro e w7 ⟨v8, rfl, hv8, hb7⟩
        clear hadd
        go_wp2_with fail
        go_meet
        refine ⟨?_, hb6.trans (hb7.mono hb6.size)⟩
        rw [hq]
        exact hv8.mono (Nat.zero_le _)
    case rest =>
      obtain ⟨hv7, hb6⟩ := hcut
      have hb16 := hb15.trans (hb6.mono hb15.size)
      have hform := Form_any _ false u11 (limbsOf M) (-((s : Nat) : Int) - 1) wc hv7.words (by have := limbs_bl (n := M) (k := 1000) (by omega); omega) (by omega) (by omega) (hT.call hb16)
      rw [valN_limbsOf] at hform
      have hfit := fits_form (m := M) (x := -((s : Nat) : Int) - 1) (by omega) (by omega) (by omega)
      go_wp2_with fail
      refine hform.mono ?_
      rintro e w8 ⟨v9, rfl, hv9, hb8⟩
      clear hform
      have hb18 := hb16.trans (hb8.mono hb16.size)
      go_wp2_with fail
      refine (result_dy _ _ neg _ _ _ _ hv9 hfit (hT.call hb18)).mono ?_
      rintro e w9 ⟨rfl, hb9⟩
      have hrr : resultP neg (fAbs M) (fExp M (-((s : Nat) : Int) - 1)) = R := HR.out
      rw [hrr]
      have hb19 := hb18.trans (hb9.mono hb18.size)
      have hkk := ((hkk5.call hb6).call hb8).call hb9
      have c0 := hkk.cell 0 _ rfl
      have c1 := hkk.cell 1 _ rfl
      have f0 := hkk.free 0
      have f1 := hkk.free 1
      go_wp2_with fail
      have hd3 := (hkk.set 0 (.int .u64 ((R.1 : Nat) : Int))).set 1 (.int .u8 ((R.2 : Nat) : Int))
      have o0 := hd3.cell 0 _ rfl
      have o1 := hd3.cell 1 _ rfl
      exact bodyPost_ret (v := .agg #[.int .u64 ((R.1 : Nat) : Int), .int .u8 ((R.2 : Nat) : Int)]) (by simp [results, Tryz.results55, go_sem, o0, o1]; try rfl) rfl ⟨rfl, (hb19.setCell (by simp) _).setCell (by simp) _⟩
end Go.Proofs.YtkfbailpifmdcaaGreatDoor
end
