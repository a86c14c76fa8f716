/- RefP RefQ RefR -/
import Derived.Test.YtkfbailpifmdcaaGreatDoorMay
import Derived.Test.YtkfbailpifmdcaaGreatDoorMah
section
namespace Go.Proofs.YtkfbailpifmdcaaGreatDoor
open Go.RowKit

set_option maxRecDepth 100000 in
set_option maxHeartbeats 400000 in
theorem Round05_any (lo : Nat) (v : Value) (neg : Bool) (m : Nat) (x : Int) (w : World) (hd : Dy lo w v neg m x) (hm : bl m ≤ 100000) (hx1 : -100000 ≤ x) (hx2 : x ≤ 100000) (hm0 : m ≠ 0) :
    Calls Tryz.prog 69 #[v] w fun e w' => e = .returned (.agg #[.int .u64 (((nearP neg m x).1 : Nat) : Int), .int .u8 (((nearP neg m x).2 : Nat) : Int)]) ∧ Below w.heap.size w w' := by
  obtain ⟨a, rfl, ha⟩ := hd
  have hN := fun w hd => near05_any lo (.agg #[.bool neg, a, .int .i64 x]) neg m x w hd hm hx1 hx2 hm0
  generalize nearP neg m x = R at *
  have HN := Lib.hid hN
  have hba := ((Below.refl w.heap.size w).alloc (Nat.le_refl _) (.cells #[.bool neg, a, .int .i64 x] 62)).alloc (by simp) (.cells #[.int .u64 0, .int .u8 0] 25)
  have hk0 := (Blk.new w #[.bool neg, a, .int .i64 x] 62).alloc (.cells #[.int .u64 0, .int .u8 0] 25)
  have hk1 := Blk.new (w.alloc (.cells #[.bool neg, a, .int .i64 x] 62)) #[.int .u64 0, .int .u8 0] 25
  rw [show (w.alloc (.cells #[.bool neg, a, .int .i64 x] 62)).heap.size = w.heap.size + 1 by simp] at hk1
  have ha1 := ha.call hba
  obtain ⟨px, cx, rfl⟩ : ∃ xx cc, a = .slice xx (limbsOf m).length cc := by
    obtain ⟨xx, cc, e, _⟩ := ha
    exact ⟨xx, cc, e⟩
  clear hN ha
  go_enter Tryz.func69, Tryz.ntmps69
  go_upto_region 1 with fail
  have k0 := hk0.cell 0 _ rfl
  have k1 := hk0.cell 1 _ rfl
  have k2 := hk0.cell 2 _ rfl
  go_wp2_with fail
  refine (HN.out _ ⟨_, rfl, ha1⟩).mono ?_
  rintro en w2 ⟨rfl, hb2⟩
  have hk2 := hk1.call hb2
  have c0 := hk2.cell 0 _ rfl
  have c1 := hk2.cell 1 _ rfl
  have f0 := hk2.free 0
  have f1 := hk2.free 1
  have hb12 := hba.trans (hb2.mono hba.size)
  have hg : w.heap.size ≤ w.heap.size + 1 := by omega
  clear k0 k1 k2
  go_wp2_with fail
  have hq := (hk2.set 0 (.int .u64 ((R.1 : Nat) : Int))).set 1 (.int .u8 ((R.2 : Nat) : Int))
  have o0 := hq.cell 0 _ rfl
  have o1 := hq.cell 1 _ rfl
  exact bodyPost_ret (v := .agg #[.int .u64 ((R.1 : Nat) : Int), .int .u8 ((R.2 : Nat) : Int)]) (by simp [results, Tryz.results69, go_sem, o0, o1]; try rfl) rfl ⟨rfl, (hb12.setCell hg _).setCell hg _⟩

theorem bl_ten3 {n d : Nat} (h : n ≤ 10 ^ d) : bl n ≤ 4 * d + 1 := by
  refine bl_le (Nat.lt_of_le_of_lt h ?_)
  refine Nat.lt_of_le_of_lt (Nat.pow_le_pow_left (show 10 ≤ 2 ^ 4 by decide) d) ?_
  rw [← Nat.pow_mul]
  exact Nat.pow_lt_pow_right (by decide) (by omega)
theorem bl_mul3 (a b : Nat) : bl (a * b) ≤ bl a + bl b := by
  refine bl_le ?_
  rw [Nat.pow_add]
  exact Nat.mul_lt_mul'' (bl_lt a) (bl_lt b)

set_option maxRecDepth 100000 in
set_option maxHeartbeats 600000 in
theorem ten28_any (N : Nat) (w : World) (hN : N ≤ 100000) :
    Calls Tryz.prog 106 #[.int .i64 ((N : Nat) : Int)] w (NumPost w 0 (10 ^ N)) := by
  obtain ⟨T, hT⟩ : ∃ T, 10 ^ N = T := ⟨_, rfl⟩
  have HT := Lib.hid hT
  rw [hT]
  clear hT
  go_enter Tryz.func106, Tryz.ntmps106
  go_wp2_with fail
  refine (Of03_any 1 w (by decide) (by decide)).mono ?_
  rintro en w1 ⟨v1, rfl, hv1, hb1⟩
  go_wp2_with fail
  refine (Of03_any 10 w1 (by decide) (by decide)).mono ?_
  rintro en w2 ⟨v2, rfl, hv2, hb2⟩
  have hb12 := hb1.trans (hb2.mono hb1.size)
  have hv1' := (hv1.call hb2).mono (Nat.zero_le _)
  have hv2' := hv2.mono (Nat.zero_le _)
  go_wp2_with fail
  go_loopw [0, 3, 4] (fun u0 u3 u4 wr => ∃ (n o b : Nat), u0 = .int .i64 ((n : Nat) : Int) ∧ n ≤ N ∧ Num 0 wr u3 o ∧ Num 0 wr u4 b ∧ Hid (o * b ^ n = T) ∧ o ≠ 0 ∧ b ≠ 0 ∧ bl b ≤ 1000000 ∧ Below w.heap.size w wr) (fun u0 _ _ _ => (intOf u0).toNat)
  case atStart => exact ⟨N, 1, 10, rfl, Nat.le_refl _, hv1', hv2', by show _ = _; rw [Nat.one_mul]; exact HT.out, by decide, by decide, Nat.le_trans (bl_le (k := 4) (by decide)) (by decide), hb12⟩
  case round =>
    clear hv1 hv2 hv1' hv2' hb1 hb2 hb12
    obtain ⟨n, o, b, rfl, hn, ho, hb, HE, ho0, hb0, hbl, hbw⟩ := hrel
    by_cases h0 : n = 0
    · subst h0
      have e : o = T := by have := HE.out; rw [Nat.pow_zero, Nat.mul_one] at this; exact this
      subst e
      go_wp2_with fail
      go_ret
      exact ⟨_, rfl, ho, hbw⟩
    · have hpos : (0 : Int) < ((n : Nat) : Int) := by omega
      have hbT : b ≤ T := by
        rw [← HE.out]
        refine Nat.le_trans ?_ (Nat.le_mul_of_pos_left _ (Nat.pos_of_ne_zero ho0))
        obtain ⟨k, rfl⟩ : ∃ k, n = k + 1 := ⟨n - 1, by omega⟩
        rw [Nat.pow_succ]
        exact Nat.le_mul_of_pos_left _ (Nat.pow_pos (Nat.pos_of_ne_zero hb0))
      have hoT : o ≤ T := by
        rw [← HE.out]
        exact Nat.le_mul_of_pos_right _ (Nat.pow_pos (Nat.pos_of_ne_zero hb0))
      have hblb : bl b ≤ 400001 := Nat.le_trans (bl_ten3 (by rw [HT.out]; exact hbT)) (by omega)
      have hblo : bl o ≤ 400001 := Nat.le_trans (bl_ten3 (by rw [HT.out]; exact hoT)) (by omega)
      have hlb : (limbsOf b).length ≤ 10000 := limbs3 (by omega)
      have hlo : (limbsOf o).length ≤ 10000 := limbs3 (by omega)
      have hbb : bl (b * b) ≤ 1000000 := Nat.le_trans (bl_mul3 b b) (by omega)
      have hbb0 : b * b ≠ 0 := Nat.mul_ne_zero hb0 hb0
      have hM1 := fun w ho hb => Mul03_any 0 u3 u4 (limbsOf o) (limbsOf b) w ho hb (by omega) (by omega)
      have hM2 := fun w hb => Mul03_any 0 u4 u4 (limbsOf b) (limbsOf b) w hb hb (by omega) (by omega)
      rw [valN_limbsOf, valN_limbsOf] at hM1
      rw [valN_limbsOf] at hM2
      have HM1 := Lib.hid hM1
      have HM2 := Lib.hid hM2
      obtain ⟨h, hh⟩ : ∃ h, n / 2 = h := ⟨_, rfl⟩
      have hhi : ((n : Nat) : Int) / 2 = ((h : Nat) : Int) := by omega
      have hpow : b ^ n = (b * b) ^ h * b ^ (n % 2) := by
        rw [← Nat.pow_two, ← Nat.pow_mul, ← Nat.pow_add, ← hh]
        congr 1
        omega
      by_cases hodd : n % 2 = 1
      · have hoi : ((n : Nat) : Int) % 2 = 1 := by omega
        have hE2 : o * b * (b * b) ^ h = T := by
          rw [← HE.out, hpow, hodd, Nat.pow_one]
          ac_rfl
        have HE2 := Lib.hid hE2
        have ho2 : o * b ≠ 0 := Nat.mul_ne_zero ho0 hb0
        clear hM1 hM2 hpow hE2 HE hodd hbT hoT
        go_wp2_with fail
        refine (HM1.out _ ho.words hb.words).mono ?_
        rintro en w3 ⟨v3, rfl, hv3, hb3⟩
        have hbw3 := hbw.trans (hb3.mono hbw.size)
        go_wp2_with fail
        refine (HM2.out _ (hb.call hb3).words).mono ?_
        rintro en w4 ⟨v4, rfl, hv4, hb4⟩
        go_wp2_with fail
        go_roundw
        case rel => exact ⟨h, o * b, b * b, rfl, by omega, (hv3.call hb4).mono (Nat.zero_le _), hv4.mono (Nat.zero_le _), HE2.out, ho2, hbb0, hbb, hbw3.trans (hb4.mono hbw3.size)⟩
        case measure => simp [intOf]; omega
      · have hoi : ((n : Nat) : Int) % 2 = 0 := by omega
        have hE2 : o * (b * b) ^ h = T := by
          rw [← HE.out, hpow, show n % 2 = 0 by omega, Nat.pow_zero, Nat.mul_one]
        have HE2 := Lib.hid hE2
        clear hM1 hM2 hpow hE2 HE hodd hbT hoT HM1
        go_wp2_with fail
        refine (HM2.out _ hb.words).mono ?_
        rintro en w4 ⟨v4, rfl, hv4, hb4⟩
        go_wp2_with fail
        go_roundw
        case rel => exact ⟨h, o, b * b, rfl, by omega, ho.call hb4, hv4.mono (Nat.zero_le _), HE2.out, ho0, hbb0, hbb, hbw.trans (hb4.mono hbw.size)⟩
        case measure => simp [intOf]; omega
end Go.Proofs.YtkfbailpifmdcaaGreatDoor
end

section
namespace Go.Proofs.YtkfbailpifmdcaaGreatDoor
open Go.RowKit

/-- What a region that draws holds on to: the parts' cells, and the answer's block. -/
def Held28 (g0 g1 : Nat) (neg : Bool) (a : Value) (many e base : Int) (w : World) : Prop :=
  w.cell? ⟨g0, 0, none⟩ = some (.bool neg) ∧ w.cell? ⟨g0, 1, none⟩ = some a ∧ w.cell? ⟨g0, 2, none⟩ = some (.int .i64 many) ∧ w.cell? ⟨g0, 3, none⟩ = some (.int .i64 e) ∧ w.cell? ⟨g0, 4, none⟩ = some (.int .i64 base) ∧
  w.cell? ⟨g1, 0, none⟩ = some (.bool false) ∧ w.cell? ⟨g1, 1, none⟩ = some (.slice none 0 0) ∧ w.cell? ⟨g1, 2, none⟩ = some (.int .i64 0) ∧ w.frozen? ⟨g1, 0, none⟩ = false ∧ w.frozen? ⟨g1, 1, none⟩ = false ∧ w.frozen? ⟨g1, 2, none⟩ = false
theorem num_slice {lo : Nat} {w : World} {v : Value} {n : Nat} (h : Num lo w v n) : ∃ x c, v = .slice x (limbsOf n).length c := by
  obtain ⟨xx, cc, e, _⟩ := h
  exact ⟨xx, cc, e⟩
theorem keep_set3 {w : World} {g0 g1 o : Nat} {a b c : Value} {x : Option Value} (h : g0 ≠ g1) (hc : w.cell? ⟨g0, o, none⟩ = x) : (((w.setCell ⟨g1, 0, none⟩ a).setCell ⟨g1, 1, none⟩ b).setCell ⟨g1, 2, none⟩ c).cell? ⟨g0, o, none⟩ = x := by
  rw [World.cell?_setCell_other _ _ _ _ (fun e => h (congrArg Addr.block e).symm), World.cell?_setCell_other _ _ _ _ (fun e => h (congrArg Addr.block e).symm), World.cell?_setCell_other _ _ _ _ (fun e => h (congrArg Addr.block e).symm)]
  exact hc
theorem Held28.of {g0 g1 : Nat} {neg : Bool} {a : Value} {many e base : Int} {w : World} {t0 t1 : TypeId} (h0 : Blk w g0 #[.bool neg, a, .int .i64 many, .int .i64 e, .int .i64 base] t0) (h1 : Blk w g1 #[.bool false, .slice none 0 0, .int .i64 0] t1) : Held28 g0 g1 neg a many e base w :=
  ⟨h0.cell 0 _ rfl, h0.cell 1 _ rfl, h0.cell 2 _ rfl, h0.cell 3 _ rfl, h0.cell 4 _ rfl, h1.cell 0 _ rfl, h1.cell 1 _ rfl, h1.cell 2 _ rfl, h1.free 0, h1.free 1, h1.free 2⟩

set_option maxRecDepth 100000 in
set_option maxHeartbeats 600000 in
theorem value28_far (lo : Nat) (neg : Bool) (a : Value) (n : Nat) (many e : Int) (w : World) (ha : Num lo w a n) (hn : n ≠ 0) (hm1 : 0 ≤ many) (hm2 : many ≤ 100000) (he1 : -1000000 ≤ e) (he2 : e ≤ 1000000) (hfar : 400 < many + e) :
    Calls Tryz.prog 70 #[.agg #[.bool neg, a, .int .i64 many, .int .i64 e, .int .i64 10]] w (DyPost w neg 1 3000) := by
  obtain ⟨px, cx, rfl⟩ := num_slice ha
  have hL : (limbsOf n).length ≠ 0 := by rw [Ne, limbsOf_len_zero]; exact hn
  have hbe : (((limbsOf n).length : Int) == 0) = false := beq_eq_false_iff_ne.2 (by omega)
  generalize hA : Value.slice px (limbsOf n).length cx = a at *
  have hba := ((Below.refl w.heap.size w).alloc (Nat.le_refl _) (.cells #[.bool neg, a, .int .i64 many, .int .i64 e, .int .i64 10] 53)).alloc (by simp) (.cells #[.bool false, .slice none 0 0, .int .i64 0] 62)
  have hk0 := (Blk.new w #[.bool neg, a, .int .i64 many, .int .i64 e, .int .i64 10] 53).alloc (.cells #[.bool false, .slice none 0 0, .int .i64 0] 62)
  have hk1 := Blk.new (w.alloc (.cells #[.bool neg, a, .int .i64 many, .int .i64 e, .int .i64 10] 53)) #[.bool false, .slice none 0 0, .int .i64 0] 62
  rw [show (w.alloc (.cells #[.bool neg, a, .int .i64 many, .int .i64 e, .int .i64 10] 53)).heap.size = w.heap.size + 1 by simp] at hk1
  have hw1 : IntKind.i64.wrap (many + e) = many + e := wrapi3 (by omega) (by omega)
  have ha2 := ha.call hba
  clear ha
  go_enter Tryz.func70, Tryz.ntmps70
  go_upto_region 1 with fail
  generalize hW : (w.alloc (.cells #[.bool neg, a, .int .i64 many, .int .i64 e, .int .i64 10] 53)).alloc (.cells #[.bool false, .slice none 0 0, .int .i64 0] 62) = w2 at *
  obtain ⟨g1, hg1e⟩ : ∃ g1, w.heap.size + 1 = g1 := ⟨_, rfl⟩
  obtain ⟨g0, hg0e⟩ : ∃ g0, w.heap.size = g0 := ⟨_, rfl⟩
  have hg1 : w.heap.size ≤ g1 := by omega
  have hg01 : g0 ≠ g1 := by omega
  rw [hg1e] at hk1
  rw [hg0e] at hk0
  rw [hg1e, hg0e]
  clear hW hg1e hg0e
  have k0 := hk0.cell 0 _ rfl
  have k1 := hk0.cell 1 _ rfl
  have k2 := hk0.cell 2 _ rfl
  have k3 := hk0.cell 3 _ rfl
  have k4 := hk0.cell 4 _ rfl
  subst hA
  go_upto_region 11 with fail
  have hb1 : Below w2.heap.size w2 w2.drew := below_drewN _ _ 1
  have hS0 : w2.drew.cell? ⟨g0, 0, none⟩ = some (.bool neg) := k0
  go_region_held3 (fun w' => w'.cell? ⟨g0, 0, none⟩ = some (.bool neg)) (first | assumption | exact keep_set3 hg01 (by assumption) | go_keep)
    (first
      | (go_at_call 99; refine (Of03_any 1 _ (by decide) (by decide)).mono ?_; rintro en w5 ⟨v5, rfl, hv5, hb5⟩; obtain ⟨x5, c5, rfl⟩ := num_slice hv5; have Y : w5.cell? ⟨g0, 0, none⟩ = some (.bool neg) := (hb5.cell (World.block_lt_of_cell? _ _ (by assumption))).trans (by assumption); have hk5 := hk1.call (hb1.trans (hb5.mono hb1.size)); have c0 := hk5.cell 0 _ rfl; have c1 := hk5.cell 1 _ rfl; have c2 := hk5.cell 2 _ rfl; have f0 := hk5.free 0; have f1 := hk5.free 1; have f2 := hk5.free 2))
  all_goals
    have hlt := hk1.lt
    have hb15 := hb1.trans (hb5.mono hb1.size)
    have hbw5 := hba.trans (hb15.mono hba.size)
    have hv6 : Num (g1 + 1) w5 (.slice x5 (limbsOf 1).length c5) 1 := hv5.mono (by have := hb1.size; omega)
    have hv7 := ((hv6.gb (gb_set w5 g1 0 none (.bool neg)) (by omega)).gb (gb_set _ g1 1 none (.slice x5 (limbsOf 1).length c5)) (by omega)).gb (gb_set _ g1 2 none (.int .i64 3000)) (by omega)
    have hd7 := ((hk5.set 0 (.bool neg)).set 1 (.slice x5 (limbsOf 1).length c5)).set 2 (.int .i64 3000)
    have o0 := hd7.cell 0 _ rfl
    have o1 := hd7.cell 1 _ rfl
    have o2 := hd7.cell 2 _ rfl
    clear hk0 hk1 k0 k1 k2 k3 k4 c0 c1 c2 f0 f1 f2 hS0 hv5 hv6 hb5
    go_wp2_with fail
    exact bodyPost_ret (v := .agg #[.bool neg, .slice x5 (limbsOf 1).length c5, .int .i64 3000]) (by simp [results, Tryz.results70, go_sem, o0, o1, o2]; try rfl) rfl ⟨_, rfl, ⟨_, rfl, hv7.mono (by omega)⟩, ((hbw5.setCell hg1 _).setCell hg1 _).setCell hg1 _⟩

set_option maxRecDepth 100000 in
set_option maxHeartbeats 600000 in
theorem value28_near (lo : Nat) (neg : Bool) (a : Value) (n : Nat) (many e : Int) (w : World) (ha : Num lo w a n) (hn : n ≠ 0) (hm1 : 0 ≤ many) (hm2 : many ≤ 100000) (he1 : -1000000 ≤ e) (he2 : e ≤ 1000000) (hfar : ¬ 400 < many + e) (hnear : many + e < -400) :
    Calls Tryz.prog 70 #[.agg #[.bool neg, a, .int .i64 many, .int .i64 e, .int .i64 10]] w (DyPost w neg 1 (-3000)) := by
  obtain ⟨px, cx, rfl⟩ := num_slice ha
  have hL : (limbsOf n).length ≠ 0 := by rw [Ne, limbsOf_len_zero]; exact hn
  have hbe : (((limbsOf n).length : Int) == 0) = false := beq_eq_false_iff_ne.2 (by omega)
  generalize hA : Value.slice px (limbsOf n).length cx = a at *
  have hba := ((Below.refl w.heap.size w).alloc (Nat.le_refl _) (.cells #[.bool neg, a, .int .i64 many, .int .i64 e, .int .i64 10] 53)).alloc (by simp) (.cells #[.bool false, .slice none 0 0, .int .i64 0] 62)
  have hk0 := (Blk.new w #[.bool neg, a, .int .i64 many, .int .i64 e, .int .i64 10] 53).alloc (.cells #[.bool false, .slice none 0 0, .int .i64 0] 62)
  have hk1 := Blk.new (w.alloc (.cells #[.bool neg, a, .int .i64 many, .int .i64 e, .int .i64 10] 53)) #[.bool false, .slice none 0 0, .int .i64 0] 62
  rw [show (w.alloc (.cells #[.bool neg, a, .int .i64 many, .int .i64 e, .int .i64 10] 53)).heap.size = w.heap.size + 1 by simp] at hk1
  have hw1 : IntKind.i64.wrap (many + e) = many + e := wrapi3 (by omega) (by omega)
  have ha2 := ha.call hba
  clear ha
  go_enter Tryz.func70, Tryz.ntmps70
  go_upto_region 1 with fail
  generalize hW : (w.alloc (.cells #[.bool neg, a, .int .i64 many, .int .i64 e, .int .i64 10] 53)).alloc (.cells #[.bool false, .slice none 0 0, .int .i64 0] 62) = w2 at *
  obtain ⟨g1, hg1e⟩ : ∃ g1, w.heap.size + 1 = g1 := ⟨_, rfl⟩
  obtain ⟨g0, hg0e⟩ : ∃ g0, w.heap.size = g0 := ⟨_, rfl⟩
  have hg1 : w.heap.size ≤ g1 := by omega
  have hg01 : g0 ≠ g1 := by omega
  rw [hg1e] at hk1
  rw [hg0e] at hk0
  rw [hg1e, hg0e]
  clear hW hg1e hg0e
  have k0 := hk0.cell 0 _ rfl
  have k1 := hk0.cell 1 _ rfl
  have k2 := hk0.cell 2 _ rfl
  have k3 := hk0.cell 3 _ rfl
  have k4 := hk0.cell 4 _ rfl
  subst hA
  go_upto_region 13 with fail
  have hb1 : Below w2.heap.size w2 w2.drew := below_drewN _ _ 1
  have hS0 : w2.drew.cell? ⟨g0, 0, none⟩ = some (.bool neg) := k0
  go_region_held3 (fun w' => w'.cell? ⟨g0, 0, none⟩ = some (.bool neg)) (first | assumption | exact keep_set3 hg01 (by assumption) | go_keep)
    (first
      | (go_at_call 99; refine (Of03_any 1 _ (by decide) (by decide)).mono ?_; rintro en w5 ⟨v5, rfl, hv5, hb5⟩; obtain ⟨x5, c5, rfl⟩ := num_slice hv5; have Y : w5.cell? ⟨g0, 0, none⟩ = some (.bool neg) := (hb5.cell (World.block_lt_of_cell? _ _ (by assumption))).trans (by assumption); have hk5 := hk1.call (hb1.trans (hb5.mono hb1.size)); have c0 := hk5.cell 0 _ rfl; have c1 := hk5.cell 1 _ rfl; have c2 := hk5.cell 2 _ rfl; have f0 := hk5.free 0; have f1 := hk5.free 1; have f2 := hk5.free 2))
  all_goals
    have hlt := hk1.lt
    have hb15 := hb1.trans (hb5.mono hb1.size)
    have hbw5 := hba.trans (hb15.mono hba.size)
    have hv6 : Num (g1 + 1) w5 (.slice x5 (limbsOf 1).length c5) 1 := hv5.mono (by have := hb1.size; omega)
    have hv7 := ((hv6.gb (gb_set w5 g1 0 none (.bool neg)) (by omega)).gb (gb_set _ g1 1 none (.slice x5 (limbsOf 1).length c5)) (by omega)).gb (gb_set _ g1 2 none (.int .i64 (-3000))) (by omega)
    have hd7 := ((hk5.set 0 (.bool neg)).set 1 (.slice x5 (limbsOf 1).length c5)).set 2 (.int .i64 (-3000))
    have o0 := hd7.cell 0 _ rfl
    have o1 := hd7.cell 1 _ rfl
    have o2 := hd7.cell 2 _ rfl
    clear hk0 hk1 k0 k1 k2 k3 k4 c0 c1 c2 f0 f1 f2 hS0 hv5 hv6 hb5
    go_wp2_with fail
    exact bodyPost_ret (v := .agg #[.bool neg, .slice x5 (limbsOf 1).length c5, .int .i64 (-3000)]) (by simp [results, Tryz.results70, go_sem, o0, o1, o2]; try rfl) rfl ⟨_, rfl, ⟨_, rfl, hv7.mono (by omega)⟩, ((hbw5.setCell hg1 _).setCell hg1 _).setCell hg1 _⟩

theorem keep3c {W W' : World} {p1 p2 p3 : Addr} {v1 v2 v3 : Value} (hb : Below W.heap.size W W') (h : W.cell? p1 = some v1 ∧ W.cell? p2 = some v2 ∧ W.cell? p3 = some v3) : W'.cell? p1 = some v1 ∧ W'.cell? p2 = some v2 ∧ W'.cell? p3 = some v3 :=
  ⟨(hb.cell (World.block_lt_of_cell? W _ h.1)).trans h.1, (hb.cell (World.block_lt_of_cell? W _ h.2.1)).trans h.2.1, (hb.cell (World.block_lt_of_cell? W _ h.2.2)).trans h.2.2⟩
theorem keep_set33 {w : World} {g0 g1 o1 o2 o3 : Nat} {a b c : Value} {x y z : Option Value} (h : g0 ≠ g1) (hc : w.cell? ⟨g0, o1, none⟩ = x ∧ w.cell? ⟨g0, o2, none⟩ = y ∧ w.cell? ⟨g0, o3, none⟩ = z) :
    (((w.setCell ⟨g1, 0, none⟩ a).setCell ⟨g1, 1, none⟩ b).setCell ⟨g1, 2, none⟩ c).cell? ⟨g0, o1, none⟩ = x ∧ (((w.setCell ⟨g1, 0, none⟩ a).setCell ⟨g1, 1, none⟩ b).setCell ⟨g1, 2, none⟩ c).cell? ⟨g0, o2, none⟩ = y ∧ (((w.setCell ⟨g1, 0, none⟩ a).setCell ⟨g1, 1, none⟩ b).setCell ⟨g1, 2, none⟩ c).cell? ⟨g0, o3, none⟩ = z :=
  ⟨keep_set3 h hc.1, keep_set3 h hc.2.1, keep_set3 h hc.2.2⟩

set_option maxRecDepth 100000 in
set_option maxHeartbeats 600000 in
theorem value28_pos (lo : Nat) (neg : Bool) (a : Value) (n : Nat) (many : Int) (j : Nat) (w : World) (ha : Num lo w a n) (hn : n ≠ 0) (hnb : bl n ≤ 100000) (hm1 : 0 ≤ many) (hm2 : many ≤ 100000) (he2 : (j : Int) ≤ 1000000) (hfar : ¬ 400 < many + (j : Int)) :
    Calls Tryz.prog 70 #[.agg #[.bool neg, a, .int .i64 many, .int .i64 (j : Int), .int .i64 10]] w (DyPost w neg (fAbs (n * 10 ^ j)) (fExp (n * 10 ^ j) 0)) := by
  obtain ⟨px, cx, rfl⟩ := num_slice ha
  have hL : (limbsOf n).length ≠ 0 := by rw [Ne, limbsOf_len_zero]; exact hn
  have hbe : (((limbsOf n).length : Int) == 0) = false := beq_eq_false_iff_ne.2 (by omega)
  generalize hA : Value.slice px (limbsOf n).length cx = a at *
  have hba := ((Below.refl w.heap.size w).alloc (Nat.le_refl _) (.cells #[.bool neg, a, .int .i64 many, .int .i64 (j : Int), .int .i64 10] 53)).alloc (by simp) (.cells #[.bool false, .slice none 0 0, .int .i64 0] 62)
  have hk0 := (Blk.new w #[.bool neg, a, .int .i64 many, .int .i64 (j : Int), .int .i64 10] 53).alloc (.cells #[.bool false, .slice none 0 0, .int .i64 0] 62)
  have hk1 := Blk.new (w.alloc (.cells #[.bool neg, a, .int .i64 many, .int .i64 (j : Int), .int .i64 10] 53)) #[.bool false, .slice none 0 0, .int .i64 0] 62
  rw [show (w.alloc (.cells #[.bool neg, a, .int .i64 many, .int .i64 (j : Int), .int .i64 10] 53)).heap.size = w.heap.size + 1 by simp] at hk1
  have hw1 : IntKind.i64.wrap (many + (j : Int)) = many + (j : Int) := wrapi3 (by omega) (by omega)
  have ha2 := ha.call hba
  clear ha
  go_enter Tryz.func70, Tryz.ntmps70
  go_upto_region 1 with fail
  generalize hW : (w.alloc (.cells #[.bool neg, a, .int .i64 many, .int .i64 (j : Int), .int .i64 10] 53)).alloc (.cells #[.bool false, .slice none 0 0, .int .i64 0] 62) = w2 at *
  obtain ⟨g1, hg1e⟩ : ∃ g1, w.heap.size + 1 = g1 := ⟨_, rfl⟩
  obtain ⟨g0, hg0e⟩ : ∃ g0, w.heap.size = g0 := ⟨_, rfl⟩
  have hg1 : w.heap.size ≤ g1 := by omega
  have hg01 : g0 ≠ g1 := by omega
  rw [hg1e] at hk1
  rw [hg0e] at hk0
  rw [hg1e, hg0e]
  clear hW hg1e hg0e
  have k0 := hk0.cell 0 _ rfl
  have k1 := hk0.cell 1 _ rfl
  have k2 := hk0.cell 2 _ rfl
  have k3 := hk0.cell 3 _ rfl
  have k4 := hk0.cell 4 _ rfl
  subst hA
  have hj : j ≤ 400 := by omega
  have hbm : bl (n * 10 ^ j) ≤ 200000 := Nat.le_trans (bl_mul3 _ _) (by have := bl_ten3 (Nat.le_refl (10 ^ j)); omega)
  have hbt : bl (10 ^ j) ≤ 2000 := by have := bl_ten3 (Nat.le_refl (10 ^ j)); omega
  have hl1 : (limbsOf (10 ^ j)).length ≤ 1000 := limbs3 (by omega)
  have hl2 : (limbsOf (n * 10 ^ j)).length ≤ 1000000 := limbs3 (by omega)
  have hl3 : (limbsOf n).length ≤ 1000000 := limbs3 (by omega)
  have hne : n * 10 ^ j ≠ 0 := Nat.mul_ne_zero hn (Nat.ne_of_gt (Nat.pow_pos (by decide)))
  have hT := fun w => ten28_any j w (by omega)
  have hM := fun w t (ha : Num lo w (.slice px (limbsOf n).length cx) n) (ht : Num 0 w t (10 ^ j)) => Mul03_any 0 _ t (limbsOf n) (limbsOf (10 ^ j)) w (ha.words.mono (Nat.zero_le _)) ht.words (by omega) (by omega)
  have hF := fun lo w m (hm : Num lo w m (n * 10 ^ j)) => Form04_any lo neg m (limbsOf (n * 10 ^ j)) 0 w hm.words (by omega) (by decide) (by decide)
  simp only [valN_limbsOf] at hM hF
  have hfn : fNeg neg (n * 10 ^ j) = neg := by unfold fNeg; rw [if_neg hne]
  rw [hfn] at hF
  have HT := Lib.hid hT
  have HM := Lib.hid hM
  have HF := Lib.hid hF
  clear hT hM hF hfn hne hbm hbt
  generalize n * 10 ^ j = M at *
  generalize 10 ^ j = T at *
  generalize fAbs M = MA at *
  generalize fExp M 0 = ME at *
  go_upto_region 15 with fail
  have hb1 : Below w2.heap.size w2 w2.drew := below_drewN _ _ 1
  have hS0 : w2.drew.cell? ⟨g0, 0, none⟩ = some (.bool neg) ∧ w2.drew.cell? ⟨g0, 1, none⟩ = some (.slice px (limbsOf n).length cx) ∧ w2.drew.cell? ⟨g0, 3, none⟩ = some (.int .i64 ((j : Nat) : Int)) := ⟨k0, k1, k3⟩
  go_region_held3 (fun w' => w'.cell? ⟨g0, 0, none⟩ = some (.bool neg) ∧ w'.cell? ⟨g0, 1, none⟩ = some (.slice px (limbsOf n).length cx) ∧ w'.cell? ⟨g0, 3, none⟩ = some (.int .i64 ((j : Nat) : Int))) (first | assumption | exact keep_set33 hg01 (by assumption) | go_keep)
    (first
      | (go_at_call 106; refine (HT.out _).mono ?_; rintro en w5 ⟨v5, rfl, hv5, hb5⟩; obtain ⟨x5, c5, rfl⟩ := num_slice hv5; have Y5 := keep3c hb5 (by assumption); have hb15 := hb1.trans (hb5.mono hb1.size))
      | (go_at_call 98; refine (HM.out _ _ (ha2.call hb15) hv5).mono ?_; rintro en w6 ⟨v6, rfl, hv6, hb6⟩; obtain ⟨x6, c6, rfl⟩ := num_slice hv6; have Y6 := keep3c hb6 (by assumption); have hb16 := hb15.trans (hb6.mono hb15.size))
      | (go_at_call 105; refine (HF.out _ _ _ hv6).mono ?_; rintro en w7 ⟨v7, rfl, ⟨a7, rfl, hv7⟩, hb7⟩; obtain ⟨x7, c7, rfl⟩ := num_slice hv7; have Y7 := keep3c hb7 (by assumption); have hb17 := hb16.trans (hb7.mono hb16.size); have hk7 := hk1.call hb17; have c0 := hk7.cell 0 _ rfl; have c1 := hk7.cell 1 _ rfl; have c2 := hk7.cell 2 _ rfl; have f0 := hk7.free 0; have f1 := hk7.free 1; have f2 := hk7.free 2))
  all_goals
    have hlt := hk1.lt
    have hbw7 := hba.trans (hb17.mono hba.size)
    have hv8 : Num (g1 + 1) w7 (.slice x7 (limbsOf MA).length c7) MA := hv7.mono (by have h1 := hb1.size; have h2 := hb5.size; have h3 := hb6.size; omega)
    have hv9 := ((hv8.gb (gb_set w7 g1 0 none (.bool neg)) (by omega)).gb (gb_set _ g1 1 none (.slice x7 (limbsOf MA).length c7)) (by omega)).gb (gb_set _ g1 2 none (.int .i64 ME)) (by omega)
    have hd7 := ((hk7.set 0 (.bool neg)).set 1 (.slice x7 (limbsOf MA).length c7)).set 2 (.int .i64 ME)
    have o0 := hd7.cell 0 _ rfl
    have o1 := hd7.cell 1 _ rfl
    have o2 := hd7.cell 2 _ rfl
    clear hk0 hk1 k0 k1 k2 k3 k4 c0 c1 c2 f0 f1 f2 hS0 hv5 hv6 hv7 hv8 hb5 hb6 hb7 hb15 hb16
    go_wp2_with fail
    exact bodyPost_ret (v := .agg #[.bool neg, .slice x7 (limbsOf MA).length c7, .int .i64 ME]) (by simp [results, Tryz.results70, go_sem, o0, o1, o2]; try rfl) rfl ⟨_, rfl, ⟨_, rfl, (hv9.mono (lo' := w.heap.size) (by omega))⟩, ((hbw7.setCell hg1 _).setCell hg1 _).setCell hg1 _⟩
end Go.Proofs.YtkfbailpifmdcaaGreatDoor
end

section
namespace Go.Proofs.YtkfbailpifmdcaaGreatDoor
open Go.RowKit
theorem keepB3 {W0 W W' : World} {p : Addr} {v : Value} (hb : Below W.heap.size W W') (h : W.cell? p = some v ∧ Below W0.heap.size W0 W) : W'.cell? p = some v ∧ Below W0.heap.size W0 W' :=
  ⟨(hb.cell (World.block_lt_of_cell? W _ h.1)).trans h.1, h.2.trans (hb.mono h.2.size)⟩

set_option maxRecDepth 100000 in
set_option maxHeartbeats 600000 in
theorem value28_neg (lo : Nat) (neg : Bool) (a : Value) (n : Nat) (many e : Int) (w : World) (ha : Num lo w a n) (hn : n ≠ 0) (hnb : bl n ≤ 100000) (hm1 : 0 ≤ many) (hm2 : many ≤ 5000) (he1 : -1000000 ≤ e) (he2 : e ≤ 1000000) (hfar : ¬ 400 < many + e) (hnear : ¬ many + e < -400) (k : Nat) (hk : -e = (k : Int)) (hkp : 1 ≤ k) :
    Calls Tryz.prog 70 #[.agg #[.bool neg, a, .int .i64 many, .int .i64 e, .int .i64 10]] w (DyPost w neg (fAbs (quoM n k)) (fExp (quoM n k) (-((quoS n k : Nat) : Int) - 1))) := by
  obtain ⟨px, cx, rfl⟩ := num_slice ha
  have hL : (limbsOf n).length ≠ 0 := by rw [Ne, limbsOf_len_zero]; exact hn
  have hbe : (((limbsOf n).length : Int) == 0) = false := beq_eq_false_iff_ne.2 (by omega)
  generalize hA : Value.slice px (limbsOf n).length cx = a at *
  have hba := ((Below.refl w.heap.size w).alloc (Nat.le_refl _) (.cells #[.bool neg, a, .int .i64 many, .int .i64 e, .int .i64 10] 53)).alloc (by simp) (.cells #[.bool false, .slice none 0 0, .int .i64 0] 62)
  have hk8 := (Blk.new w #[.bool neg, a, .int .i64 many, .int .i64 e, .int .i64 10] 53).alloc (.cells #[.bool false, .slice none 0 0, .int .i64 0] 62)
  have hk9 := Blk.new (w.alloc (.cells #[.bool neg, a, .int .i64 many, .int .i64 e, .int .i64 10] 53)) #[.bool false, .slice none 0 0, .int .i64 0] 62
  rw [show (w.alloc (.cells #[.bool neg, a, .int .i64 many, .int .i64 e, .int .i64 10] 53)).heap.size = w.heap.size + 1 by simp] at hk9
  have hw1 : IntKind.i64.wrap (many + e) = many + e := wrapi3 (by omega) (by omega)
  have ha2 := ha.call hba
  clear ha
  have hkb : k ≤ 6000 := by omega
  have he9 : ¬ 0 ≤ e := by omega
  obtain ⟨s, hs⟩ : ∃ s, quoS n k = s := ⟨_, rfl⟩
  have htb := bl_ten (n := 10 ^ k) (d := k + 1) (Nat.pow_lt_pow_right (by decide) (by omega))
  have hsb : s ≤ 80 + bl (10 ^ k) := by rw [← hs]; unfold quoS; omega
  have hs1 : max (80 + ((bl (10 ^ k) : Nat) : Int) - ((bl n : Nat) : Int)) 0 = ((s : Nat) : Int) := by rw [← hs]; unfold quoS; omega
  have hsw : max (IntKind.i64.wrap (IntKind.i64.wrap (80 + ((bl (10 ^ k) : Nat) : Int)) - ((bl n : Nat) : Int))) 0 = ((s : Nat) : Int) := by rw [wrapi3 (x := 80 + ((bl (10 ^ k) : Nat) : Int)) (by omega) (by omega), wrapi3 (by omega) (by omega)]; exact hs1
  have hqb := quoM_bl n k
  have hQ : quoM n k = n * 2 ^ s / 10 ^ k * 2 + (if n * 2 ^ s % 10 ^ k = 0 then 0 else 1) := by unfold quoM; rw [hs]
  obtain ⟨M, hM⟩ : ∃ M, quoM n k = M := ⟨_, rfl⟩
  rw [hs, hM] at hqb
  rw [hM] at hQ
  rw [hs, hM]
  clear hs hM
  have hM0 : M ≠ 0 := by
    intro h0
    rw [h0] at hQ
    by_cases hr : n * 2 ^ s % 10 ^ k = 0
    · rw [if_pos hr] at hQ
      have h1 := Nat.div_add_mod (n * 2 ^ s) (10 ^ k)
      have h2 : n * 2 ^ s / 10 ^ k = 0 := by omega
      rw [h2, hr] at h1
      exact Nat.mul_ne_zero hn (Nat.ne_of_gt (Nat.pow_pos (n := s) (Nat.zero_lt_succ 1))) (by rw [← h1, Nat.mul_zero])
    · rw [if_neg hr] at hQ
      omega
  have hfn : fNeg neg M = neg := by unfold fNeg; rw [if_neg hM0]
  have hp0 : (10 : Nat) ^ k ≠ 0 := Nat.ne_of_gt (Nat.pow_pos (by decide))
  have hl4 := bl_mul n (2 ^ s)
  rw [bl_two] at hl4
  have hbq : bl (n * 2 ^ s / 10 ^ k) ≤ bl (n * 2 ^ s) := bl_mono (Nat.div_le_self _ _)
  have hlT : (limbsOf (10 ^ k)).length ≤ 1000000 := limbs3 (by omega)
  have hlN : (limbsOf n).length ≤ 1000000 := limbs3 (by omega)
  have hlS : (limbsOf (n * 2 ^ s)).length ≤ 1000000 := limbs3 (by omega)
  have hlQ : (limbsOf (n * 2 ^ s / 10 ^ k)).length ≤ 1000000 := limbs3 (by omega)
  have hlQ2 : (limbsOf (n * 2 ^ s / 10 ^ k * 2 ^ 1)).length ≤ 1000000 := limbs3 (Nat.le_trans (bl_mul3 _ _) (by have := bl_two 1; omega))
  have hlM : (limbsOf M).length ≤ 1000000 := limbs3 (by omega)
  have hT := fun w => ten28_any k w (by omega)
  have hL1 := fun w v (h : Num 0 w v (10 ^ k)) => Len03_any 0 v (limbsOf (10 ^ k)) w h.words (by omega)
  have hL2 := fun w v (h : Num 0 w v n) => Len03_any 0 v (limbsOf n) w h.words (by omega)
  have hS := fun w v (h : Num 0 w v n) => Shl03_any 0 v (limbsOf n) s w h.words (by omega) (by omega)
  have hD := fun w v t (h : Num 0 w v (n * 2 ^ s)) (ht : Num 0 w t (10 ^ k)) => Div03_any 0 v t (limbsOf (n * 2 ^ s)) (limbsOf (10 ^ k)) w h.words ht.words hlS hlT (by rw [valN_limbsOf]; exact hp0)
  have hS1 := fun w v (h : Num 0 w v (n * 2 ^ s / 10 ^ k)) => Shl03_any 0 v (limbsOf (n * 2 ^ s / 10 ^ k)) 1 w h.words (by omega) (by decide)
  have hO := fun w => Of03_any 1 w (by decide) (by decide)
  have hA := fun w v t (h : Num 0 w v (n * 2 ^ s / 10 ^ k * 2 ^ 1)) (ht : Num 0 w t 1) => Add03_any 0 v t _ _ w h.words ht.words (by omega) (Nat.le_trans (limbs3 (v := 1) (K := 100) (by have := bl_two 0; rw [Nat.pow_zero] at this; omega)) (by omega))
  have hF := fun w m (hm : Num 0 w m M) => Form04_any 0 neg m (limbsOf M) (-((s : Nat) : Int) - 1) w hm.words (by omega) (by omega) (by omega)
  simp only [valN_limbsOf, hfn] at hL1 hL2 hS hD hS1 hA hF
  have hQa : n * 2 ^ s % 10 ^ k = 0 → n * 2 ^ s / 10 ^ k * 2 ^ 1 = M := by intro h; rw [hQ, if_pos h]; rfl
  have hQb : n * 2 ^ s % 10 ^ k ≠ 0 → n * 2 ^ s / 10 ^ k * 2 ^ 1 + 1 = M := by intro h; rw [hQ, if_neg h]
  have HT := Lib.hid hT
  have HL1 := Lib.hid hL1
  have HL2 := Lib.hid hL2
  have HS := Lib.hid hS
  have HD := Lib.hid hD
  have HS1 := Lib.hid hS1
  have HO := Lib.hid hO
  have HA := Lib.hid hA
  have HF := Lib.hid hF
  have HQA := Lib.hid hQa
  have HQB := Lib.hid hQb
  clear hT hL1 hL2 hS hD hS1 hO hA hF hQa hQb hQ hfn hM0 hp0 hl4 hbq hlS hlQ hlQ2 hlM hlT hlN hqb
  generalize n * 2 ^ s / 10 ^ k * 2 ^ 1 = Q2 at *
  generalize n * 2 ^ s / 10 ^ k = Q at *
  generalize n * 2 ^ s % 10 ^ k = R at *
  generalize n * 2 ^ s = NS at *
  generalize 10 ^ k = T at *
  generalize hMA : fAbs M = MA at *
  generalize hME : fExp M (-((s : Nat) : Int) - 1) = ME at *
  clear hMA hME
  go_enter Tryz.func70, Tryz.ntmps70
  go_upto_region 1 with fail
  generalize hW : (w.alloc (.cells #[.bool neg, a, .int .i64 many, .int .i64 e, .int .i64 10] 53)).alloc (.cells #[.bool false, .slice none 0 0, .int .i64 0] 62) = w2 at *
  obtain ⟨g1, hg1e⟩ : ∃ g1, w.heap.size + 1 = g1 := ⟨_, rfl⟩
  obtain ⟨g0, hg0e⟩ : ∃ g0, w.heap.size = g0 := ⟨_, rfl⟩
  have hg1 : w.heap.size ≤ g1 := by omega
  have hg01 : g0 ≠ g1 := by omega
  rw [hg1e] at hk9
  rw [hg0e] at hk8
  rw [hg1e, hg0e]
  clear hW hg1e hg0e
  have k0 := hk8.cell 0 _ rfl
  have k1 := hk8.cell 1 _ rfl
  have k2 := hk8.cell 2 _ rfl
  have k3 := hk8.cell 3 _ rfl
  have k4 := hk8.cell 4 _ rfl
  subst hA
  clear hbe
  have ha0 := ha2.mono (Nat.zero_le _)
  have hW2 := Below.refl w2.heap.size w2
  go_wp2_with fail
  refine (HT.out _).mono ?_
  rintro en w5 ⟨v5, rfl, hv5, hb5⟩
  obtain ⟨x5, c5, rfl⟩ := num_slice hv5
  have k1b := (hb5.cell (World.block_lt_of_cell? _ _ k1)).trans k1
  have hl5 := fun w' (h : w'.cell? ⟨g0, 1, none⟩ = some (.slice px (limbsOf n).length cx) ∧ Below w5.heap.size w5 w') => HL1.out w' _ (hv5.call h.2)
  have hl6 := fun w' (h : w'.cell? ⟨g0, 1, none⟩ = some (.slice px (limbsOf n).length cx) ∧ Below w5.heap.size w5 w') => HL2.out w' _ (ha0.call (hb5.trans (h.2.mono hb5.size)))
  have HL5 := Lib.hid hl5
  have HL6 := Lib.hid hl6
  clear HL1 HL2 hl5 hl6 HT
  go_upto_region 17 with fail
  go_cut [5] (fun u5 wx => u5 = .int .i64 ((s : Nat) : Int) ∧ Below w5.heap.size w5 wx)
  case first =>
    have hS0 : w5.drew.cell? ⟨g0, 1, none⟩ = some (.slice px (limbsOf n).length cx) ∧ Below w5.heap.size w5 w5.drew := ⟨k1b, below_drewN _ _ 1⟩
    go_region_held3 (fun w' => w'.cell? ⟨g0, 1, none⟩ = some (.slice px (limbsOf n).length cx) ∧ Below w5.heap.size w5 w') (first | assumption | go_keep)
      (first
        | (go_at_call 104; with_reducible refine (HL5.out _ (by assumption)).mono ?_; rintro en w6 ⟨rfl, hb6⟩; have Y := keepB3 hb6 (by assumption))
        | (go_at_call 104; with_reducible refine (HL6.out _ (by assumption)).mono ?_; rintro en w6 ⟨rfl, hb6⟩; have Y := keepB3 hb6 (by assumption)))
    all_goals (go_wp2_with fail; go_meet; exact ⟨by first | rfl | rw [hsw], Y.2⟩)
  case rest =>
    obtain ⟨rfl, hb6⟩ := hcut
    have hb16 := hb5.trans (hb6.mono hb5.size)
    have k1c := (hb6.cell (World.block_lt_of_cell? _ _ k1b)).trans k1b
    go_wp2_with fail
    refine (HS.out _ _ (ha0.call hb16)).mono ?_
    rintro en w7 ⟨v7, rfl, hv7, hb7⟩
    obtain ⟨x7, c7, rfl⟩ := num_slice hv7
    have hb17 := hb16.trans (hb7.mono hb16.size)
    have hv5c := (hv5.call hb6).call hb7
    go_wp2_with fail
    refine (HD.out _ _ _ (hv7.mono (Nat.zero_le _)) hv5c).mono ?_
    rintro en w8 ⟨v8, v9, rfl, hv8, hv9, hb8⟩
    obtain ⟨x8, c8, rfl⟩ := num_slice hv8
    obtain ⟨x9, c9, rfl⟩ := num_slice hv9
    have hb18 := hb17.trans (hb8.mono hb17.size)
    go_wp2_with fail
    refine (HS1.out _ _ (hv8.mono (Nat.zero_le _))).mono ?_
    rintro en w9 ⟨v10, rfl, hv10, hb9⟩
    obtain ⟨x10, c10, rfl⟩ := num_slice hv10
    have hb19 := hb18.trans (hb9.mono hb18.size)
    have hz5 := @limbsOf_len_zero R
    go_upto_if 99 with fail
    go_cut [8] (fun u8 wx => Num 0 wx u8 M ∧ Below w9.heap.size w9 wx)
    case first =>
      by_cases hr0 : R = 0
      · have hq := HQA.out hr0
        have e5 : decide (0 < (limbsOf R).length) = false := decide_eq_false (by have := hz5.2 hr0; omega)
        clear hr0
        simp only [e5]
        go_wp2_with fail
        go_meet
        refine ⟨?_, Below.refl _ _⟩
        rw [← hq]
        exact hv10.mono (Nat.zero_le _)
      · have hq := HQB.out hr0
        have e5 : decide (0 < (limbsOf R).length) = true := decide_eq_true (by have := mt hz5.1 hr0; omega)
        clear hr0
        simp only [e5]
        go_wp2_with fail
        refine (HO.out _).mono ?_
        rintro en w10 ⟨v11, rfl, hv11, hb10⟩
        go_wp2_with fail
        refine (HA.out _ _ _ ((hv10.call hb10).mono (Nat.zero_le _)) (hv11.mono (Nat.zero_le _))).mono ?_
        rintro en w11 ⟨v12, rfl, hv12, hb11⟩
        go_wp2_with fail
        go_meet
        refine ⟨?_, hb10.trans (hb11.mono hb10.size)⟩
        rw [← hq]
        exact hv12.mono (Nat.zero_le _)
    case rest =>
      obtain ⟨hv13, hb13⟩ := hcut
      obtain ⟨x13, c13, rfl⟩ := num_slice hv13
      have hb23 := hb19.trans (hb13.mono hb19.size)
      have k0c := (hb23.cell (World.block_lt_of_cell? _ _ k0)).trans k0
      go_wp2_with fail
      refine (HF.out _ _ hv13).mono ?_
      rintro en w14 ⟨v14, rfl, ⟨a14, rfl, hv14⟩, hb14⟩
      obtain ⟨x14, c14, rfl⟩ := num_slice hv14
      have hb24 := hb23.trans (hb14.mono hb23.size)
      have hk7 := hk9.call hb24
      have c0 := hk7.cell 0 _ rfl
      have c1 := hk7.cell 1 _ rfl
      have c2 := hk7.cell 2 _ rfl
      have f0 := hk7.free 0
      have f1 := hk7.free 1
      have f2 := hk7.free 2
      have hlt := hk9.lt
      have hbw7 := hba.trans (hb24.mono hba.size)
      have hsz := hb23.size
      have hv8 : Num (g1 + 1) w14 (.slice x14 (limbsOf MA).length c14) MA := hv14.mono (by omega)
      have hv9 := ((hv8.gb (gb_set w14 g1 0 none (.bool neg)) (by omega)).gb (gb_set _ g1 1 none (.slice x14 (limbsOf MA).length c14)) (by omega)).gb (gb_set _ g1 2 none (.int .i64 ME)) (by omega)
      have hd7 := ((hk7.set 0 (.bool neg)).set 1 (.slice x14 (limbsOf MA).length c14)).set 2 (.int .i64 ME)
      have o0 := hd7.cell 0 _ rfl
      have o1 := hd7.cell 1 _ rfl
      have o2 := hd7.cell 2 _ rfl
      clear hk8 hk9 k0 k1 k2 k3 k4 hv5 hv7 hv8 hb5 hb6 hb7 hb8 hb9 hb13 hb14
      go_wp2_with fail
      exact bodyPost_ret (v := .agg #[.bool neg, .slice x14 (limbsOf MA).length c14, .int .i64 ME]) (by simp [results, Tryz.results70, go_sem, o0, o1, o2]; try rfl) rfl ⟨_, rfl, ⟨_, rfl, (hv9.mono (lo' := w.heap.size) (by omega))⟩, ((hbw7.setCell hg1 _).setCell hg1 _).setCell hg1 _⟩
end Go.Proofs.YtkfbailpifmdcaaGreatDoor
end
