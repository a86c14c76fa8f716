/- RefS PlnI RefT RefU -/
import Derived.Test.YtkfbailpifmdcaaGreatDoorMaz
import Derived.Test.YtkfbailpifmdcaaGreatDoorMaq
import Derived.Test.YtkfbailpifmdcaaGreatDoorMaj
section
namespace Go.Proofs.YtkfbailpifmdcaaGreatDoor
open Go.RowKit
theorem keepC3 {W0 W W' : World} {p q : Addr} {v u : Value} (hb : Below W.heap.size W W') (h : W.cell? p = some v ∧ W.cell? q = some u ∧ Below W0.heap.size W0 W) : W'.cell? p = some v ∧ W'.cell? q = some u ∧ Below W0.heap.size W0 W' :=
  ⟨(hb.cell (World.block_lt_of_cell? W _ h.1)).trans h.1, (hb.cell (World.block_lt_of_cell? W _ h.2.1)).trans h.2.1, h.2.2.trans (hb.mono h.2.2.size)⟩

set_option maxRecDepth 100000 in
set_option maxHeartbeats 600000 in
theorem value28_two_far (lo : Nat) (neg : Bool) (a : Value) (n : Nat) (e : Int) (w : World) (ha : Num lo w a n) (hn : n ≠ 0) (hnb : bl n ≤ 100000) (he1 : -1000000 ≤ e) (he2 : e ≤ 1000000) (hfar : 3000 < ((bl n : Nat) : Int) + e) :
    Calls Tryz.prog 70 #[.agg #[.bool neg, a, .int .i64 0, .int .i64 e, .int .i64 2]] w (DyPost w neg 1 3000) := by
  obtain ⟨px, cx, rfl⟩ := num_slice ha
  have hL : (limbsOf n).length ≠ 0 := by rw [Ne, limbsOf_len_zero]; exact hn
  have hbe : (((limbsOf n).length : Int) == 0) = false := beq_eq_false_iff_ne.2 (by omega)
  generalize hA : Value.slice px (limbsOf n).length cx = a at *
  have hba := ((Below.refl w.heap.size w).alloc (Nat.le_refl _) (.cells #[.bool neg, a, .int .i64 0, .int .i64 e, .int .i64 2] 53)).alloc (by simp) (.cells #[.bool false, .slice none 0 0, .int .i64 0] 62)
  have hk8 := (Blk.new w #[.bool neg, a, .int .i64 0, .int .i64 e, .int .i64 2] 53).alloc (.cells #[.bool false, .slice none 0 0, .int .i64 0] 62)
  have hk9 := Blk.new (w.alloc (.cells #[.bool neg, a, .int .i64 0, .int .i64 e, .int .i64 2] 53)) #[.bool false, .slice none 0 0, .int .i64 0] 62
  rw [show (w.alloc (.cells #[.bool neg, a, .int .i64 0, .int .i64 e, .int .i64 2] 53)).heap.size = w.heap.size + 1 by simp] at hk9
  have ha2 := ha.call hba
  clear ha
  have hL2 := fun w v (h : Num 0 w v n) => Len03_any 0 v (limbsOf n) w h.words (by have := limbs3 (v := n) (K := 100000) (by omega); omega)
  have hF := fun w m (hm : Num 0 w m n) => Form04_any 0 neg m (limbsOf n) e w hm.words (by have := limbs3 (v := n) (K := 100000) (by omega); omega) (by omega) (by omega)
  have hfn : fNeg neg n = neg := by unfold fNeg; rw [if_neg hn]
  simp only [valN_limbsOf, hfn] at hL2 hF
  have hwT : IntKind.i64.wrap (((bl n : Nat) : Int) + e) = ((bl n : Nat) : Int) + e := wrapi3 (by omega) (by omega)
  obtain ⟨T, hT⟩ : ∃ T, ((bl n : Nat) : Int) + e = T := ⟨_, rfl⟩
  have hwU : IntKind.i64.wrap (((bl n : Nat) : Int) + e) = T := by rw [hwT, hT]
  clear hwT
  simp only [hT] at hfar
  have HF := Lib.hid hF
  have HL2 := Lib.hid hL2
  clear hF hL2 hfn hT
  go_enter Tryz.func70, Tryz.ntmps70
  go_upto_region 1 with fail
  generalize hW : (w.alloc (.cells #[.bool neg, a, .int .i64 0, .int .i64 e, .int .i64 2] 53)).alloc (.cells #[.bool false, .slice none 0 0, .int .i64 0] 62) = w2 at *
  obtain ⟨g1, hg1e⟩ : ∃ g1, w.heap.size + 1 = g1 := ⟨_, rfl⟩
  obtain ⟨g0, hg0e⟩ : ∃ g0, w.heap.size = g0 := ⟨_, rfl⟩
  have hg1 : w.heap.size ≤ g1 := by omega
  have hg01 : g0 ≠ g1 := by omega
  rw [hg1e] at hk9
  rw [hg0e] at hk8
  rw [hg1e, hg0e]
  clear hW hg1e hg0e
  have k0 := hk8.cell 0 _ rfl
  have k1 := hk8.cell 1 _ rfl
  have k2 := hk8.cell 2 _ rfl
  have k3 := hk8.cell 3 _ rfl
  have k4 := hk8.cell 4 _ rfl
  subst hA
  clear hbe
  have ha0 := ha2.mono (Nat.zero_le _)
  have hl6 := fun w' (h : w'.cell? ⟨g0, 1, none⟩ = some (.slice px (limbsOf n).length cx) ∧ w'.cell? ⟨g0, 3, none⟩ = some (.int .i64 e) ∧ Below w2.heap.size w2 w') => HL2.out w' _ (ha0.call h.2.2)
  have HL6 := Lib.hid hl6
  clear hl6 HL2
  go_upto_region 4 with fail
  go_cut [3] (fun u3 wx => u3 = .int .i64 T ∧ Below w2.heap.size w2 wx)
  case first =>
    have hS0 : w2.drew.cell? ⟨g0, 1, none⟩ = some (.slice px (limbsOf n).length cx) ∧ w2.drew.cell? ⟨g0, 3, none⟩ = some (.int .i64 e) ∧ Below w2.heap.size w2 w2.drew := ⟨k1, k3, below_drewN _ _ 1⟩
    go_region_held3 (fun w' => w'.cell? ⟨g0, 1, none⟩ = some (.slice px (limbsOf n).length cx) ∧ w'.cell? ⟨g0, 3, none⟩ = some (.int .i64 e) ∧ Below w2.heap.size w2 w') (first | assumption | go_keep)
      (first
        | (go_at_call 104; with_reducible refine (HL6.out _ (by assumption)).mono ?_; rintro en w6 ⟨rfl, hb6⟩; have Y := keepC3 hb6 (by assumption)))
    all_goals (go_wp2_with fail; go_meet; exact ⟨by first | rfl | rw [hwU], Y.2.2⟩)
  case rest =>
    obtain ⟨rfl, hb6⟩ := hcut
    have k0c := (hb6.cell (World.block_lt_of_cell? _ _ k0)).trans k0
    have k1c := (hb6.cell (World.block_lt_of_cell? _ _ k1)).trans k1
    have k3c := (hb6.cell (World.block_lt_of_cell? _ _ k3)).trans k3
    have hba6 := hba.trans (hb6.mono hba.size)
    have hk1 := hk9.call hb6
    have hg6 := hb6.size
    clear hk8 hk9 k0 k1 k2 k3 k4 k1c k3c hba
    have k0 := k0c
    clear k0c
    go_upto_region 6 with fail
    have hb1 : Below wc.heap.size wc wc.drew := below_drewN _ _ 1
    have hS0 : wc.drew.cell? ⟨g0, 0, none⟩ = some (.bool neg) := k0
    go_region_held3 (fun w' => w'.cell? ⟨g0, 0, none⟩ = some (.bool neg)) (first | assumption | exact keep_set3 hg01 (by assumption) | go_keep)
      (first
        | (go_at_call 99; refine (Of03_any 1 _ (by decide) (by decide)).mono ?_; rintro en w5 ⟨v5, rfl, hv5, hb5⟩; obtain ⟨x5, c5, rfl⟩ := num_slice hv5; have Y : w5.cell? ⟨g0, 0, none⟩ = some (.bool neg) := (hb5.cell (World.block_lt_of_cell? _ _ (by assumption))).trans (by assumption); have hk5 := hk1.call (hb1.trans (hb5.mono hb1.size)); have c0 := hk5.cell 0 _ rfl; have c1 := hk5.cell 1 _ rfl; have c2 := hk5.cell 2 _ rfl; have f0 := hk5.free 0; have f1 := hk5.free 1; have f2 := hk5.free 2))
    all_goals
      have hlt := hk1.lt
      have hb15 := hb1.trans (hb5.mono hb1.size)
      have hbw5 := hba6.trans (hb15.mono hba6.size)
      have hv6 : Num (g1 + 1) w5 (.slice x5 (limbsOf 1).length c5) 1 := hv5.mono (by have := hb1.size; omega)
      have hv7 := ((hv6.gb (gb_set w5 g1 0 none (.bool neg)) (by omega)).gb (gb_set _ g1 1 none (.slice x5 (limbsOf 1).length c5)) (by omega)).gb (gb_set _ g1 2 none (.int .i64 3000)) (by omega)
      have hd7 := ((hk5.set 0 (.bool neg)).set 1 (.slice x5 (limbsOf 1).length c5)).set 2 (.int .i64 3000)
      have o0 := hd7.cell 0 _ rfl
      have o1 := hd7.cell 1 _ rfl
      have o2 := hd7.cell 2 _ rfl
      clear hk1 k0 c0 c1 c2 f0 f1 f2 hS0 hv5 hv6 hb5
      go_wp2_with fail
      exact bodyPost_ret (v := .agg #[.bool neg, .slice x5 (limbsOf 1).length c5, .int .i64 3000]) (by simp [results, Tryz.results70, go_sem, o0, o1, o2]; try rfl) rfl ⟨_, rfl, ⟨_, rfl, (hv7.mono (lo' := w.heap.size) (by omega))⟩, ((hbw5.setCell hg1 _).setCell hg1 _).setCell hg1 _⟩

set_option maxRecDepth 100000 in
set_option maxHeartbeats 600000 in
theorem value28_two_near (lo : Nat) (neg : Bool) (a : Value) (n : Nat) (e : Int) (w : World) (ha : Num lo w a n) (hn : n ≠ 0) (hnb : bl n ≤ 100000) (he1 : -1000000 ≤ e) (he2 : e ≤ 1000000) (hfar : ((bl n : Nat) : Int) + e < -3000) :
    Calls Tryz.prog 70 #[.agg #[.bool neg, a, .int .i64 0, .int .i64 e, .int .i64 2]] w (DyPost w neg 1 (-3000)) := by
  obtain ⟨px, cx, rfl⟩ := num_slice ha
  have hL : (limbsOf n).length ≠ 0 := by rw [Ne, limbsOf_len_zero]; exact hn
  have hbe : (((limbsOf n).length : Int) == 0) = false := beq_eq_false_iff_ne.2 (by omega)
  generalize hA : Value.slice px (limbsOf n).length cx = a at *
  have hba := ((Below.refl w.heap.size w).alloc (Nat.le_refl _) (.cells #[.bool neg, a, .int .i64 0, .int .i64 e, .int .i64 2] 53)).alloc (by simp) (.cells #[.bool false, .slice none 0 0, .int .i64 0] 62)
  have hk8 := (Blk.new w #[.bool neg, a, .int .i64 0, .int .i64 e, .int .i64 2] 53).alloc (.cells #[.bool false, .slice none 0 0, .int .i64 0] 62)
  have hk9 := Blk.new (w.alloc (.cells #[.bool neg, a, .int .i64 0, .int .i64 e, .int .i64 2] 53)) #[.bool false, .slice none 0 0, .int .i64 0] 62
  rw [show (w.alloc (.cells #[.bool neg, a, .int .i64 0, .int .i64 e, .int .i64 2] 53)).heap.size = w.heap.size + 1 by simp] at hk9
  have ha2 := ha.call hba
  clear ha
  have hL2 := fun w v (h : Num 0 w v n) => Len03_any 0 v (limbsOf n) w h.words (by have := limbs3 (v := n) (K := 100000) (by omega); omega)
  have hF := fun w m (hm : Num 0 w m n) => Form04_any 0 neg m (limbsOf n) e w hm.words (by have := limbs3 (v := n) (K := 100000) (by omega); omega) (by omega) (by omega)
  have hfn : fNeg neg n = neg := by unfold fNeg; rw [if_neg hn]
  simp only [valN_limbsOf, hfn] at hL2 hF
  have hwT : IntKind.i64.wrap (((bl n : Nat) : Int) + e) = ((bl n : Nat) : Int) + e := wrapi3 (by omega) (by omega)
  obtain ⟨T, hT⟩ : ∃ T, ((bl n : Nat) : Int) + e = T := ⟨_, rfl⟩
  have hwU : IntKind.i64.wrap (((bl n : Nat) : Int) + e) = T := by rw [hwT, hT]
  clear hwT
  simp only [hT] at hfar
  have HF := Lib.hid hF
  have HL2 := Lib.hid hL2
  clear hF hL2 hfn hT
  go_enter Tryz.func70, Tryz.ntmps70
  go_upto_region 1 with fail
  generalize hW : (w.alloc (.cells #[.bool neg, a, .int .i64 0, .int .i64 e, .int .i64 2] 53)).alloc (.cells #[.bool false, .slice none 0 0, .int .i64 0] 62) = w2 at *
  obtain ⟨g1, hg1e⟩ : ∃ g1, w.heap.size + 1 = g1 := ⟨_, rfl⟩
  obtain ⟨g0, hg0e⟩ : ∃ g0, w.heap.size = g0 := ⟨_, rfl⟩
  have hg1 : w.heap.size ≤ g1 := by omega
  have hg01 : g0 ≠ g1 := by omega
  rw [hg1e] at hk9
  rw [hg0e] at hk8
  rw [hg1e, hg0e]
  clear hW hg1e hg0e
  have k0 := hk8.cell 0 _ rfl
  have k1 := hk8.cell 1 _ rfl
  have k2 := hk8.cell 2 _ rfl
  have k3 := hk8.cell 3 _ rfl
  have k4 := hk8.cell 4 _ rfl
  subst hA
  clear hbe
  have ha0 := ha2.mono (Nat.zero_le _)
  have hl6 := fun w' (h : w'.cell? ⟨g0, 1, none⟩ = some (.slice px (limbsOf n).length cx) ∧ w'.cell? ⟨g0, 3, none⟩ = some (.int .i64 e) ∧ Below w2.heap.size w2 w') => HL2.out w' _ (ha0.call h.2.2)
  have HL6 := Lib.hid hl6
  clear hl6 HL2
  go_upto_region 4 with fail
  go_cut [3] (fun u3 wx => u3 = .int .i64 T ∧ Below w2.heap.size w2 wx)
  case first =>
    have hS0 : w2.drew.cell? ⟨g0, 1, none⟩ = some (.slice px (limbsOf n).length cx) ∧ w2.drew.cell? ⟨g0, 3, none⟩ = some (.int .i64 e) ∧ Below w2.heap.size w2 w2.drew := ⟨k1, k3, below_drewN _ _ 1⟩
    go_region_held3 (fun w' => w'.cell? ⟨g0, 1, none⟩ = some (.slice px (limbsOf n).length cx) ∧ w'.cell? ⟨g0, 3, none⟩ = some (.int .i64 e) ∧ Below w2.heap.size w2 w') (first | assumption | go_keep)
      (first
        | (go_at_call 104; with_reducible refine (HL6.out _ (by assumption)).mono ?_; rintro en w6 ⟨rfl, hb6⟩; have Y := keepC3 hb6 (by assumption)))
    all_goals (go_wp2_with fail; go_meet; exact ⟨by first | rfl | rw [hwU], Y.2.2⟩)
  case rest =>
    obtain ⟨rfl, hb6⟩ := hcut
    have k0c := (hb6.cell (World.block_lt_of_cell? _ _ k0)).trans k0
    have k1c := (hb6.cell (World.block_lt_of_cell? _ _ k1)).trans k1
    have k3c := (hb6.cell (World.block_lt_of_cell? _ _ k3)).trans k3
    have hba6 := hba.trans (hb6.mono hba.size)
    have hk1 := hk9.call hb6
    have hg6 := hb6.size
    clear hk8 hk9 k0 k1 k2 k3 k4 k1c k3c hba
    have k0 := k0c
    clear k0c
    go_upto_region 8 with fail
    have hb1 : Below wc.heap.size wc wc.drew := below_drewN _ _ 1
    have hS0 : wc.drew.cell? ⟨g0, 0, none⟩ = some (.bool neg) := k0
    go_region_held3 (fun w' => w'.cell? ⟨g0, 0, none⟩ = some (.bool neg)) (first | assumption | exact keep_set3 hg01 (by assumption) | go_keep)
      (first
        | (go_at_call 99; refine (Of03_any 1 _ (by decide) (by decide)).mono ?_; rintro en w5 ⟨v5, rfl, hv5, hb5⟩; obtain ⟨x5, c5, rfl⟩ := num_slice hv5; have Y : w5.cell? ⟨g0, 0, none⟩ = some (.bool neg) := (hb5.cell (World.block_lt_of_cell? _ _ (by assumption))).trans (by assumption); have hk5 := hk1.call (hb1.trans (hb5.mono hb1.size)); have c0 := hk5.cell 0 _ rfl; have c1 := hk5.cell 1 _ rfl; have c2 := hk5.cell 2 _ rfl; have f0 := hk5.free 0; have f1 := hk5.free 1; have f2 := hk5.free 2))
    all_goals
      have hlt := hk1.lt
      have hb15 := hb1.trans (hb5.mono hb1.size)
      have hbw5 := hba6.trans (hb15.mono hba6.size)
      have hv6 : Num (g1 + 1) w5 (.slice x5 (limbsOf 1).length c5) 1 := hv5.mono (by have := hb1.size; omega)
      have hv7 := ((hv6.gb (gb_set w5 g1 0 none (.bool neg)) (by omega)).gb (gb_set _ g1 1 none (.slice x5 (limbsOf 1).length c5)) (by omega)).gb (gb_set _ g1 2 none (.int .i64 (-3000))) (by omega)
      have hd7 := ((hk5.set 0 (.bool neg)).set 1 (.slice x5 (limbsOf 1).length c5)).set 2 (.int .i64 (-3000))
      have o0 := hd7.cell 0 _ rfl
      have o1 := hd7.cell 1 _ rfl
      have o2 := hd7.cell 2 _ rfl
      clear hk1 k0 c0 c1 c2 f0 f1 f2 hS0 hv5 hv6 hb5
      go_wp2_with fail
      exact bodyPost_ret (v := .agg #[.bool neg, .slice x5 (limbsOf 1).length c5, .int .i64 (-3000)]) (by simp [results, Tryz.results70, go_sem, o0, o1, o2]; try rfl) rfl ⟨_, rfl, ⟨_, rfl, (hv7.mono (lo' := w.heap.size) (by omega))⟩, ((hbw5.setCell hg1 _).setCell hg1 _).setCell hg1 _⟩

set_option maxRecDepth 100000 in
set_option maxHeartbeats 600000 in
theorem value28_two_mid (lo : Nat) (neg : Bool) (a : Value) (n : Nat) (e : Int) (w : World) (ha : Num lo w a n) (hn : n ≠ 0) (hnb : bl n ≤ 100000) (he1 : -1000000 ≤ e) (he2 : e ≤ 1000000) (hfar : ((bl n : Nat) : Int) + e ≤ 3000) (hnear : -3000 ≤ ((bl n : Nat) : Int) + e) :
    Calls Tryz.prog 70 #[.agg #[.bool neg, a, .int .i64 0, .int .i64 e, .int .i64 2]] w (DyPost w neg (fAbs n) (fExp n e)) := by
  obtain ⟨px, cx, rfl⟩ := num_slice ha
  have hL : (limbsOf n).length ≠ 0 := by rw [Ne, limbsOf_len_zero]; exact hn
  have hbe : (((limbsOf n).length : Int) == 0) = false := beq_eq_false_iff_ne.2 (by omega)
  generalize hA : Value.slice px (limbsOf n).length cx = a at *
  have hba := ((Below.refl w.heap.size w).alloc (Nat.le_refl _) (.cells #[.bool neg, a, .int .i64 0, .int .i64 e, .int .i64 2] 53)).alloc (by simp) (.cells #[.bool false, .slice none 0 0, .int .i64 0] 62)
  have hk8 := (Blk.new w #[.bool neg, a, .int .i64 0, .int .i64 e, .int .i64 2] 53).alloc (.cells #[.bool false, .slice none 0 0, .int .i64 0] 62)
  have hk9 := Blk.new (w.alloc (.cells #[.bool neg, a, .int .i64 0, .int .i64 e, .int .i64 2] 53)) #[.bool false, .slice none 0 0, .int .i64 0] 62
  rw [show (w.alloc (.cells #[.bool neg, a, .int .i64 0, .int .i64 e, .int .i64 2] 53)).heap.size = w.heap.size + 1 by simp] at hk9
  have ha2 := ha.call hba
  clear ha
  have hL2 := fun w v (h : Num 0 w v n) => Len03_any 0 v (limbsOf n) w h.words (by have := limbs3 (v := n) (K := 100000) (by omega); omega)
  have hF := fun w m (hm : Num 0 w m n) => Form04_any 0 neg m (limbsOf n) e w hm.words (by have := limbs3 (v := n) (K := 100000) (by omega); omega) (by omega) (by omega)
  have hfn : fNeg neg n = neg := by unfold fNeg; rw [if_neg hn]
  simp only [valN_limbsOf, hfn] at hL2 hF
  have hwT : IntKind.i64.wrap (((bl n : Nat) : Int) + e) = ((bl n : Nat) : Int) + e := wrapi3 (by omega) (by omega)
  obtain ⟨T, hT⟩ : ∃ T, ((bl n : Nat) : Int) + e = T := ⟨_, rfl⟩
  have hwU : IntKind.i64.wrap (((bl n : Nat) : Int) + e) = T := by rw [hwT, hT]
  clear hwT
  simp only [hT] at hfar hnear
  have HF := Lib.hid hF
  have HL2 := Lib.hid hL2
  clear hF hL2 hfn hT
  go_enter Tryz.func70, Tryz.ntmps70
  go_upto_region 1 with fail
  generalize hW : (w.alloc (.cells #[.bool neg, a, .int .i64 0, .int .i64 e, .int .i64 2] 53)).alloc (.cells #[.bool false, .slice none 0 0, .int .i64 0] 62) = w2 at *
  obtain ⟨g1, hg1e⟩ : ∃ g1, w.heap.size + 1 = g1 := ⟨_, rfl⟩
  obtain ⟨g0, hg0e⟩ : ∃ g0, w.heap.size = g0 := ⟨_, rfl⟩
  have hg1 : w.heap.size ≤ g1 := by omega
  have hg01 : g0 ≠ g1 := by omega
  rw [hg1e] at hk9
  rw [hg0e] at hk8
  rw [hg1e, hg0e]
  clear hW hg1e hg0e
  have k0 := hk8.cell 0 _ rfl
  have k1 := hk8.cell 1 _ rfl
  have k2 := hk8.cell 2 _ rfl
  have k3 := hk8.cell 3 _ rfl
  have k4 := hk8.cell 4 _ rfl
  subst hA
  clear hbe
  have ha0 := ha2.mono (Nat.zero_le _)
  have hl6 := fun w' (h : w'.cell? ⟨g0, 1, none⟩ = some (.slice px (limbsOf n).length cx) ∧ w'.cell? ⟨g0, 3, none⟩ = some (.int .i64 e) ∧ Below w2.heap.size w2 w') => HL2.out w' _ (ha0.call h.2.2)
  have HL6 := Lib.hid hl6
  clear hl6 HL2
  go_upto_region 4 with fail
  go_cut [3] (fun u3 wx => u3 = .int .i64 T ∧ Below w2.heap.size w2 wx)
  case first =>
    have hS0 : w2.drew.cell? ⟨g0, 1, none⟩ = some (.slice px (limbsOf n).length cx) ∧ w2.drew.cell? ⟨g0, 3, none⟩ = some (.int .i64 e) ∧ Below w2.heap.size w2 w2.drew := ⟨k1, k3, below_drewN _ _ 1⟩
    go_region_held3 (fun w' => w'.cell? ⟨g0, 1, none⟩ = some (.slice px (limbsOf n).length cx) ∧ w'.cell? ⟨g0, 3, none⟩ = some (.int .i64 e) ∧ Below w2.heap.size w2 w') (first | assumption | go_keep)
      (first
        | (go_at_call 104; with_reducible refine (HL6.out _ (by assumption)).mono ?_; rintro en w6 ⟨rfl, hb6⟩; have Y := keepC3 hb6 (by assumption)))
    all_goals (go_wp2_with fail; go_meet; exact ⟨by first | rfl | rw [hwU], Y.2.2⟩)
  case rest =>
    obtain ⟨rfl, hb6⟩ := hcut
    have k0c := (hb6.cell (World.block_lt_of_cell? _ _ k0)).trans k0
    have k1c := (hb6.cell (World.block_lt_of_cell? _ _ k1)).trans k1
    have k3c := (hb6.cell (World.block_lt_of_cell? _ _ k3)).trans k3
    have hn1 : ¬ 3000 < T := by omega
    have hn2 : ¬ T < -3000 := by omega
    go_wp2_with fail
    refine (HF.out _ _ (ha0.call hb6)).mono ?_
    rintro en w14 ⟨v14, rfl, ⟨a14, rfl, hv14⟩, hb14⟩
    obtain ⟨x14, c14, rfl⟩ := num_slice hv14
    have hb24 := hb6.trans (hb14.mono hb6.size)
    have hk7 := hk9.call hb24
    have c0 := hk7.cell 0 _ rfl
    have c1 := hk7.cell 1 _ rfl
    have c2 := hk7.cell 2 _ rfl
    have f0 := hk7.free 0
    have f1 := hk7.free 1
    have f2 := hk7.free 2
    have hlt := hk9.lt
    have hbw7 := hba.trans (hb24.mono hba.size)
    have hsz := hb6.size
    generalize fAbs n = MA at *
    generalize fExp n e = ME at *
    have hv8 : Num (g1 + 1) w14 (.slice x14 (limbsOf MA).length c14) MA := hv14.mono (by omega)
    have hv9 := ((hv8.gb (gb_set w14 g1 0 none (.bool neg)) (by omega)).gb (gb_set _ g1 1 none (.slice x14 (limbsOf MA).length c14)) (by omega)).gb (gb_set _ g1 2 none (.int .i64 ME)) (by omega)
    have hd7 := ((hk7.set 0 (.bool neg)).set 1 (.slice x14 (limbsOf MA).length c14)).set 2 (.int .i64 ME)
    have o0 := hd7.cell 0 _ rfl
    have o1 := hd7.cell 1 _ rfl
    have o2 := hd7.cell 2 _ rfl
    clear hk8 hk9 k0 k1 k2 k3 k4 hv8 hb6 hb14
    go_wp2_with fail
    exact bodyPost_ret (v := .agg #[.bool neg, .slice x14 (limbsOf MA).length c14, .int .i64 ME]) (by simp [results, Tryz.results70, go_sem, o0, o1, o2]; try rfl) rfl ⟨_, rfl, ⟨_, rfl, (hv9.mono (lo' := w.heap.size) (by omega))⟩, ((hbw7.setCell hg1 _).setCell hg1 _).setCell hg1 _⟩
end Go.Proofs.YtkfbailpifmdcaaGreatDoor
end

section
namespace Go.Proofs.YtkfbailpifmdcaaGreatDoor
set_option exponentiation.threshold 3000 in
theorem huge_at (neg : Bool) {x : Int} (h : 1024 ≤ x) : resultP neg 1 x = (if neg then INFb + 9223372036854775808 else INFb, 20) := by
  have e1 := result_res (m := 1) (x := x) neg (by decide)
  have e2 : ResOf neg (pA 1 x) (pB x) (if neg then INFb + 9223372036854775808 else INFb, 20) := by
    apply res_huge _ (pB_pos _)
    unfold pA pB
    rw [show (-x).toNat = 0 by omega, Nat.pow_zero, Nat.mul_one, Nat.one_mul]
    exact Nat.pow_le_pow_right (by decide) (by omega)
  exact res_value (pB_pos _) (pB_pos _) rfl e1 e2
theorem small_at (neg : Bool) {x : Int} (h : x ≤ -1080) : resultP neg 1 x = (if neg then 9223372036854775808 else 0, 24) := by
  have e1 := result_res (m := 1) (x := x) neg (by decide)
  have e2 : ResOf neg (pA 1 x) (pB x) (if neg then 9223372036854775808 else 0, 24) := by
    apply res_small (by unfold pA; rw [show x.toNat = 0 by omega]; decide)
    unfold pA pB
    rw [show x.toNat = 0 by omega, Nat.pow_zero, Nat.mul_one]
    exact Nat.pow_le_pow_right (by decide) (by unfold e76; omega)
  exact res_value (pB_pos _) (pB_pos _) rfl e1 e2
theorem near_result (neg : Bool) {m : Nat} (x : Int) (hm : m ≠ 0) : nearP neg m x = resultP neg m x := by
  have h0 : (m == 0) = false := beq_eq_false_iff_ne.2 hm
  unfold resultP
  rw [h0]
  simp
/-- The reference's binary number, base 10. -/
def valP (n : Nat) (many e : Int) : Nat × Int :=
  if 400 < many + e then (1, 3000) else if many + e < -400 then (1, -3000) else
  if 0 ≤ e then (fAbs (n * 10 ^ e.toNat), fExp (n * 10 ^ e.toNat) 0) else (fAbs (quoM n (-e).toNat), fExp (quoM n (-e).toNat) (-((quoS n (-e).toNat : Nat) : Int) - 1))
/-- The reference's binary number, base 2. -/
def valT (n : Nat) (e : Int) : Nat × Int :=
  if 3000 < ((bl n : Nat) : Int) + e then (1, 3000) else if ((bl n : Nat) : Int) + e < -3000 then (1, -3000) else (fAbs n, fExp n e)
theorem quoM_ne {n : Nat} (k : Nat) (hn : n ≠ 0) : quoM n k ≠ 0 := by
  intro h0
  unfold quoM at h0
  by_cases hr : n * 2 ^ quoS n k % 10 ^ k = 0
  · rw [if_pos hr] at h0
    have h1 := Nat.div_add_mod (n * 2 ^ quoS n k) (10 ^ k)
    have h2 : n * 2 ^ quoS n k / 10 ^ k = 0 := by omega
    rw [h2, hr] at h1
    exact Nat.mul_ne_zero hn (Nat.ne_of_gt (Nat.pow_pos (n := quoS n k) (Nat.zero_lt_succ 1))) (by rw [← h1, Nat.mul_zero])
  · rw [if_neg hr] at h0
    omega
theorem ten_same (neg : Bool) {n : Nat} (many : Nat) (e : Int) (hn : n ≠ 0) : (valP n many e).1 ≠ 0 ∧ nearP neg (valP n many e).1 (valP n many e).2 = tensP neg n many e := by
  unfold valP tensP
  rw [if_neg hn]
  by_cases h1 : 400 < (many : Int) + e
  · rw [if_pos h1, if_pos h1, near_result neg _ (by decide), huge_at neg (by decide), huge_at neg (by decide)]
    exact ⟨by decide, rfl⟩
  rw [if_neg h1, if_neg h1]
  by_cases h2 : (many : Int) + e < -400
  · rw [if_pos h2, if_pos h2, near_result neg _ (by decide), small_at neg (by decide), small_at neg (by decide)]
    exact ⟨by decide, rfl⟩
  rw [if_neg h2, if_neg h2]
  by_cases h3 : 0 ≤ e
  · rw [if_pos h3, if_pos h3]
    have h := (form_val (x := 0) (Nat.mul_ne_zero hn (Nat.ne_of_gt (Nat.pow_pos (n := e.toNat) (show 0 < 10 by decide))))).1
    rw [near_result neg _ h]
    exact ⟨h, rfl⟩
  · rw [if_neg h3, if_neg h3]
    have h := (form_val (x := 0) (quoM_ne (-e).toNat hn)).1
    rw [near_result neg _ h]
    exact ⟨h, rfl⟩
theorem two_same (neg : Bool) {n : Nat} (e : Int) (hn : n ≠ 0) : (valT n e).1 ≠ 0 ∧ nearP neg (valT n e).1 (valT n e).2 = twosP neg n e := by
  have ht := twos_res (neg := neg) (k := e) hn
  have hb0 := bl_pos hn
  unfold valT
  by_cases h1 : 3000 < ((bl n : Nat) : Int) + e
  · rw [if_pos h1, near_result neg _ (by decide), huge_at neg (by decide)]
    refine ⟨by decide, ?_⟩
    unfold twosP
    rw [if_neg hn, if_pos (show 1200 < ((bl n : Nat) : Int) + e by omega), huge_at neg (by decide)]
  rw [if_neg h1]
  by_cases h2 : ((bl n : Nat) : Int) + e < -3000
  · rw [if_pos h2, near_result neg _ (by decide), small_at neg (by decide)]
    refine ⟨by decide, ?_⟩
    unfold twosP
    rw [if_neg hn, if_neg (show ¬ 1200 < ((bl n : Nat) : Int) + e by omega), if_pos (show ((bl n : Nat) : Int) + e < -1200 by omega), small_at neg (by decide)]
  rw [if_neg h2]
  obtain ⟨h3, _⟩ := form_val (x := e) hn
  rw [near_result neg _ h3]
  exact ⟨h3, res_value (pB_pos _) (pB_pos _) rfl (form_res neg hn) ht⟩
end Go.Proofs.YtkfbailpifmdcaaGreatDoor
end

section
namespace Go.Proofs.YtkfbailpifmdcaaGreatDoor
open Go.RowKit

theorem bl_fAbs (m : Nat) : bl (fAbs m) ≤ bl m := bl_mono (fAbs_le m)
theorem fExp_in {m : Nat} (hm : m ≠ 0) (x : Int) : x ≤ fExp m x ∧ fExp m x ≤ x + ((bl m : Nat) : Int) := by
  have := tz_le hm
  unfold fExp
  rw [if_neg hm]
  omega
theorem valP_fits {n many : Nat} {e : Int} (hn : n ≠ 0) (hnb : bl n ≤ 20000) (hm : many ≤ 5000) :
    bl (valP n many e).1 ≤ 100000 ∧ -100000 ≤ (valP n many e).2 ∧ (valP n many e).2 ≤ 100000 := by
  have hb1 : bl 1 ≤ 1 := by have := bl_two 0; rw [Nat.pow_zero] at this; omega
  unfold valP
  by_cases h1 : 400 < (many : Int) + e
  · rw [if_pos h1]; exact ⟨by show bl 1 ≤ _; omega, by decide, by decide⟩
  rw [if_neg h1]
  by_cases h2 : (many : Int) + e < -400
  · rw [if_pos h2]; exact ⟨by show bl 1 ≤ _; omega, by decide, by decide⟩
  rw [if_neg h2]
  by_cases h3 : 0 ≤ e
  · rw [if_pos h3]
    have q1 := bl_mul3 n (10 ^ e.toNat)
    have q2 := bl_ten3 (Nat.le_refl (10 ^ e.toNat))
    have q3 := bl_fAbs (n * 10 ^ e.toNat)
    have q4 := fExp_in (Nat.mul_ne_zero hn (Nat.ne_of_gt (Nat.pow_pos (n := e.toNat) (show 0 < 10 by decide)))) 0
    exact ⟨by show bl (fAbs _) ≤ _; omega, by show _ ≤ fExp _ _; omega, by show fExp _ _ ≤ _; omega⟩
  · rw [if_neg h3]
    have q1 := quoM_bl n (-e).toNat
    have q2 := bl_ten3 (Nat.le_refl (10 ^ (-e).toNat))
    have q3 := bl_fAbs (quoM n (-e).toNat)
    have q4 := fExp_in (quoM_ne (-e).toNat hn) (-((quoS n (-e).toNat : Nat) : Int) - 1)
    have q5 : quoS n (-e).toNat ≤ 80 + bl (10 ^ (-e).toNat) := by unfold quoS; omega
    exact ⟨by show bl (fAbs _) ≤ _; omega, by show _ ≤ fExp _ _; omega, by show fExp _ _ ≤ _; omega⟩
theorem valT_fits {n : Nat} {e : Int} (hn : n ≠ 0) (hnb : bl n ≤ 20000) :
    bl (valT n e).1 ≤ 100000 ∧ -100000 ≤ (valT n e).2 ∧ (valT n e).2 ≤ 100000 := by
  have hb1 : bl 1 ≤ 1 := by have := bl_two 0; rw [Nat.pow_zero] at this; omega
  unfold valT
  by_cases h1 : 3000 < ((bl n : Nat) : Int) + e
  · rw [if_pos h1]; exact ⟨by show bl 1 ≤ _; omega, by decide, by decide⟩
  rw [if_neg h1]
  by_cases h2 : ((bl n : Nat) : Int) + e < -3000
  · rw [if_pos h2]; exact ⟨by show bl 1 ≤ _; omega, by decide, by decide⟩
  rw [if_neg h2]
  have q3 := bl_fAbs n
  have q4 := fExp_in hn e
  exact ⟨by show bl (fAbs _) ≤ _; omega, by show _ ≤ fExp _ _; omega, by show fExp _ _ ≤ _; omega⟩

theorem value28_ten (lo : Nat) (neg : Bool) (a : Value) (n many : Nat) (e : Int) (w : World) (ha : Num lo w a n) (hn : n ≠ 0) (hnb : bl n ≤ 20000) (hm : many ≤ 5000) (he1 : -1000000 ≤ e) (he2 : e ≤ 1000000) :
    Calls Tryz.prog 70 #[.agg #[.bool neg, a, .int .i64 ((many : Nat) : Int), .int .i64 e, .int .i64 10]] w (DyPost w neg (valP n many e).1 (valP n many e).2) := by
  unfold valP
  by_cases h1 : 400 < (many : Int) + e
  · rw [if_pos h1]; exact value28_far lo neg a n many e w ha hn (by omega) (by omega) he1 he2 h1
  rw [if_neg h1]
  by_cases h2 : (many : Int) + e < -400
  · rw [if_pos h2]; exact value28_near lo neg a n many e w ha hn (by omega) (by omega) he1 he2 h1 h2
  rw [if_neg h2]
  by_cases h3 : 0 ≤ e
  · rw [if_pos h3]
    obtain ⟨j, rfl⟩ : ∃ j : Nat, e = (j : Int) := ⟨e.toNat, by omega⟩
    rw [Int.toNat_natCast]
    exact value28_pos lo neg a n many j w ha hn (by omega) (by omega) (by omega) he2 h1
  · rw [if_neg h3]
    exact value28_neg lo neg a n many e w ha hn (by omega) (by omega) (by omega) he1 he2 h1 h2 (-e).toNat (by omega) (by omega)
theorem value28_two (lo : Nat) (neg : Bool) (a : Value) (n : Nat) (e : Int) (w : World) (ha : Num lo w a n) (hn : n ≠ 0) (hnb : bl n ≤ 20000) (he1 : -1000000 ≤ e) (he2 : e ≤ 1000000) :
    Calls Tryz.prog 70 #[.agg #[.bool neg, a, .int .i64 0, .int .i64 e, .int .i64 2]] w (DyPost w neg (valT n e).1 (valT n e).2) := by
  unfold valT
  by_cases h1 : 3000 < ((bl n : Nat) : Int) + e
  · rw [if_pos h1]; exact value28_two_far lo neg a n e w ha hn (by omega) he1 he2 h1
  rw [if_neg h1]
  by_cases h2 : ((bl n : Nat) : Int) + e < -3000
  · rw [if_pos h2]; exact value28_two_near lo neg a n e w ha hn (by omega) he1 he2 h2
  rw [if_neg h2]
  exact value28_two_mid lo neg a n e w ha hn (by omega) he1 he2 (by omega) (by omega)

def Res28 (R : Nat × Nat) (w : World) (e : Ending) (w' : World) : Prop := e = .returned (.agg #[.int .u64 ((R.1 : Nat) : Int), .int .u8 ((R.2 : Nat) : Int)]) ∧ Below w.heap.size w w'

set_option maxRecDepth 100000 in
set_option maxHeartbeats 600000 in
theorem rounded28_gen (lo : Nat) (neg : Bool) (a : Value) (n : Nat) (many e base : Int) (w : World) (m : Nat) (x : Int) (R : Nat × Nat) (ha : Num lo w a n)
    (hV : n ≠ 0 → ∀ w', Num lo w' a n → Calls Tryz.prog 70 #[.agg #[.bool neg, a, .int .i64 many, .int .i64 e, .int .i64 base]] w' (DyPost w' neg m x))
    (hR : n ≠ 0 → ∀ lo w' v, Dy lo w' v neg m x → Calls Tryz.prog 69 #[v] w' (Res28 R w'))
    (h0 : n = 0 → R = (if neg then 9223372036854775808 else 0, 0)) :
    Calls Tryz.prog 32 #[.agg #[.bool neg, a, .int .i64 many, .int .i64 e, .int .i64 base]] w (Res28 R w) := by
  obtain ⟨px, cx, rfl⟩ := num_slice ha
  have hz := @limbsOf_len_zero n
  have hba := ((Below.refl w.heap.size w).alloc (Nat.le_refl _) (.cells #[.bool neg, .slice px (limbsOf n).length cx, .int .i64 many, .int .i64 e, .int .i64 base] 53)).alloc (by simp) (.cells #[.int .u64 0, .int .u8 0] 25)
  have hk0 := (Blk.new w #[.bool neg, .slice px (limbsOf n).length cx, .int .i64 many, .int .i64 e, .int .i64 base] 53).alloc (.cells #[.int .u64 0, .int .u8 0] 25)
  have hk1 := Blk.new (w.alloc (.cells #[.bool neg, .slice px (limbsOf n).length cx, .int .i64 many, .int .i64 e, .int .i64 base] 53)) #[.int .u64 0, .int .u8 0] 25
  rw [show (w.alloc (.cells #[.bool neg, .slice px (limbsOf n).length cx, .int .i64 many, .int .i64 e, .int .i64 base] 53)).heap.size = w.heap.size + 1 by simp] at hk1
  have ha1 := ha.call hba
  have HV := Lib.hid hV
  have HR := Lib.hid hR
  have H0 := Lib.hid h0
  clear ha hV hR h0
  unfold Res28
  obtain ⟨r1, r2⟩ := R
  go_enter Tryz.func32, Tryz.ntmps32
  go_upto_region 1 with fail
  have k0 := hk0.cell 0 _ rfl
  have k1 := hk0.cell 1 _ rfl
  have k2 := hk0.cell 2 _ rfl
  have k3 := hk0.cell 3 _ rfl
  have k4 := hk0.cell 4 _ rfl
  have c0 := hk1.cell 0 _ rfl
  have c1 := hk1.cell 1 _ rfl
  have f0 := hk1.free 0
  have f1 := hk1.free 1
  have hg : w.heap.size ≤ w.heap.size + 1 := by omega
  by_cases hn : n = 0
  · have hr := H0.out hn
    have e0 : (((limbsOf n).length : Int) == 0) = true := beq_iff_eq.2 (by have := hz.2 hn; omega)
    clear hn H0 HV HR
    cases neg with
    | true =>
      obtain ⟨rfl, rfl⟩ := Prod.mk.inj hr
      go_wp2_with fail
      exact bodyPost_ret (v := .agg #[.int .u64 9223372036854775808, .int .u8 0]) (by simp [results, Tryz.results32, go_sem]) rfl ⟨rfl, ((Below.refl w.heap.size w).alloc (Nat.le_refl _) _).alloc (by simp) _⟩
    | false =>
      obtain ⟨rfl, rfl⟩ := Prod.mk.inj hr
      go_wp2_with fail
      exact bodyPost_ret (v := .agg #[.int .u64 0, .int .u8 0]) (by simp [results, Tryz.results32, go_sem]) rfl ⟨rfl, ((Below.refl w.heap.size w).alloc (Nat.le_refl _) _).alloc (by simp) _⟩
  · have e0 : (((limbsOf n).length : Int) == 0) = false := beq_eq_false_iff_ne.2 (by have := mt hz.1 hn; omega)
    have hV := HV.out hn
    have hR := HR.out hn
    have HV2 := Lib.hid hV
    have HR2 := Lib.hid hR
    clear hn H0 HV HR hV hR
    go_wp2_with fail
    refine (HV2.out _ ha1).mono ?_
    rintro en w2 ⟨v2, rfl, hd2, hb2⟩
    obtain ⟨a2, rfl, hn2⟩ := hd2
    obtain ⟨x2, c2, rfl⟩ := num_slice hn2
    have hb12 := hba.trans (hb2.mono hba.size)
    clear k0 k1 k2 k3 k4
    go_wp2_with fail
    refine (HR2.out _ _ _ ⟨_, rfl, hn2⟩).mono ?_
    rintro en w3 ⟨rfl, hb3⟩
    have hb13 := hb12.trans (hb3.mono hb12.size)
    have hk3 := (hk1.call hb2).call hb3
    clear c0 c1 f0 f1
    have c0 := hk3.cell 0 _ rfl
    have c1 := hk3.cell 1 _ rfl
    have f0 := hk3.free 0
    have f1 := hk3.free 1
    go_wp2_with fail
    have hq := (hk3.set 0 (.int .u64 ((r1 : Nat) : Int))).set 1 (.int .u8 ((r2 : Nat) : Int))
    have o0 := hq.cell 0 _ rfl
    have o1 := hq.cell 1 _ rfl
    exact bodyPost_ret (v := .agg #[.int .u64 ((r1 : Nat) : Int), .int .u8 ((r2 : Nat) : Int)]) (by simp [results, Tryz.results32, go_sem, o0, o1]; try rfl) rfl ⟨rfl, (hb13.setCell hg _).setCell hg _⟩

theorem tens_zero (neg : Bool) (d : Nat) (e : Int) : tensP neg 0 d e = (if neg then 9223372036854775808 else 0, 0) := by
  unfold tensP; rw [if_pos rfl]; cases neg <;> rfl
theorem twos_zero (neg : Bool) (e : Int) : twosP neg 0 e = (if neg then 9223372036854775808 else 0, 0) := by
  unfold twosP; rw [if_pos rfl]; cases neg <;> rfl

theorem rounded28_ten (lo : Nat) (neg : Bool) (a : Value) (n many : Nat) (e : Int) (w : World) (ha : Num lo w a n) (hnb : bl n ≤ 20000) (hm : many ≤ 5000) (he1 : -1000000 ≤ e) (he2 : e ≤ 1000000) :
    Calls Tryz.prog 32 #[.agg #[.bool neg, a, .int .i64 ((many : Nat) : Int), .int .i64 e, .int .i64 10]] w (Res28 (tensP neg n many e) w) := by
  refine rounded28_gen lo neg a n many e 10 w (valP n many e).1 (valP n many e).2 _ ha (fun hn w' h => value28_ten lo neg a n many e w' h hn hnb hm he1 he2) (fun hn lo w' v hd => ?_) (fun hn => by rw [hn]; exact tens_zero _ _ _)
  obtain ⟨h1, h2⟩ := ten_same neg many e hn
  obtain ⟨h3, h4, h5⟩ := valP_fits (e := e) hn hnb hm
  have h := Round05_any lo v neg _ _ w' hd h3 h4 h5 h1
  rw [h2] at h
  exact h
theorem rounded28_two (lo : Nat) (neg : Bool) (a : Value) (n : Nat) (e : Int) (w : World) (ha : Num lo w a n) (hnb : bl n ≤ 20000) (he1 : -1000000 ≤ e) (he2 : e ≤ 1000000) :
    Calls Tryz.prog 32 #[.agg #[.bool neg, a, .int .i64 0, .int .i64 e, .int .i64 2]] w (Res28 (twosP neg n e) w) := by
  refine rounded28_gen lo neg a n 0 e 2 w (valT n e).1 (valT n e).2 _ ha (fun hn w' h => value28_two lo neg a n e w' h hn hnb he1 he2) (fun hn lo w' v hd => ?_) (fun hn => by rw [hn]; exact twos_zero _ _)
  obtain ⟨h1, h2⟩ := two_same neg e hn
  obtain ⟨h3, h4, h5⟩ := valT_fits (e := e) hn hnb
  have h := Round05_any lo v neg _ _ w' hd h3 h4 h5 h1
  rw [h2] at h
  exact h
end Go.Proofs.YtkfbailpifmdcaaGreatDoor
end

section
namespace Go.Proofs.YtkfbailpifmdcaaGreatDoor
open Go.RowKit

set_option maxRecDepth 100000 in
theorem lower28_any (c : UInt8) (w : World) :
    Calls Tryz.prog 67 #[.int .u8 ((c.toNat : Nat) : Int)] w fun e w' => e = .returned (.int .u8 (((lowB c).toNat : Nat) : Int)) ∧ w' = w := by
  have hlow := lowB_eq c
  have hc := c.toNat_lt
  generalize (lowB c).toNat = d at *
  generalize c.toNat = c at *
  by_cases h1 : 65 ≤ c
  · by_cases h2 : c ≤ 90
    · rw [if_pos ⟨h1, h2⟩] at hlow
      have h1i : (65 : Int) ≤ ((c : Nat) : Int) := by omega
      have h2i : ((c : Nat) : Int) ≤ 90 := by omega
      go_enter Tryz.func67, Tryz.ntmps67
      go_wp2_with fail
      go_ret
      exact ⟨congrArg (fun x => Ending.returned (Value.int .u8 x)) (by omega), rfl⟩
    · rw [if_neg (by omega)] at hlow
      have h1i : (65 : Int) ≤ ((c : Nat) : Int) := by omega
      have h2i : (90 : Int) < ((c : Nat) : Int) := by omega
      go_enter Tryz.func67, Tryz.ntmps67
      go_wp2_with fail
      go_ret
      exact ⟨congrArg (fun x => Ending.returned (Value.int .u8 x)) (by omega), rfl⟩
  · rw [if_neg (by omega)] at hlow
    have h1i : ((c : Nat) : Int) < 65 := by omega
    go_enter Tryz.func67, Tryz.ntmps67
    go_wp2_with fail
    go_ret
    exact ⟨congrArg (fun x => Ending.returned (Value.int .u8 x)) (by omega), rfl⟩

/-- What a byte is to the reference; 99: none. -/
def dig3 (hex : Bool) (c : Nat) : Nat := if 48 ≤ c ∧ c ≤ 57 then c - 48 else if hex ∧ 97 ≤ c ∧ c ≤ 102 then c - 87 else 99

set_option maxRecDepth 100000 in
theorem digit28_any (hex : Bool) (c : Nat) (w : World) (hc : c < 256) :
    Calls Tryz.prog 96 #[.int .u8 ((c : Nat) : Int), .int .i64 (if hex then 16 else 10)] w fun e w' => e = .returned (.int .i64 ((dig3 hex c : Nat) : Int)) ∧ w' = w := by
  obtain ⟨d, hd⟩ : ∃ d, dig3 hex c = d := ⟨_, rfl⟩
  rw [hd]
  unfold dig3 at hd
  by_cases h1 : 48 ≤ c
  · have h1i : (48 : Int) ≤ ((c : Nat) : Int) := by omega
    by_cases h2 : c ≤ 57
    · have h2i : ((c : Nat) : Int) ≤ 57 := by omega
      rw [if_pos ⟨h1, h2⟩] at hd
      cases hex with
      | false =>
        go_enter Tryz.func96, Tryz.ntmps96
        go_wp2_with fail
        go_ret
        exact ⟨congrArg (fun x => Ending.returned (Value.int .i64 x)) (by omega), rfl⟩
      | true =>
        go_enter Tryz.func96, Tryz.ntmps96
        go_wp2_with fail
        go_ret
        exact ⟨congrArg (fun x => Ending.returned (Value.int .i64 x)) (by omega), rfl⟩
    · have h2i : (57 : Int) < ((c : Nat) : Int) := by omega
      rw [if_neg (by omega)] at hd
      cases hex with
      | false =>
        rw [if_neg (by simp)] at hd
        subst hd
        go_enter Tryz.func96, Tryz.ntmps96
        go_wp2_with fail
        go_ret
        exact ⟨rfl, rfl⟩
      | true =>
        by_cases h3 : 97 ≤ c
        · have h3i : (97 : Int) ≤ ((c : Nat) : Int) := by omega
          by_cases h4 : c ≤ 102
          · have h4i : ((c : Nat) : Int) ≤ 102 := by omega
            rw [if_pos ⟨rfl, h3, h4⟩] at hd
            go_enter Tryz.func96, Tryz.ntmps96
            go_wp2_with fail
            go_ret
            exact ⟨congrArg (fun x => Ending.returned (Value.int .i64 x)) (by omega), rfl⟩
          · have h4i : (102 : Int) < ((c : Nat) : Int) := by omega
            rw [if_neg (by omega)] at hd
            subst hd
            go_enter Tryz.func96, Tryz.ntmps96
            go_wp2_with fail
            go_ret
            exact ⟨rfl, rfl⟩
        · have h3i : ((c : Nat) : Int) < 97 := by omega
          rw [if_neg (by omega)] at hd
          subst hd
          go_enter Tryz.func96, Tryz.ntmps96
          go_wp2_with fail
          go_ret
          exact ⟨rfl, rfl⟩
  · have h1i : ((c : Nat) : Int) < 48 := by omega
    have h2i : ((c : Nat) : Int) < 97 := by omega
    rw [if_neg (by omega), if_neg (by omega)] at hd
    subst hd
    cases hex with
    | false =>
      go_enter Tryz.func96, Tryz.ntmps96
      go_wp2_with fail
      go_ret
      exact ⟨rfl, rfl⟩
    | true =>
      go_enter Tryz.func96, Tryz.ntmps96
      go_wp2_with fail
      go_ret
      exact ⟨rfl, rfl⟩

set_option maxRecDepth 100000 in
set_option maxHeartbeats 2000000 in
theorem small28_any (s : ByteArray) (w : World) (hs : s.size ≤ 100000) :
    Calls Tryz.prog 30 #[.string s] w fun e w' => e = .returned (.string ⟨(smallL s.data.toList).toArray⟩) ∧ Below w.heap.size w w' := by
  obtain ⟨W1, cap, hconv0, hby, hbw, hlt, hcap⟩ := bytes_new w s
  have hconv := hconv0 9 81 Tryz.underlying9 Tryz.underlying81
  have hcap := Lib.hid hcap
  have hsl : s.size = s.data.toList.length := by simp
  have HSL := Lib.hid hsl
  clear hconv0 hsl
  go_enter Tryz.func30, Tryz.ntmps30
  go_wp2_with fail
  go_loopw [4] (fun u4 wr => ∃ i : Nat, i ≤ s.size ∧ u4 = .int .i64 ((i : Nat) : Int) ∧ BytesAt wr w.heap.size s.size (fun j => if j < i then lowB (byteAt s j) else byteAt s j) ∧ Below w.heap.size w wr) (fun u4 _ => s.size - (intOf u4).toNat)
  case atStart => exact ⟨0, Nat.zero_le _, rfl, by simpa using hby, hbw⟩
  case round =>
    clear hby hbw
    obtain ⟨i, hi, rfl, hby, hbw⟩ := hrel
    by_cases hil : i < s.size
    · obtain ⟨hc, hf⟩ := hby i hil
      simp only [Nat.lt_irrefl, if_false] at hc
      have hili : ((i : Nat) : Int) < ((s.size : Nat) : Int) := by omega
      have hby2 := hby.set (i := i) (f' := fun j => if j < i + 1 then lowB (byteAt s j) else byteAt s j) (x := ((lowB (byteAt s i)).toNat : Int)) hil (by
        simp only [Nat.lt_succ_self, if_true]) (fun j hj => by
          by_cases hji : j < i
          · simp only [if_pos hji, if_pos (show j < i + 1 by omega)]
          · simp only [if_neg hji, if_neg (show ¬ j < i + 1 by omega)])
      have HB := Lib.hid hby2
      have hL := fun w => lower28_any (byteAt s i) w
      generalize (lowB (byteAt s i)).toNat = d at *
      generalize (byteAt s i).toNat = c at *
      have HL := Lib.hid hL
      clear hby hby2 hconv hL
      go_wp2_with fail
      refine (HL.out _).mono ?_
      rintro en w4 ⟨rfl, hw⟩
      subst hw
      go_wp2_with fail
      go_roundw
      case rel => exact ⟨i + 1, by omega, by go_num, HB.out, hbw.setCell (Nat.le_refl _) _⟩
      case measure => simp [intOf]; omega
    · have hie : i = s.size := by omega
      subst hie
      have hlen : (smallL s.data.toList).length = s.size := by simp [smallL]
      have hback := run_convert_bytes_back (P := Tryz.prog) wr 81 9 5 ⟨w.heap.size, 0, none⟩ cap (smallL s.data.toList) Tryz.underlying81 Tryz.underlying5 Tryz.underlying9 (fun j hj => by
        have h := (hby j (by omega)).1
        simp only [if_pos (show j < s.size by omega)] at h
        have e1 : (⟨w.heap.size, 0, none⟩ : Addr).add j = ⟨w.heap.size, j, none⟩ := by by_cases h0 : j = 0 <;> simp [Addr.add, h0]
        have e2 : (smallL s.data.toList)[j] = lowB (byteAt s j) := by
          have hj2 : j < s.data.size := (by omega : j < s.size)
          simp [smallL, byteAt, List.getD, Array.getElem?_eq_getElem hj2]
        rw [e1, e2, h])
      rw [hlen] at hback
      clear hby hconv
      go_wp2_with fail
      go_ret
      exact ⟨rfl, hbw⟩
end Go.Proofs.YtkfbailpifmdcaaGreatDoor
end
