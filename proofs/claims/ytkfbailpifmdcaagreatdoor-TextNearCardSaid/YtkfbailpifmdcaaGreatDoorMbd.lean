/- RefZ RefAA LawK -/
import Derived.Test.YtkfbailpifmdcaaGreatDoorMbc
import Derived.Test.YtkfbailpifmdcaaGreatDoorMar
section
namespace Go.Proofs.YtkfbailpifmdcaaGreatDoor
open Go.RowKit

theorem read28_any (s : ByteArray) (w : World) (hs : s.size ≤ 4096) (hlow : ∀ c ∈ s.data.toList, ¬ (65 ≤ c.toNat ∧ c.toNat ≤ 90)) :
    Calls Tryz.prog 31 #[.string s] w (Read28 s w) := by
  cases hx : Lib.hasPrefix s.data.toList [48, 120] with
  | true => exact read28_hex s w hs hx hlow
  | false => exact read28_dec s w hs hx

def Use28 (neg : Bool) (s : ByteArray) (w : World) (e : Ending) (w' : World) : Prop :=
  Below w.heap.size w w' ∧
  ((numberP neg s.data.toList = none ∧ e = .returned (.tuple #[.agg #[.bool false, .slice none 0 0, .int .i64 0, .int .i64 0, .int .i64 0], .bool false])) ∨
   ∃ (R : Nat × Nat) (a : Value) (n : Nat) (x1 x2 x3 : Int), numberP neg s.data.toList = some R ∧ Num 0 w' a n ∧ e = .returned (.tuple #[.agg #[.bool false, a, .int .i64 x1, .int .i64 x2, .int .i64 x3], .bool true]) ∧
     ∀ w2, Num 0 w2 a n → Calls Tryz.prog 32 #[.agg #[.bool neg, a, .int .i64 x1, .int .i64 x2, .int .i64 x3]] w2 (Res28 R w2))

theorem end3_in (hex : Bool) (r : List UInt8) : -100000 ≤ (end3P hex r).1 ∧ (end3P hex r).1 ≤ 100000 := by
  cases r with
  | nil => exact ⟨by show -100000 ≤ (0 : Int); decide, by show (0 : Int) ≤ 100000; decide⟩
  | cons c t =>
    unfold end3P
    dsimp only
    by_cases h : c = endB hex
    · simp only [if_pos h]; exact exp3P_in t
    · simp [if_neg h]

theorem use28_any (neg : Bool) (s : ByteArray) (w : World) (hs : s.size ≤ 4096) (hlow : ∀ c ∈ s.data.toList, ¬ (65 ≤ c.toNat ∧ c.toNat ≤ 90)) :
    Calls Tryz.prog 31 #[.string s] w (Use28 neg s w) := by
  refine (read28_any s w hs hlow).mono ?_
  rintro e w' ⟨hb, h⟩
  refine ⟨hb, ?_⟩
  rw [read_same neg s hs]
  rcases h with ⟨h1, rfl⟩ | ⟨⟨h1, h2⟩, a, ha, rfl⟩
  · exact Or.inl ⟨by rw [if_pos h1], rfl⟩
  · right
    have h3 : ¬ ((read3 s).1 = [] ∨ (read3E s).2 = false) := by
      rintro (h | h)
      · exact h1 h
      · rw [h] at h2; cases h2
    rw [if_neg h3]
    have hin := end3_in (Lib.hasPrefix s.data.toList [48, 120]) (read3 s).2.2
    have hE : read3E s = end3P (Lib.hasPrefix s.data.toList [48, 120]) (read3 s).2.2 := rfl
    rw [← hE] at hin
    have hdig := scanL_digit (Lib.hasPrefix s.data.toList [48, 120]) false (s.data.toList.drop (preN (Lib.hasPrefix s.data.toList [48, 120])))
    have hlen := scanL_len (Lib.hasPrefix s.data.toList [48, 120]) false (s.data.toList.drop (preN (Lib.hasPrefix s.data.toList [48, 120])))
    have hr : scanL (Lib.hasPrefix s.data.toList [48, 120]) false (s.data.toList.drop (preN (Lib.hasPrefix s.data.toList [48, 120]))) = read3 s := rfl
    rw [hr] at hdig hlen
    have hsz : s.data.toList.length = s.size := by simp
    rw [List.length_drop, hsz] at hlen
    have hb4 : (read3 s).2.1 ≤ 4096 := by omega
    have hl4 : (read3 s).1.length ≤ 4096 := by omega
    clear hr hE hlen hsz
    generalize Lib.hasPrefix s.data.toList [48, 120] = H at *
    cases H with
    | true =>
      simp only [if_true] at hdig ⊢
      have hN := natL_bl (base := 16) (by decide) _ hdig
      exact ⟨_, a, _, _, _, _, rfl, ha, rfl, fun w2 h => rounded28_two 0 neg a _ _ w2 h (by omega) (by omega) (by omega)⟩
    | false =>
      simp only [Bool.false_eq_true, if_false] at hdig ⊢
      have hN := natL_bl (base := 10) (by decide) _ hdig
      have hM : many3 (natL 10 (read3 s).1) ≤ 4096 := by
        unfold many3
        split
        · omega
        · rcases Nat.eq_zero_or_pos (read3 s).1.length with h | h
          · exact absurd (List.eq_nil_of_length_eq_zero h) h1
          · exact Nat.le_trans (dec_len_le _ _ h (natL_lt _ hdig)) hl4
      exact ⟨_, a, _, _, _, _, rfl, ha, rfl, fun w2 h => rounded28_ten 0 neg a _ (many3 (natL 10 (read3 s).1)) _ w2 h (by omega) (by omega) (by omega) (by omega)⟩
end Go.Proofs.YtkfbailpifmdcaaGreatDoor
end

section
namespace Go.Proofs.YtkfbailpifmdcaaGreatDoor
open Go.RowKit

theorem small_low (l : List UInt8) : ∀ c ∈ smallL l, ¬ (65 ≤ c.toNat ∧ c.toNat ≤ 90) := by
  intro c hc
  obtain ⟨x, _, rfl⟩ := List.mem_map.1 hc
  have := lowB_eq x
  by_cases h : 65 ≤ x.toNat ∧ x.toNat ≤ 90
  · rw [if_pos h] at this; omega
  · rw [if_neg h] at this; omega
theorem body_exp (u : List UInt8) : bodyL u = expT u := by
  unfold bodyL expT Lib.trimPrefix
  cases h : Lib.hasPrefix u [45] with
  | true => simp
  | false => simp
theorem body_sub (u : List UInt8) : ∀ c ∈ bodyL u, c ∈ u := by
  rw [body_exp]
  unfold expT
  intro c hc
  split at hc
  · exact List.mem_of_mem_drop hc
  · exact hc

set_option maxRecDepth 1000000 in
set_option maxHeartbeats 1000000 in
theorem Parse28_any (s : ByteArray) (w : World) :
    Calls Tryz.prog 10 #[.string s] w fun e w' => e = .returned (.tuple #[.agg #[.int .u64 (((parseP s.data.toList).1.1 : Nat) : Int), .int .u8 (((parseP s.data.toList).1.2 : Nat) : Int)], .int .i64 (((parseP s.data.toList).2 : Nat) : Int)]) ∧ Below w.heap.size w w' := by
  obtain ⟨R, hR⟩ : ∃ R, parseP s.data.toList = R := ⟨_, rfl⟩
  rw [hR]
  have hsl : s.data.toList.length = s.size := by simp
  unfold parseP at hR
  rw [hsl] at hR
  have HR := Lib.hid hR
  have hb1 := (Below.refl w.heap.size w).alloc (Nat.le_refl _) (.cells #[.int .u64 0, .int .u8 0] 25)
  have hk1 := Blk.new w #[.int .u64 0, .int .u8 0] 25
  clear hR hsl
  by_cases hlong : 4096 < s.size
  · have hr := HR.out
    rw [if_pos hlong] at hr
    subst hr
    clear HR
    have hli : (4096 : Int) < ((s.size : Nat) : Int) := by omega
    go_enter Tryz.func10, Tryz.ntmps10
    go_wp2_with fail
    have o0 := hk1.cell 0 _ rfl
    have o1 := hk1.cell 1 _ rfl
    exact bodyPost_ret (v := .tuple #[.agg #[.int .u64 0, .int .u8 0], .int .i64 4]) (by simp [results, Tryz.results10, go_sem, o0, o1]; try rfl) rfl ⟨rfl, hb1⟩
  have hr := HR.out
  rw [if_neg hlong] at hr
  have hli : ((s.size : Nat) : Int) ≤ 4096 := by omega
  obtain ⟨u, hu⟩ : ∃ u : ByteArray, (⟨(smallL s.data.toList).toArray⟩ : ByteArray) = u := ⟨_, rfl⟩
  have hul : smallL s.data.toList = u.data.toList := by rw [← hu]
  obtain ⟨neg, hneg⟩ : ∃ b, Lib.hasPrefix u.data.toList [45] = b := ⟨_, rfl⟩
  obtain ⟨plus, hplus⟩ : ∃ b, Lib.hasPrefix u.data.toList [43] = b := ⟨_, rfl⟩
  obtain ⟨t, ht⟩ : ∃ t : ByteArray, t.data.toList = bodyL u.data.toList := ⟨⟨(bodyL u.data.toList).toArray⟩, rfl⟩
  rw [hul, hneg, ← ht] at hr
  have HR2 := Lib.hid hr
  have hlow : ∀ c ∈ t.data.toList, ¬ (65 ≤ c.toNat ∧ c.toNat ≤ 90) := by
    intro c hc
    rw [ht] at hc
    have := body_sub _ c hc
    rw [← hul] at this
    exact small_low _ c this
  have HLOW := Lib.hid hlow
  have hts : t.size ≤ 4096 := by
    have h1 : t.size = t.data.toList.length := by simp
    have h2 : u.data.toList.length = s.size := by rw [← hul]; simp [smallL]
    rw [h1, ht, body_exp]
    unfold expT
    split
    · rw [List.length_drop]; omega
    · omega
  have HN := Lib.hid hneg
  have HP := Lib.hid hplus
  have HT := Lib.hid ht
  clear HR hr hlow ht hneg hplus hul
  go_enter Tryz.func10, Tryz.ntmps10
  go_wp2_with fail
  refine (small28_any s _ (by omega)).mono ?_
  rintro e w1 ⟨rfl, hb2⟩
  rw [hu]
  have hb3 := hb1.trans (hb2.mono hb1.size)
  have hk2 := hk1.call hb2
  clear hk1 hu
  go_upto_region 5 with fail
  go_cut [26] (fun u26 wx => u26 = .bool (neg || plus) ∧ wx = w1)
  case first =>
    by_cases hz : 0 < u.size
    · have hzi : u.toList.isEmpty = false := by
        rw [bytes_empty]
        cases h : u.data.isEmpty with
        | true => have h9 : u.data.size = 0 := by rw [Array.isEmpty_iff.1 h]; rfl
                  exact absurd hz (by show ¬ 0 < u.data.size; omega)
        | false => rfl
      have hzs : (0 : Int) < ((u.size : Nat) : Int) := by omega
      have h1 := HN.out
      have h2 := HP.out
      rw [head_prefix hz] at h1 h2
      have hb := (u[0]'hz).toNat_lt
      by_cases h43 : u[0]'hz = 43
      · have e43 : (((u[0]'hz).toNat : Nat) : Int) = 43 := by rw [h43]; rfl
        have hp : plus = true := by rw [← h2, h43]; rfl
        subst hp
        clear h1 h2 h43
        go_wp2_with fail
        go_meet
        exact ⟨by simp, rfl⟩
      · have e43 : ¬ (((u[0]'hz).toNat : Nat) : Int) = 43 := fun h => h43 (UInt8.toNat_inj.1 (by show (u[0]'hz).toNat = 43; omega))
        have hp : plus = false := by rw [← h2]; exact beq_eq_false_iff_ne.2 (fun h => h43 h.symm)
        subst hp
        have h3 : (((u[0]'hz).toNat : Nat) : Int) = 45 ↔ neg = true := by
          rw [← h1, beq_iff_eq]
          exact ⟨fun h => (UInt8.toNat_inj.1 (by show (u[0]'hz).toNat = 45; omega)).symm, fun h => by rw [← h]; rfl⟩
        cases neg with
        | true =>
          have e45 := h3.2 rfl
          clear h1 h2 h3 h43
          go_wp2_with fail
          go_meet
          exact ⟨rfl, rfl⟩
        | false =>
          have e45 : ¬ (((u[0]'hz).toNat : Nat) : Int) = 45 := fun h => by have := h3.1 h; cases this
          clear h1 h2 h3 h43
          go_wp2_with fail
          go_meet
          exact ⟨by simp [beq_eq_false_iff_ne.2 e43, beq_eq_false_iff_ne.2 e45], rfl⟩
    · have hzi : u.toList.isEmpty = true := by
        rw [bytes_empty]
        have h9 : u.data.size = 0 := by have : u.size = u.data.size := rfl
                                        omega
        exact Array.isEmpty_iff.2 (Array.eq_empty_of_size_eq_zero h9)
      have h1 := HN.out
      have h2 := HP.out
      rw [nil_prefix hz] at h1 h2
      subst h1 h2
      go_wp2_with fail
      go_meet
      exact ⟨rfl, rfl⟩
  case rest =>
    obtain ⟨rfl, rfl⟩ := hcut
    go_upto_if 26 with fail
    go_cut [4, 5] (fun u4 u5 wx => u4 = .string t ∧ u5 = .bool neg ∧ wx = wc)
    case first =>
      cases hnp : (neg || plus) with
      | true =>
        have h1 : 1 ≤ u.size := prefix_one (by rw [HN.out, HP.out]; exact hnp)
        have hz : 0 < u.size := h1
        have h1i : (1 : Int) ≤ ((u.size : Nat) : Int) := by omega
        have hzi : (0 : Int) < ((u.size : Nat) : Int) := by omega
        have hb := (u[0]'hz).toNat_lt
        have h3 : (((u[0]'hz).toNat : Nat) : Int) = 45 ↔ neg = true := by
          rw [← HN.out, head_prefix hz, beq_iff_eq]
          exact ⟨fun h => (UInt8.toNat_inj.1 (by show (u[0]'hz).toNat = 45; omega)).symm, fun h => by rw [← h]; rfl⟩
        have hq : decide ((((u[0]'hz).toNat : Nat) : Int) = 45) = neg := by
          rw [Bool.eq_iff_iff, decide_eq_true_iff]; exact h3
        have hq2 : ((((u[0]'hz).toNat : Nat) : Int) == 45) = neg := by
          rw [Bool.eq_iff_iff, beq_iff_eq]; exact h3
        have het : u.extract 1 u.size = t := by
          rw [extract_tail u 1]
          symm
          rw [str_eq, HT.out, body_exp]
          have e1 := HN.out
          have e2 := HP.out
          simp only [expT, e1, e2, hnp, if_true]
        have HET := Lib.hid het
        clear h3 het
        go_wp2_with fail
        go_meet
        refine ⟨?_, ?_, rfl⟩
        · first | rw [HET.out] | (rw [← HET.out])
        · first | rfl | rw [hq2] | rw [hq]
      | false =>
        have hn : neg = false := by cases neg <;> simp_all
        have het : u = t := by
          apply ByteArray.ext
          apply Array.ext'
          rw [HT.out, body_exp]
          have e1 := HN.out
          have e2 := HP.out
          simp only [expT, e1, e2, hnp, Bool.false_eq_true, if_false]
        subst hn
        have HET := Lib.hid het
        clear het
        go_wp2_with fail
        go_meet
        exact ⟨by rw [HET.out], rfl, rfl⟩
    case rest =>
      obtain ⟨rfl, rfl, rfl⟩ := hcut
      have k0 := hk2.cell 0 _ rfl
      have k1 := hk2.cell 1 _ rfl
      have f0 := hk2.free 0
      have f1 := hk2.free 1
      clear HN HP HT
      by_cases hinf : t.data.toList = infL ∨ t.data.toList = infinityL
      · have hr := HR2.out
        have hnn : ¬ t.data.toList = nanL := by rintro h; rw [h] at hinf; revert hinf; decide
        rw [parseB, if_neg hnn, if_pos hinf] at hr
        subst hr
        clear HR2 hnn
        rcases hinf with hi | hi
        · have e1 := (str_eq t infL).2 hi
          subst e1
          cases neg with
          | true =>
            have hor : bits BinOp.or IntKind.u64 9218868437227405312 9223372036854775808 = 18442240474082181120 := by decide
            go_wp2_with fail
            have hd3 := (hk2.set 0 (.int .u64 18442240474082181120)).set 1 (.int .u8 0)
            have o0 := hd3.cell 0 _ rfl
            have o1 := hd3.cell 1 _ rfl
            exact bodyPost_ret (v := .tuple #[.agg #[.int .u64 18442240474082181120, .int .u8 0], .int .i64 0]) (by simp [results, Tryz.results10, go_sem, o0, o1]; try rfl) rfl ⟨rfl, (hb3.setCell (by simp) _).setCell (by simp) _⟩
          | false =>
            have hor : bits BinOp.or IntKind.u64 9218868437227405312 0 = 9218868437227405312 := by decide
            go_wp2_with fail
            have hd3 := (hk2.set 0 (.int .u64 9218868437227405312)).set 1 (.int .u8 0)
            have o0 := hd3.cell 0 _ rfl
            have o1 := hd3.cell 1 _ rfl
            exact bodyPost_ret (v := .tuple #[.agg #[.int .u64 9218868437227405312, .int .u8 0], .int .i64 0]) (by simp [results, Tryz.results10, go_sem, o0, o1]; try rfl) rfl ⟨rfl, (hb3.setCell (by simp) _).setCell (by simp) _⟩
        · have e1 := (str_eq t infinityL).2 hi
          subst e1
          cases neg with
          | true =>
            have hor : bits BinOp.or IntKind.u64 9218868437227405312 9223372036854775808 = 18442240474082181120 := by decide
            go_wp2_with fail
            have hd3 := (hk2.set 0 (.int .u64 18442240474082181120)).set 1 (.int .u8 0)
            have o0 := hd3.cell 0 _ rfl
            have o1 := hd3.cell 1 _ rfl
            exact bodyPost_ret (v := .tuple #[.agg #[.int .u64 18442240474082181120, .int .u8 0], .int .i64 0]) (by simp [results, Tryz.results10, go_sem, o0, o1]; try rfl) rfl ⟨rfl, (hb3.setCell (by simp) _).setCell (by simp) _⟩
          | false =>
            have hor : bits BinOp.or IntKind.u64 9218868437227405312 0 = 9218868437227405312 := by decide
            go_wp2_with fail
            have hd3 := (hk2.set 0 (.int .u64 9218868437227405312)).set 1 (.int .u8 0)
            have o0 := hd3.cell 0 _ rfl
            have o1 := hd3.cell 1 _ rfl
            exact bodyPost_ret (v := .tuple #[.agg #[.int .u64 9218868437227405312, .int .u8 0], .int .i64 0]) (by simp [results, Tryz.results10, go_sem, o0, o1]; try rfl) rfl ⟨rfl, (hb3.setCell (by simp) _).setCell (by simp) _⟩
      obtain ⟨hi1, hi2⟩ := not_or.1 hinf
      have e1 : (t.toList == [105, 110, 102]) = false := by rw [ByteArray.toList_eq]; exact beq_eq_false_iff_ne.2 hi1
      have e2 : (t.toList == [105, 110, 102, 105, 110, 105, 116, 121]) = false := by rw [ByteArray.toList_eq]; exact beq_eq_false_iff_ne.2 hi2
      by_cases hnan : t.data.toList = nanL
      · have hr := HR2.out
        rw [parseB, if_pos hnan] at hr
        subst hr
        have e3 := (str_eq t nanL).2 hnan
        subst e3
        cases neg with
        | true =>
          go_wp2_with fail
          have hd3 := (hk2.set 0 (.int .u64 9221120237041090560)).set 1 (.int .u8 0)
          have o0 := hd3.cell 0 _ rfl
          have o1 := hd3.cell 1 _ rfl
          exact bodyPost_ret (v := .tuple #[.agg #[.int .u64 9221120237041090560, .int .u8 0], .int .i64 0]) (by simp [results, Tryz.results10, go_sem, o0, o1]; try rfl) rfl ⟨rfl, (hb3.setCell (by simp) _).setCell (by simp) _⟩
        | false =>
          go_wp2_with fail
          have hd3 := (hk2.set 0 (.int .u64 9221120237041090560)).set 1 (.int .u8 0)
          have o0 := hd3.cell 0 _ rfl
          have o1 := hd3.cell 1 _ rfl
          exact bodyPost_ret (v := .tuple #[.agg #[.int .u64 9221120237041090560, .int .u8 0], .int .i64 0]) (by simp [results, Tryz.results10, go_sem, o0, o1]; try rfl) rfl ⟨rfl, (hb3.setCell (by simp) _).setCell (by simp) _⟩
      have e3 : (t.toList == [110, 97, 110]) = false := by rw [ByteArray.toList_eq]; exact beq_eq_false_iff_ne.2 hnan
      have hr := HR2.out
      rw [parseB, if_neg hnan, if_neg hinf] at hr
      clear HR2 hnan hinf hi1 hi2
      cases neg with
      | true =>
        go_wp2_with fail
        refine (use28_any true t _ hts HLOW.out).mono ?_
        rintro e w4 ⟨hb4, h⟩
        have hb5 := hb3.trans (hb4.mono hb3.size)
        have hk4 := hk2.call hb4
        have hg0 : w.heap.size < w4.heap.size := hk4.lt
        clear k0 k1 f0 f1 hk2
        rcases h with ⟨hn, rfl⟩ | ⟨R1, a, n, x1, x2, x3, hn, ha, rfl, hround⟩
        · rw [hn] at hr
          have hr2 : ((0, 0), 280) = R := hr
          subst hr2
          have k0 := hk4.cell 0 _ rfl
          have k1 := hk4.cell 1 _ rfl
          have f0 := hk4.free 0
          have f1 := hk4.free 1
          go_wp2_with fail
          have hd3 := ((hk4.set 0 (.int .u64 0)).set 1 (.int .u8 0)).alloc (.cells #[.bool false, .slice none 0 0, .int .i64 0, .int .i64 0, .int .i64 0] 53)
          have o0 := hd3.cell 0 _ rfl
          have o1 := hd3.cell 1 _ rfl
          have hb6 := (hb5.setCell (show w.heap.size ≤ (⟨w.heap.size, 0, none⟩ : Addr).block from Nat.le_refl _) (.int .u64 0)).setCell (show w.heap.size ≤ (⟨w.heap.size, 1, none⟩ : Addr).block from Nat.le_refl _) (.int .u8 0)
          exact bodyPost_ret (v := .tuple #[.agg #[.int .u64 0, .int .u8 0], .int .i64 280]) (by simp [results, Tryz.results10, go_sem] at o0 o1 ⊢; simp [o0, o1]; try rfl) rfl ⟨rfl, hb6.alloc hb6.size _⟩
        · rw [hn] at hr
          have hr2 : (R1, 0) = R := hr
          subst hr2
          obtain ⟨px, cx, rfl⟩ := num_slice ha
          have hk8 := hk4.alloc (.cells #[.bool true, .slice px (limbsOf n).length cx, .int .i64 x1, .int .i64 x2, .int .i64 x3] 53)
          have hd7 := Blk.new w4 #[.bool true, .slice px (limbsOf n).length cx, .int .i64 x1, .int .i64 x2, .int .i64 x3] 53
          have hbn := (Below.refl w4.heap.size w4).alloc (Nat.le_refl _) (.cells #[.bool true, .slice px (limbsOf n).length cx, .int .i64 x1, .int .i64 x2, .int .i64 x3] 53)
          have ha2 := ha.call hbn
          have hb6 := hb5.trans (hbn.mono hb5.size)
          have HROUND := Lib.hid hround
          clear hround hr hn ha
          go_upto_region 21 with fail
          have p0 := hd7.cell 0 _ rfl
          have p1 := hd7.cell 1 _ rfl
          have p2 := hd7.cell 2 _ rfl
          have p3 := hd7.cell 3 _ rfl
          have p4 := hd7.cell 4 _ rfl
          generalize w4.alloc (.cells #[.bool true, .slice px (limbsOf n).length cx, .int .i64 x1, .int .i64 x2, .int .i64 x3] 53) = w6 at *
          go_wp2_with fail
          refine (HROUND.out _ ha2).mono ?_
          rintro e w7 ⟨rfl, hb7⟩
          have hb8 := hb6.trans (hb7.mono hb6.size)
          have hk9 := hk8.call hb7
          have k0 := hk9.cell 0 _ rfl
          have k1 := hk9.cell 1 _ rfl
          have f0 := hk9.free 0
          have f1 := hk9.free 1
          obtain ⟨r1, r2⟩ := R1
          go_wp2_with fail
          have hd3 := (hk9.set 0 (.int .u64 ((r1 : Nat) : Int))).set 1 (.int .u8 ((r2 : Nat) : Int))
          have o0 := hd3.cell 0 _ rfl
          have o1 := hd3.cell 1 _ rfl
          exact bodyPost_ret (v := .tuple #[.agg #[.int .u64 ((r1 : Nat) : Int), .int .u8 ((r2 : Nat) : Int)], .int .i64 0]) (by simp [results, Tryz.results10, go_sem, o0, o1]; try rfl) rfl ⟨rfl, (hb8.setCell (by simp) _).setCell (by simp) _⟩
      | false =>
        go_wp2_with fail
        refine (use28_any false t _ hts HLOW.out).mono ?_
        rintro e w4 ⟨hb4, h⟩
        have hb5 := hb3.trans (hb4.mono hb3.size)
        have hk4 := hk2.call hb4
        have hg0 : w.heap.size < w4.heap.size := hk4.lt
        clear k0 k1 f0 f1 hk2
        rcases h with ⟨hn, rfl⟩ | ⟨R1, a, n, x1, x2, x3, hn, ha, rfl, hround⟩
        · rw [hn] at hr
          have hr2 : ((0, 0), 280) = R := hr
          subst hr2
          have k0 := hk4.cell 0 _ rfl
          have k1 := hk4.cell 1 _ rfl
          have f0 := hk4.free 0
          have f1 := hk4.free 1
          go_wp2_with fail
          have hd3 := ((hk4.set 0 (.int .u64 0)).set 1 (.int .u8 0)).alloc (.cells #[.bool false, .slice none 0 0, .int .i64 0, .int .i64 0, .int .i64 0] 53)
          have o0 := hd3.cell 0 _ rfl
          have o1 := hd3.cell 1 _ rfl
          have hb6 := (hb5.setCell (show w.heap.size ≤ (⟨w.heap.size, 0, none⟩ : Addr).block from Nat.le_refl _) (.int .u64 0)).setCell (show w.heap.size ≤ (⟨w.heap.size, 1, none⟩ : Addr).block from Nat.le_refl _) (.int .u8 0)
          exact bodyPost_ret (v := .tuple #[.agg #[.int .u64 0, .int .u8 0], .int .i64 280]) (by simp [results, Tryz.results10, go_sem] at o0 o1 ⊢; simp [o0, o1]; try rfl) rfl ⟨rfl, hb6.alloc hb6.size _⟩
        · rw [hn] at hr
          have hr2 : (R1, 0) = R := hr
          subst hr2
          obtain ⟨px, cx, rfl⟩ := num_slice ha
          have hk8 := hk4.alloc (.cells #[.bool false, .slice px (limbsOf n).length cx, .int .i64 x1, .int .i64 x2, .int .i64 x3] 53)
          have hd7 := Blk.new w4 #[.bool false, .slice px (limbsOf n).length cx, .int .i64 x1, .int .i64 x2, .int .i64 x3] 53
          have hbn := (Below.refl w4.heap.size w4).alloc (Nat.le_refl _) (.cells #[.bool false, .slice px (limbsOf n).length cx, .int .i64 x1, .int .i64 x2, .int .i64 x3] 53)
          have ha2 := ha.call hbn
          have hb6 := hb5.trans (hbn.mono hb5.size)
          have HROUND := Lib.hid hround
          clear hround hr hn ha
          go_upto_region 21 with fail
          have p0 := hd7.cell 0 _ rfl
          have p1 := hd7.cell 1 _ rfl
          have p2 := hd7.cell 2 _ rfl
          have p3 := hd7.cell 3 _ rfl
          have p4 := hd7.cell 4 _ rfl
          generalize w4.alloc (.cells #[.bool false, .slice px (limbsOf n).length cx, .int .i64 x1, .int .i64 x2, .int .i64 x3] 53) = w6 at *
          go_wp2_with fail
          refine (HROUND.out _ ha2).mono ?_
          rintro e w7 ⟨rfl, hb7⟩
          have hb8 := hb6.trans (hb7.mono hb6.size)
          have hk9 := hk8.call hb7
          have k0 := hk9.cell 0 _ rfl
          have k1 := hk9.cell 1 _ rfl
          have f0 := hk9.free 0
          have f1 := hk9.free 1
          obtain ⟨r1, r2⟩ := R1
          go_wp2_with fail
          have hd3 := (hk9.set 0 (.int .u64 ((r1 : Nat) : Int))).set 1 (.int .u8 ((r2 : Nat) : Int))
          have o0 := hd3.cell 0 _ rfl
          have o1 := hd3.cell 1 _ rfl
          exact bodyPost_ret (v := .tuple #[.agg #[.int .u64 ((r1 : Nat) : Int), .int .u8 ((r2 : Nat) : Int)], .int .i64 0]) (by simp [results, Tryz.results10, go_sem, o0, o1]; try rfl) rfl ⟨rfl, (hb8.setCell (by simp) _).setCell (by simp) _⟩
end Go.Proofs.YtkfbailpifmdcaaGreatDoor
end

section
namespace Go.Proofs.YtkfbailpifmdcaaGreatDoor
open Go.RowKit

set_option maxRecDepth 100000 in
set_option maxHeartbeats 1000000 in
theorem TextReads_any (s : ByteArray) (w : World) (hT : TabW w) (hP : TabP w) :
    Calls Tryz.prog 3 #[.string s] w fun en w' => en = .returned (.bool true) ∧ Below w.heap.size w w' := by
  have h1 := fun w (hT : TabW w) => Parse_any s w hT
  have h2 := fun w => Parse28_any s w
  obtain ⟨⟨⟨r1, r2⟩, r3⟩, hR⟩ : ∃ R, parseP s.data.toList = R := ⟨_, rfl⟩
  simp only [hR] at h1 h2
  clear hR
  have H1 := Lib.hid h1
  have H2 := Lib.hid h2
  clear h1 h2
  go_enter Tryz.func3, Tryz.ntmps3
  go_wp2_with fail
  refine (H1.out _ hT).mono ?_
  rintro e w1 ⟨rfl, hb1⟩
  have hp1 := Blk.new w1 #[.int .u64 ((r1 : Nat) : Int), .int .u8 ((r2 : Nat) : Int)] 25
  have hb2 := hb1.alloc hb1.size (.cells #[.int .u64 ((r1 : Nat) : Int), .int .u8 ((r2 : Nat) : Int)] 25)
  go_wp2_with fail
  generalize w1.alloc (.cells #[.int .u64 ((r1 : Nat) : Int), .int .u8 ((r2 : Nat) : Int)] 25) = w2 at *
  generalize w1.heap.size = g1 at hp1 ⊢
  refine (H2.out _).mono ?_
  rintro e w3 ⟨rfl, hb3⟩
  have hb4 := hb2.trans (hb3.mono hb2.size)
  have hp3 := hp1.call hb3
  have hp4 := hp3.alloc (.cells #[.int .u64 ((r1 : Nat) : Int), .int .u8 ((r2 : Nat) : Int)] 25)
  have hq4 := Blk.new w3 #[.int .u64 ((r1 : Nat) : Int), .int .u8 ((r2 : Nat) : Int)] 25
  have hb5 := hb4.alloc hb4.size (.cells #[.int .u64 ((r1 : Nat) : Int), .int .u8 ((r2 : Nat) : Int)] 25)
  go_upto_region 3 with fail
  have k0 := hp4.cell 0 _ rfl
  have k1 := hp4.cell 1 _ rfl
  have q0 := hq4.cell 0 _ rfl
  have q1 := hq4.cell 1 _ rfl
  generalize w3.alloc (.cells #[.int .u64 ((r1 : Nat) : Int), .int .u8 ((r2 : Nat) : Int)] 25) = w5 at *
  generalize w3.heap.size = g3 at *
  go_wp2_with fail
  refine (begins_any _ (hT.call hb5) (hP.call hb5)).mono ?_
  rintro e w6 ⟨rfl, hb6⟩
  go_wp2_with fail
  go_ret
  exact ⟨rfl, hb5.trans (hb6.mono hb5.size)⟩
end Go.Proofs.YtkfbailpifmdcaaGreatDoor
end
