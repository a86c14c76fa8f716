/- RefBA RefBB LawL -/
import Derived.Test.YtkfbailpifmdcaaGreatDoorMbd
import Derived.Test.YtkfbailpifmdcaaGreatDoorMar
section
namespace Go.Proofs.YtkfbailpifmdcaaGreatDoor

theorem scan_all : ∀ (s : List UInt8), s.all isDec = true → scanL false false s = (s.map decV, 0, [])
  | [], _ => rfl
  | c :: t, h => by
    rw [List.all_cons, Bool.and_eq_true] at h
    have hc : 0 ≤ digB false c := of_decide_eq_true h.1
    rw [scanL, if_pos hc, scan_all t h.2]
    rfl
theorem scan_short : ∀ (s : List UInt8), (∀ c ∈ s, c ≠ 46) → s.all isDec = false → (scanL false false s).2.2 ≠ []
  | [], _, h => by cases h
  | c :: t, hd, h => by
    rw [scanL]
    by_cases hc : 0 ≤ digB false c
    · rw [if_pos hc]
      refine scan_short t (fun x hx => hd x (List.mem_cons_of_mem _ hx)) ?_
      rw [List.all_cons] at h
      have : isDec c = true := decide_eq_true hc
      rw [this, Bool.true_and] at h
      exact h
    · rw [if_neg hc, if_neg (fun h => hd c (List.mem_cons_self ..) h.1)]
      exact List.cons_ne_nil _ _
theorem all_dot {s : List UInt8} (h : s.all isDec = true) : ∀ c ∈ s, c ≠ 46 := by
  intro c hc h46
  have := List.all_eq_true.1 h c hc
  rw [h46] at this
  revert this
  decide
end Go.Proofs.YtkfbailpifmdcaaGreatDoor
end

section
namespace Go.Proofs.YtkfbailpifmdcaaGreatDoor
open Go.RowKit

def noDot (l : List UInt8) : Bool := l.all (fun c => decide (c ≠ 46))
theorem noDot_step {s : ByteArray} {i : Nat} (h : i < s.size) : noDot (s.data.toList.take (i + 1)) = (noDot (s.data.toList.take i) && decide (s[i]'h ≠ 46)) := by
  rw [take_at s i h]
  simp [noDot, List.all_append]
theorem near_bad {s : List UInt8} (h : ((scanL false false s).1 = [] ∨ noDot s = false) ∨ (scanL false false s).2.2 ≠ []) : s.all isDec = false ∨ s = [] := by
  cases hs : s.all isDec with
  | false => exact Or.inl rfl
  | true =>
    right
    have h1 := scan_all s hs
    rw [h1] at h
    rcases h with (h | h) | h
    · exact List.map_eq_nil_iff.1 h
    · have : noDot s = true := List.all_eq_true.2 (fun c hc => decide_eq_true (all_dot hs c hc))
      rw [this] at h; cases h
    · exact absurd rfl h
theorem near_good {s : List UInt8} (h1 : (scanL false false s).1 ≠ []) (h2 : noDot s = true) (h3 : (scanL false false s).2.2 = []) : s.all isDec = true ∧ s ≠ [] := by
  constructor
  · cases hs : s.all isDec with
    | true => rfl
    | false => exact absurd h3 (scan_short s (fun c hc => of_decide_eq_true (List.all_eq_true.1 h2 c hc)) hs)
  · intro h
    rw [h] at h1
    exact h1 rfl

set_option maxRecDepth 1000000 in
set_option maxHeartbeats 1000000 in
theorem Near28_any (neg : Bool) (s : ByteArray) (exp : Int) (w : World) :
    Calls Tryz.prog 23 #[.bool neg, .string s, .int .i64 exp] w fun e w' => e = .returned (.tuple #[.agg #[.int .u64 (((nearTP neg s.data.toList exp).1.1 : Nat) : Int), .int .u8 (((nearTP neg s.data.toList exp).1.2 : Nat) : Int)], .int .i64 (((nearTP neg s.data.toList exp).2 : Nat) : Int)]) ∧ Below w.heap.size w w' := by
  obtain ⟨R, hR⟩ : ∃ R, nearTP neg s.data.toList exp = R := ⟨_, rfl⟩
  rw [hR]
  have hsl : s.data.toList.length = s.size := by simp
  unfold nearTP at hR
  rw [hsl] at hR
  have HR := Lib.hid hR
  have hb1 := (Below.refl w.heap.size w).alloc (Nat.le_refl _) (.cells #[.int .u64 0, .int .u8 0] 25)
  have hk1 := Blk.new w #[.int .u64 0, .int .u8 0] 25
  clear hR hsl
  by_cases hlong : 4096 < s.size
  · have hr := HR.out
    rw [if_pos hlong] at hr
    subst hr
    clear HR
    have hli : (4096 : Int) < ((s.size : Nat) : Int) := by omega
    go_enter Tryz.func23, Tryz.ntmps23
    go_wp2_with fail
    have o0 := hk1.cell 0 _ rfl
    have o1 := hk1.cell 1 _ rfl
    exact bodyPost_ret (v := .tuple #[.agg #[.int .u64 0, .int .u8 0], .int .i64 4]) (by simp [results, Tryz.results23, go_sem, o0, o1]; try rfl) rfl ⟨rfl, hb1⟩
  have hr := HR.out
  rw [if_neg hlong] at hr
  have HR2 := Lib.hid hr
  clear hr HR
  have hli : ((s.size : Nat) : Int) ≤ 4096 := by omega
  have hM := fun w => mantissa28_any false s 0 w (by omega) (Nat.zero_le _) (fun h => by cases h)
  obtain ⟨pos, hpos, hsz, hrest⟩ := scan_rest false s 0
  unfold Man28 at hM
  rw [hsz] at hM
  rw [List.drop_zero] at hM hrest hsz
  simp only [baseN, Bool.false_eq_true, if_false] at hM
  have HM := Lib.hid hM
  clear hM
  go_enter Tryz.func23, Tryz.ntmps23
  go_wp2_with fail
  refine (HM.out _).mono ?_
  rintro e w2 ⟨v, rfl, hv, hb2⟩
  obtain ⟨x2, c2, rfl⟩ := num_slice hv
  obtain ⟨q, hq⟩ : ∃ q, decide (0 < (scanL false false s.data.toList).1.length) = q := ⟨_, rfl⟩
  rw [hq]
  have hb3 := hb1.trans (hb2.mono hb1.size)
  have hk2 := hk1.call hb2
  clear HM hk1
  go_wp2_with fail
  go_loopw [11, 12] (fun u11 u12 wr => ∃ (i : Nat) (b : Bool), u12 = .int .i64 ((i : Nat) : Int) ∧ u11 = .bool b ∧ i ≤ s.size ∧ Hid (b = (q && noDot (s.data.toList.take i))) ∧ wr = w2) (fun _ u12 _ => s.size - (intOf u12).toNat)
  case atStart => exact ⟨0, q, rfl, rfl, Nat.zero_le _, Lib.hid (by simp [noDot]), rfl⟩
  case round =>
    obtain ⟨i, b, rfl, rfl, hi, HB, rfl⟩ := hrel
    by_cases hp : i < s.size
    · have hpi : ((i : Nat) : Int) < ((s.size : Nat) : Int) := by omega
      have hst := noDot_step hp
      have hb := HB.out
      cases b with
      | false =>
        have HB2 := Lib.hid (show false = (q && noDot (s.data.toList.take (i + 1))) by rw [hst, ← Bool.and_assoc, ← hb, Bool.false_and])
        clear hst hb HB
        go_wp2_with fail
        go_roundw
        case rel => exact ⟨i + 1, false, by go_num, rfl, by omega, HB2, (by first | rfl | trivial)⟩
        case measure => simp [intOf]; omega
      | true =>
        by_cases h46 : s[i]'hp = 46
        · have e46 : (((s[i]'hp).toNat : Nat) : Int) = 46 := by rw [h46]; rfl
          have HB2 := Lib.hid (show false = (q && noDot (s.data.toList.take (i + 1))) by rw [hst, decide_eq_false (fun h => h h46), Bool.and_false, Bool.and_false])
          clear hst hb HB h46
          go_wp2_with fail
          go_roundw
          case rel => exact ⟨i + 1, false, by go_num, rfl, by omega, HB2, (by first | rfl | trivial)⟩
          case measure => simp [intOf]; omega
        · have e46 : ¬ (((s[i]'hp).toNat : Nat) : Int) = 46 := fun h => h46 (UInt8.toNat_inj.1 (by show (s[i]'hp).toNat = 46; omega))
          have HB2 := Lib.hid (show true = (q && noDot (s.data.toList.take (i + 1))) by rw [hst, ← Bool.and_assoc, ← hb, decide_eq_true h46]; rfl)
          clear hst hb HB h46
          go_wp2_with fail
          go_roundw
          case rel => exact ⟨i + 1, true, by go_num, by first | rfl | (simp only [Value.bool.injEq]; simpa using e46) | simpa using e46, by omega, HB2, (by first | rfl | trivial)⟩
          case measure => simp [intOf]; omega
    · have hpi : ¬ ((i : Nat) : Int) < ((s.size : Nat) : Int) := by omega
      have hie : i = s.size := by omega
      subst hie
      have htk : s.data.toList.take s.size = s.data.toList := List.take_of_length_le (by simp)
      have hb := HB.out
      rw [htk] at hb
      have k0 := hk2.cell 0 _ rfl
      have k1 := hk2.cell 1 _ rfl
      have f0 := hk2.free 0
      have f1 := hk2.free 1
      have hbad : s.data.toList.all isDec = false ∨ s.data.toList = [] → ((0, 0), 280) = R := by
        intro h
        have hr := HR2.out
        rcases h with h | h
        · rw [if_pos h] at hr; exact hr
        · rw [h] at hr; exact hr
      cases b with
      | false =>
        have hr2 := hbad (near_bad (Or.inl (by
          cases q with
          | false => left; exact List.eq_nil_of_length_eq_zero (by have := of_decide_eq_false hq; omega)
          | true => right; rw [Bool.true_and] at hb; exact hb.symm)))
        subst hr2
        clear hb hbad HR2 HB htk hp
        go_wp2_with fail
        have hd3 := (hk2.set 0 (.int .u64 0)).set 1 (.int .u8 0)
        have o0 := hd3.cell 0 _ rfl
        have o1 := hd3.cell 1 _ rfl
        exact bodyPost_ret (v := .tuple #[.agg #[.int .u64 0, .int .u8 0], .int .i64 280]) (by simp [results, Tryz.results23, go_sem, o0, o1]; try rfl) rfl ⟨rfl, (hb3.setCell (by simp) _).setCell (by simp) _⟩
      | true =>
        obtain ⟨hqt, hnd⟩ := Bool.and_eq_true_iff.1 hb.symm
        subst hqt
        by_cases hpe : pos < s.size
        · have hr2 := hbad (near_bad (Or.inr (by rw [hrest]; intro h; have h9 := congrArg List.length h; rw [List.length_drop] at h9; simp at h9; omega)))
          have hpei : ((pos : Nat) : Int) < ((s.size : Nat) : Int) := by omega
          subst hr2
          clear hb hbad HR2 HB htk hp
          go_wp2_with fail
          have hd3 := (hk2.set 0 (.int .u64 0)).set 1 (.int .u8 0)
          have o0 := hd3.cell 0 _ rfl
          have o1 := hd3.cell 1 _ rfl
          exact bodyPost_ret (v := .tuple #[.agg #[.int .u64 0, .int .u8 0], .int .i64 280]) (by simp [results, Tryz.results23, go_sem, o0, o1]; try rfl) rfl ⟨rfl, (hb3.setCell (by simp) _).setCell (by simp) _⟩
        · have hpei : ¬ ((pos : Nat) : Int) < ((s.size : Nat) : Int) := by omega
          have hgood := near_good (by intro h; rw [h] at hq; simp at hq) hnd (by rw [hrest]; exact List.drop_eq_nil_of_le (by simp; omega))
          have hr := HR2.out
          rw [if_neg (by rw [hgood.1]; simp), if_neg hgood.2] at hr
          have hsc := scan_all _ hgood.1
          by_cases hx1 : exp < -8192
          · rw [if_pos (Or.inl hx1)] at hr
            subst hr
            clear hb hbad HR2 HB htk hp
            go_wp2_with fail
            have hd3 := (hk2.set 0 (.int .u64 0)).set 1 (.int .u8 0)
            have o0 := hd3.cell 0 _ rfl
            have o1 := hd3.cell 1 _ rfl
            exact bodyPost_ret (v := .tuple #[.agg #[.int .u64 0, .int .u8 0], .int .i64 2]) (by simp [results, Tryz.results23, go_sem, o0, o1]; try rfl) rfl ⟨rfl, (hb3.setCell (by simp) _).setCell (by simp) _⟩
          by_cases hx2 : 8192 < exp
          · rw [if_pos (Or.inr hx2)] at hr
            subst hr
            clear hb hbad HR2 HB htk hp
            go_wp2_with fail
            have hd3 := (hk2.set 0 (.int .u64 0)).set 1 (.int .u8 0)
            have o0 := hd3.cell 0 _ rfl
            have o1 := hd3.cell 1 _ rfl
            exact bodyPost_ret (v := .tuple #[.agg #[.int .u64 0, .int .u8 0], .int .i64 2]) (by simp [results, Tryz.results23, go_sem, o0, o1]; try rfl) rfl ⟨rfl, (hb3.setCell (by simp) _).setCell (by simp) _⟩
          rw [if_neg (by rintro (h | h); exact hx1 h; exact hx2 h)] at hr
          have e1 : (scanL false false s.data.toList).1 = s.data.toList.map decV := by rw [hsc]
          unfold digitsL at hr
          rw [← e1] at hr
          have hdig := scanL_digit false false s.data.toList
          have hlen := scanL_len false false s.data.toList
          have hsl : s.data.toList.length = s.size := by simp
          rw [hsl] at hlen
          simp only [Bool.false_eq_true, if_false] at hdig
          rw [many_same hdig] at hr
          have hN := natL_bl (base := 10) (by decide) _ hdig
          have hM : many3 (natL 10 (scanL false false s.data.toList).1) ≤ 4096 := by
            unfold many3
            split
            · omega
            · rcases Nat.eq_zero_or_pos (scanL false false s.data.toList).1.length with h | h
              · rw [h] at hq; simp at hq
              · exact Nat.le_trans (dec_len_le _ _ h (natL_lt _ hdig)) (by omega)
          have hD := fun w v h => decimal28_any 0 v (natL 10 (scanL false false s.data.toList).1) w h (by omega)
          have hRo := fun w v h => rounded28_ten 0 neg v (natL 10 (scanL false false s.data.toList).1) (many3 (natL 10 (scanL false false s.data.toList).1)) exp w h (by omega) (by omega) (by omega) (by omega)
          have hm3 : ∀ n : Nat, (if n = 0 then 0 else (Lib.decDigits n).length) = many3 n := fun _ => rfl
          simp only [hm3] at hD
          generalize many3 (natL 10 (scanL false false s.data.toList).1) = mm at *
          generalize natL 10 (scanL false false s.data.toList).1 = N at *
          generalize tensP neg N mm exp = T at *
          obtain ⟨r1, r2⟩ := T
          subst hr
          have HD := Lib.hid hD
          have HRO := Lib.hid hRo
          have hvv := hv.mono (Nat.zero_le _)
          clear hb hbad HR2 HB htk hp hD hRo hm3 hdig hlen hN k0 k1 f0 f1
          go_wp2_with fail
          refine (HD.out _ _ hvv).mono ?_
          rintro e w4 ⟨rfl, hb4⟩
          have hb5 := hb3.trans (hb4.mono hb3.size)
          go_wp2_with fail
          refine (HRO.out _ _ (hvv.call hb4)).mono ?_
          rintro e w5 ⟨rfl, hb6⟩
          have hb7 := hb5.trans (hb6.mono hb5.size)
          have hk5 := (hk2.call hb4).call hb6
          have k0 := hk5.cell 0 _ rfl
          have k1 := hk5.cell 1 _ rfl
          have f0 := hk5.free 0
          have f1 := hk5.free 1
          go_wp2_with fail
          have hd3 := (hk5.set 0 (.int .u64 ((r1 : Nat) : Int))).set 1 (.int .u8 ((r2 : Nat) : Int))
          have o0 := hd3.cell 0 _ rfl
          have o1 := hd3.cell 1 _ rfl
          exact bodyPost_ret (v := .tuple #[.agg #[.int .u64 ((r1 : Nat) : Int), .int .u8 ((r2 : Nat) : Int)], .int .i64 0]) (by simp [results, Tryz.results23, go_sem, o0, o1]; try rfl) rfl ⟨rfl, (hb7.setCell (by simp) _).setCell (by simp) _⟩
end Go.Proofs.YtkfbailpifmdcaaGreatDoor
end

section
namespace Go.Proofs.YtkfbailpifmdcaaGreatDoor
open Go.RowKit

set_option maxRecDepth 100000 in
set_option maxHeartbeats 1000000 in
theorem TextNear_any (neg : Bool) (s : ByteArray) (exp : Int) (w : World) (hx1 : -9223372036854775808 ≤ exp) (hx2 : exp ≤ 9223372036854775807) (hT : TabW w) (hP : TabP w) :
    Calls Tryz.prog 7 #[.bool neg, .string s, .int .i64 exp] w fun en w' => en = .returned (.bool true) ∧ Below w.heap.size w w' := by
  have h1 := fun w (hT : TabW w) => textNear_any neg s exp w hx1 hx2 hT
  have h2 := fun w => Near28_any neg s exp w
  obtain ⟨⟨⟨r1, r2⟩, r3⟩, hR⟩ : ∃ R, nearTP neg s.data.toList exp = R := ⟨_, rfl⟩
  simp only [hR] at h1 h2
  clear hR
  have H1 := Lib.hid h1
  have H2 := Lib.hid h2
  clear h1 h2
  go_enter Tryz.func7, Tryz.ntmps7
  go_wp2_with fail
  refine (H1.out _ hT).mono ?_
  rintro e w1 ⟨rfl, hb1⟩
  have hp1 := Blk.new w1 #[.int .u64 ((r1 : Nat) : Int), .int .u8 ((r2 : Nat) : Int)] 25
  have hb2 := hb1.alloc hb1.size (.cells #[.int .u64 ((r1 : Nat) : Int), .int .u8 ((r2 : Nat) : Int)] 25)
  go_wp2_with fail
  generalize w1.alloc (.cells #[.int .u64 ((r1 : Nat) : Int), .int .u8 ((r2 : Nat) : Int)] 25) = w2 at *
  generalize w1.heap.size = g1 at hp1 ⊢
  refine (H2.out _).mono ?_
  rintro e w3 ⟨rfl, hb3⟩
  have hb4 := hb2.trans (hb3.mono hb2.size)
  have hp3 := hp1.call hb3
  have hp4 := hp3.alloc (.cells #[.int .u64 ((r1 : Nat) : Int), .int .u8 ((r2 : Nat) : Int)] 25)
  have hq4 := Blk.new w3 #[.int .u64 ((r1 : Nat) : Int), .int .u8 ((r2 : Nat) : Int)] 25
  have hb5 := hb4.alloc hb4.size (.cells #[.int .u64 ((r1 : Nat) : Int), .int .u8 ((r2 : Nat) : Int)] 25)
  go_upto_region 3 with fail
  have k0 := hp4.cell 0 _ rfl
  have k1 := hp4.cell 1 _ rfl
  have q0 := hq4.cell 0 _ rfl
  have q1 := hq4.cell 1 _ rfl
  generalize w3.alloc (.cells #[.int .u64 ((r1 : Nat) : Int), .int .u8 ((r2 : Nat) : Int)] 25) = w5 at *
  generalize w3.heap.size = g3 at *
  go_wp2_with fail
  refine (begins_any _ (hT.call hb5) (hP.call hb5)).mono ?_
  rintro e w6 ⟨rfl, hb6⟩
  go_wp2_with fail
  go_ret
  exact ⟨rfl, hb5.trans (hb6.mono hb5.size)⟩
end Go.Proofs.YtkfbailpifmdcaaGreatDoor
end
