/- LawJ -/
import Derived.Test.YtkfbailpifmdcaaGreatDoorMas
section
namespace Go.Proofs.YtkfbailpifmdcaaGreatDoor
open Go.RowKit

theorem cnt_digits (r : List UInt8) : ∀ l : List UInt8, (∀ c ∈ l, isD c) → cntL (l ++ r) = l.length + cntL r
  | [], _ => by simp
  | c :: t, h => by
    have hc := h c (by simp)
    have h1 := cnt_digits r t fun c hc => h c (by simp [hc])
    rw [List.cons_append, cntL, if_neg (isD_ne hc (by decide)), if_pos (show 48 ≤ c.toNat ∧ c.toNat ≤ 57 from hc), h1, List.length_cons]
    omega
theorem cnt_skip {c : UInt8} {r : List UInt8} (h1 : c ≠ 101) (h : ¬ (48 ≤ c.toNat ∧ c.toNat ≤ 57)) : cntL (c :: r) = cntL r := by rw [cntL, if_neg h1, if_neg h]
theorem cnt_stop (r : List UInt8) : cntL (101 :: r) = 0 := by rw [cntL, if_pos rfl]
theorem cnt_sci {x : Nat} {d : List UInt8} {e : Int} (hd : ∀ c ∈ d, isD c) : cntL (sciL x d e) = d.length := by
  have h1 : cntL (pointL d ++ 101 :: Lib.itoa e) = d.length := by
    unfold pointL
    split
    · have e1 : d.take 1 ++ 46 :: d.drop 1 ++ 101 :: Lib.itoa e = d.take 1 ++ (46 :: (d.drop 1 ++ 101 :: Lib.itoa e)) := by simp
      rw [e1, cnt_digits _ _ (fun c hc => hd c (List.mem_of_mem_take hc)), cnt_skip (by decide) (by decide), cnt_digits _ _ (fun c hc => hd c (List.mem_of_mem_drop hc)), cnt_stop, List.length_take, List.length_drop]
      omega
    · rw [cnt_digits _ _ hd, cnt_stop]
      omega
  unfold sciL signL
  split
  · rw [cnt_skip (by decide) (by decide), h1]
  · exact h1
theorem cnt_short {x n : Nat} {t : Int} (hs : ShortIs x n t) : 1 ≤ cntL (shortL x n t) ∧ cntL (shortL x n t) ≤ n := by
  obtain ⟨p1, p2, _⟩ := pick_of hs
  obtain ⟨n1, _⟩ := hs
  unfold shortL
  simp only
  generalize (shortAt (nM x) (nE x) t n).pick x (t - n + 1) = p at *
  have hD := dec_isD p
  obtain ⟨c, r, hcr, hc⟩ := dec_head p1
  rw [cnt_sci (d := Lib.trimRightB (Lib.decDigits p) 48) (trimL_isD hD)]
  have hne : trimL (Lib.decDigits p) ≠ [] := by rw [hcr]; exact trimL_ne hc
  have hpos := List.length_pos_iff.2 hne
  refine ⟨hpos, ?_⟩
  by_cases h : p < 10 ^ n
  · have := dec_len_le n p (by omega) h
    exact Nat.le_trans (trimL_len _) this
  · have hp : p = 10 ^ n := by omega
    have e1 := dec_pad n 1 0 (by decide) (Nat.pow_pos (by decide))
    rw [Nat.one_mul, Nat.add_zero, ← hp, dec_small (show 1 < 10 by decide), padL_zero] at e1
    show (trimL (Lib.decDigits p)).length ≤ n
    rw [e1, trimL_zeros]
    exact n1
theorem cnt_digs {x j : Nat} {t : Int} (hj : 1 ≤ j) (hj2 : j ≤ 1024) (hpl : (plainP x [48]).2 = false) (ht : IsTop (nM x) (nE x) t) : cntL (digitsP x j t).1 = j := by
  obtain ⟨b1, b2⟩ := rnd_bounds hj ht
  have hor := rndQ_or (scN (nM x) (nE x) (j - 1 - t)) (scD (nE x) (j - 1 - t))
  unfold digitsP
  rw [if_neg (by omega), hpl, if_neg (by decide), Int.toNat_natCast]
  generalize rndQ (scN (nM x) (nE x) (j - 1 - t)) (scD (nE x) (j - 1 - t)) = q at *
  obtain ⟨d1, d2, _⟩ := digS_val (q := q) (t := t) hj (by omega) (by omega)
  simp only
  rw [cnt_sci d1, d2]

set_option maxRecDepth 100000 in
set_option maxHeartbeats 8000000 in
theorem TextFewest_other (x : Nat) (n : Int) (w : World) (hx : x < 18446744073709551616)
    (hfin : ¬ finB x) (hT : TabW w) (hP : TabP w) :
    Calls Tryz.prog 5 #[.int .u64 ((x : Nat) : Int), .int .i64 n] w fun en w' => en = .returned (.bool true) ∧ Below w.heap.size w w' := by
  unfold finB at hfin
  have h3 : (classN x != 3) = true := by simp; omega
  have h2 : (classN x != 2) = true := by simp; omega
  clear hfin
  go_enter Tryz.func5, Tryz.ntmps5
  go_wp2_with fail
  refine (begins_any w hT hP).mono ?_
  rintro e w1 ⟨rfl, hb1⟩
  go_wp2_with fail
  refine (Class_any x w1 hx).mono ?_
  rintro e w2 ⟨rfl, hb2⟩
  have hb12 := hb1.trans (hb2.mono hb1.size)
  go_wp2_with fail
  refine (Class_any x w2 hx).mono ?_
  rintro e w3 ⟨rfl, hb3⟩
  have hb13 := hb12.trans (hb3.mono hb12.size)
  go_wp2_with fail
  go_ret
  exact ⟨rfl, hb13⟩

set_option maxRecDepth 100000 in
set_option maxHeartbeats 8000000 in
theorem TextFewest_any (x k : Nat) (n : Int) (S D : List UInt8) (y f : Nat) (w : World) (hx : x < 18446744073709551616) (hn1 : -9223372036854775808 ≤ n) (hn2 : n ≤ 9223372036854775807)
    (hfin : finB x) (hk1 : 1 ≤ k) (hk2 : k ≤ 17)
    (hS : ∀ w, TabW w → TabP w → Calls Tryz.prog 15 #[.int .u64 ((x : Nat) : Int)] w fun en w' => en = .returned (.string ⟨S.toArray⟩) ∧ Below w.heap.size w w')
    (hcS : cntL S = k) (hlS : S.length ≤ 100000)
    (hD : 1 ≤ n → n < (k : Int) → ∀ w, TabW w → TabP w → Calls Tryz.prog 13 #[.int .u64 ((x : Nat) : Int), .int .i64 n] w fun en w' => en = .returned (.tuple #[.string ⟨D.toArray⟩, .int .i64 0]) ∧ Below w.heap.size w w')
    (hpD : 1 ≤ n → n < (k : Int) → parseP D = ((y, f), 0) ∧ y ≠ x ∧ ((cntL D : Nat) : Int) = n) (hlD : D.length ≤ 100000)
    (hT : TabW w) (hP : TabP w) :
    Calls Tryz.prog 5 #[.int .u64 ((x : Nat) : Int), .int .i64 n] w fun en w' => en = .returned (.bool true) ∧ Below w.heap.size w w' := by
  have HS := Lib.hid hS
  have HD := Lib.hid hD
  have cS := fun w => digits28_any ⟨S.toArray⟩ w (by simpa [ByteArray.size] using hlS)
  have cD := fun w => digits28_any ⟨D.toArray⟩ w (by simpa [ByteArray.size] using hlD)
  have pD := fun w hT => Parse_any ⟨D.toArray⟩ w hT
  simp only [hcS] at cS
  simp only at cD pD
  have CS := Lib.hid cS
  have HPD := Lib.hid hpD
  have HCL := Lib.hid (fun w => Class_any x w hx)
  have k1 : (1 : Int) ≤ ((k : Nat) : Int) := by omega
  have k2 : ((k : Nat) : Int) ≤ 17 := by omega
  unfold finB at hfin
  generalize hcl : classN x = cl at *
  generalize cntL D = cd at *
  generalize parseP D = P at *
  obtain ⟨⟨P1, P2⟩, P3⟩ := P
  simp only at *
  have CD := Lib.hid cD
  have PD := Lib.hid pD
  clear hS hD cS cD pD hpD hcS hlS hlD hcl hk1 hk2
  go_enter Tryz.func5, Tryz.ntmps5
  go_wp2_with fail
  refine (begins_any w hT hP).mono ?_
  rintro e w1 ⟨rfl, hb1⟩
  go_upto_region 3 with fail
  go_cut [4, 20] (fun u4 u20 wx => u4 = .bool false ∧ u20 = .bool false ∧ Below w1.heap.size w1 wx)
  case first =>
    go_wp2_with fail
    refine (HCL.out w1).mono ?_
    rintro e w2 ⟨rfl, hb2⟩
    by_cases h3 : cl = 3
    · have hb3 : (cl != 3) = false := by simp [h3]
      clear hfin h3
      go_wp2_with fail
      go_meet
      exact ⟨rfl, rfl, hb2⟩
    · have hb3 : (cl != 3) = true := by simp [h3]
      have hb4 : (cl != 2) = false := by simp; omega
      clear hfin h3
      go_wp2_with fail
      refine (HCL.out w2).mono ?_
      rintro e w3 ⟨rfl, hb3⟩
      have hb23 := hb2.trans (hb3.mono hb2.size)
      go_wp2_with fail
      go_meet
      exact ⟨rfl, rfl, hb23⟩
  case rest =>
    clear hfin HCL
    obtain ⟨rfl, rfl, hbr⟩ := hcut
    have hb1c := hb1.trans (hbr.mono hb1.size)
    clear hb1 hbr
    go_wp2_with fail
    refine (HS.out _ (hT.call hb1c) (hP.call hb1c)).mono ?_
    rintro e w2 ⟨rfl, hb2⟩
    have hb3 := hb1c.trans (hb2.mono hb1c.size)
    clear hb1c hb2
    go_wp2_with fail
    refine (CS.out _).mono ?_
    rintro e w4 ⟨rfl, hw⟩
    subst hw
    by_cases hlo : n < 1
    · have d1 : decide (n < 1) = true := decide_eq_true hlo
      clear HPD HD
      go_wp2_with fail
      go_ret
      exact ⟨rfl, hb3⟩
    by_cases hhi : ((k : Nat) : Int) ≤ n
    · have d1 : decide (n < 1) = false := decide_eq_false hlo
      have d2 : decide (((k : Nat) : Int) ≤ n) = true := decide_eq_true hhi
      clear HPD HD
      go_wp2_with fail
      go_ret
      exact ⟨rfl, hb3⟩
    · have d1 : decide (n < 1) = false := decide_eq_false hlo
      have d2 : decide (((k : Nat) : Int) ≤ n) = false := decide_eq_false hhi
      obtain ⟨hp1, hp2, hp3⟩ := HPD.out (by omega) (by omega)
      injection hp1 with hp1 hp4
      injection hp1 with hp5 hp6
      subst hp4 hp5 hp6 hp3
      have HD2 := Lib.hid (HD.out (by omega) (by omega))
      have hne : (((P1 : Nat) : Int) != ((x : Nat) : Int)) = true := by
        rw [bne_iff_ne]
        omega
      clear HPD HD
      go_wp2_with fail
      refine (HD2.out _ (hT.call hb3) (hP.call hb3)).mono ?_
      rintro e w5 ⟨rfl, hb5⟩
      have hb6 := hb3.trans (hb5.mono hb3.size)
      clear hb3 hb5
      go_wp2_with fail
      refine (PD.out _ (hT.call hb6)).mono ?_
      rintro e w7 ⟨rfl, hb7⟩
      have hb8 := hb6.trans (hb7.mono hb6.size)
      have hb9 := hb8.alloc hb8.size (.cells #[.int .u64 ((P1 : Nat) : Int), .int .u8 ((P2 : Nat) : Int)] 25)
      have hk := Blk.new w7 #[.int .u64 ((P1 : Nat) : Int), .int .u8 ((P2 : Nat) : Int)] 25
      have c0 := hk.cell 0 _ rfl
      have f0 := hk.free 0
      clear hb6 hb7 hp2
      go_wp2_with fail
      refine (CD.out _).mono ?_
      rintro e w10 ⟨rfl, hw⟩
      subst hw
      go_wp2_with fail
      go_ret
      exact ⟨rfl, hb9⟩

theorem shortL_len {x n : Nat} {t : Int} (hs : ShortIs x n t) (t1 : -2000 ≤ t) (t2 : t ≤ 2000) : (shortL x n t).length ≤ 100000 := by
  obtain ⟨p1, p2, _⟩ := pick_of hs
  obtain ⟨n1, n2, _⟩ := hs
  unfold shortL
  simp only
  generalize (shortAt (nM x) (nE x) t n).pick x (t - n + 1) = p at *
  have h1 : (Lib.decDigits p).length ≤ n + 1 := dec_len_le (n + 1) p (by omega) (by rw [Nat.pow_succ]; have : 0 < 10 ^ n := Nat.pow_pos (by decide); omega)
  have h2 := sciL_len x (Lib.trimRightB (Lib.decDigits p) 48) (t - n + 1 + ((Lib.decDigits p).length : Nat) - 1) (by omega) (by omega)
  have h3 : (Lib.trimRightB (Lib.decDigits p) 48).length ≤ (Lib.decDigits p).length := trimL_len _
  omega
theorem TextFewest_true (x : Nat) (n : Int) (w : World) (hx : x < 18446744073709551616) (hn1 : -9223372036854775808 ≤ n) (hn2 : n ≤ 9223372036854775807) (hT : TabW w) (hP : TabP w) :
    Calls Tryz.prog 5 #[.int .u64 ((x : Nat) : Int), .int .i64 n] w fun en w' => en = .returned (.bool true) ∧ Below w.heap.size w w' := by
  by_cases hf : finB x
  · obtain ⟨hpl, hm⟩ := fin_facts hf
    obtain ⟨hfin, _, _⟩ := plain_fin hpl
    obtain ⟨t, t1, t2, t3⟩ := top_num x
    have ht := t3 (nM_ne hm)
    obtain ⟨m, hm17, hsh⟩ := short_exists hfin hm ht
    obtain ⟨c1, c2⟩ := cnt_short hsh
    have hdl := digitsP_len (n := n) hpl t1 t2
    refine TextFewest_any x (cntL (shortL x m t)) n (shortL x m t) (digitsP x n t).1 (parseP (digitsP x n t).1).1.1 (parseP (digitsP x n t).1).1.2 w hx hn1 hn2 hf c1 (by omega) (fun w hT hP => Shortest_any x m t w hx hpl hsh t1 t2 hT hP) rfl (shortL_len hsh t1 t2) ?_ ?_ (by omega) hT hP
    · intro h1 h2 w hT hP
      obtain ⟨j, rfl⟩ : ∃ j : Nat, n = (j : Int) := ⟨n.toNat, by omega⟩
      have hD := Digits_any x j t w hx hn1 hn2 (fun _ => ht) t1 t2 hT hP
      obtain ⟨d1, _, _⟩ := fewer_bits (j := j) hx hsh (by omega) (by omega) hpl t1 t2
      rw [d1] at hD
      exact hD
    · intro h1 h2
      obtain ⟨j, rfl⟩ : ∃ j : Nat, n = (j : Int) := ⟨n.toNat, by omega⟩
      obtain ⟨d1, d2, d3⟩ := fewer_bits (j := j) hx hsh (by omega) (by omega) hpl t1 t2
      exact ⟨Prod.ext (Prod.ext rfl rfl) d2, d3, by rw [cnt_digs (by omega) (by omega) hpl ht]⟩
  · exact TextFewest_other x n w hx hf hT hP
end Go.Proofs.YtkfbailpifmdcaaGreatDoor
end
