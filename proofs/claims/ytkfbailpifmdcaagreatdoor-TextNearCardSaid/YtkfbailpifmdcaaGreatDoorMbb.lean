/- RefV RefW -/
import Derived.Test.YtkfbailpifmdcaaGreatDoorMba
import Derived.Test.YtkfbailpifmdcaaGreatDoorMak
section
namespace Go.Proofs.YtkfbailpifmdcaaGreatDoor
open Go.RowKit

theorem dig3_of {hex : Bool} {c : UInt8} (h : hex = true → ¬ (65 ≤ c.toNat ∧ c.toNat ≤ 90)) : (0 ≤ digB hex c → dig3 hex c.toNat = (digB hex c).toNat ∧ dig3 hex c.toNat < 16) ∧ (¬ 0 ≤ digB hex c → dig3 hex c.toNat = 99) := by
  cases hex with
  | false =>
    simp only [digB, decR, dig3, Bool.false_eq_true, if_false, false_and]
    by_cases h1 : 48 ≤ c.toNat ∧ c.toNat ≤ 57
    · rw [if_pos (show (48 : Int) ≤ (c.toNat : Int) ∧ (c.toNat : Int) ≤ 57 by omega), if_pos h1]; omega
    · rw [if_neg (show ¬ ((48 : Int) ≤ (c.toNat : Int) ∧ (c.toNat : Int) ≤ 57) by omega), if_neg h1]; omega
  | true =>
    have h := h rfl
    simp only [digB, hexR, decR, dig3, if_true, true_and]
    by_cases h2 : 97 ≤ c.toNat ∧ c.toNat ≤ 102
    · rw [if_pos (show (97 : Int) ≤ (c.toNat : Int) ∧ (c.toNat : Int) ≤ 102 by omega), if_neg (show ¬ (48 ≤ c.toNat ∧ c.toNat ≤ 57) by omega), if_pos h2]; omega
    rw [if_neg (show ¬ ((97 : Int) ≤ (c.toNat : Int) ∧ (c.toNat : Int) ≤ 102) by omega), if_neg (show ¬ ((65 : Int) ≤ (c.toNat : Int) ∧ (c.toNat : Int) ≤ 70) by omega)]
    by_cases h1 : 48 ≤ c.toNat ∧ c.toNat ≤ 57
    · rw [if_pos (show (48 : Int) ≤ (c.toNat : Int) ∧ (c.toNat : Int) ≤ 57 by omega), if_pos h1]; omega
    · rw [if_neg (show ¬ ((48 : Int) ≤ (c.toNat : Int) ∧ (c.toNat : Int) ≤ 57) by omega), if_neg h1, if_neg h2]; omega

structure ScanFr (hex : Bool) (s : ByteArray) (p0 pos : Nat) (l : List Nat) (b : Nat) (p : Bool) : Prop where
  hpos : pos ≤ s.size
  hge : p0 ≤ pos
  hlen : l.length ≤ pos
  hbeh : b ≤ pos
  hdig : ∀ d ∈ l, d < 16
  hscan : scanL hex false (s.data.toList.drop p0) = (l ++ (scanL hex p (s.data.toList.drop pos)).1, b + (scanL hex p (s.data.toList.drop pos)).2.1, (scanL hex p (s.data.toList.drop pos)).2.2)
theorem ScanFr.start (hex : Bool) (s : ByteArray) (p0 : Nat) (h : p0 ≤ s.size) : ScanFr hex s p0 p0 [] 0 false := ⟨h, Nat.le_refl _, Nat.zero_le _, Nat.zero_le _, by simp, by simp⟩
theorem ScanFr.digit {hex : Bool} {s : ByteArray} {p0 pos b : Nat} {l : List Nat} {p : Bool} (h : ScanFr hex s p0 pos l b p) (hp : pos < s.size) (hd : 0 ≤ digB hex (s[pos]'hp)) :
    ScanFr hex s p0 (pos + 1) (l ++ [(digB hex (s[pos]'hp)).toNat]) (b + if p then 1 else 0) p := by
  have hB := digB_lt hex (s[pos]'hp)
  refine ⟨by omega, by have := h.hge; omega, by have := h.hlen; simp; omega, by have := h.hbeh; split <;> omega, ?_, ?_⟩
  · intro d hd2
    rcases List.mem_append.1 hd2 with h1 | h1
    · exact h.hdig d h1
    · rw [List.mem_singleton.1 h1]; omega
  rw [h.hscan, drop_at s pos hp, scanL, if_pos hd]
  simp only [List.append_assoc, List.singleton_append]
  congr 2
  omega
theorem ScanFr.point {hex : Bool} {s : ByteArray} {p0 pos b : Nat} {l : List Nat} (h : ScanFr hex s p0 pos l b false) (hp : pos < s.size) (hd : ¬ 0 ≤ digB hex (s[pos]'hp)) (hc : s[pos]'hp = 46) :
    ScanFr hex s p0 (pos + 1) l b true := by
  refine ⟨by omega, by have := h.hge; omega, by have := h.hlen; omega, by have := h.hbeh; omega, h.hdig, ?_⟩
  rw [h.hscan, drop_at s pos hp, scanL, if_neg hd, if_pos ⟨hc, rfl⟩]
theorem ScanFr.stop {hex : Bool} {s : ByteArray} {p0 pos b : Nat} {l : List Nat} {p : Bool} (h : ScanFr hex s p0 pos l b p) (hp : pos < s.size) (hd : ¬ 0 ≤ digB hex (s[pos]'hp)) (hc : ¬ (s[pos]'hp = 46 ∧ p = false)) :
    scanL hex false (s.data.toList.drop p0) = (l, b, s.data.toList.drop pos) := by
  rw [h.hscan, drop_at s pos hp, scanL, if_neg hd, if_neg hc]
  simp
theorem ScanFr.done {hex : Bool} {s : ByteArray} {p0 pos b : Nat} {l : List Nat} {p : Bool} (h : ScanFr hex s p0 pos l b p) (hp : ¬ pos < s.size) : scanL hex false (s.data.toList.drop p0) = (l, b, s.data.toList.drop pos) := by
  have : s.data.toList.drop pos = [] := List.drop_eq_nil_of_le (by simp; omega)
  rw [h.hscan, this, scanL]
  simp

def baseN (hex : Bool) : Nat := if hex then 16 else 10
theorem natL_snoc (B : Nat) (l : List Nat) (d : Nat) : natL B (l ++ [d]) = natL B l * B + d := by simp [natL, List.foldl_append]
theorem natL_bits {hex : Bool} : ∀ (l : List Nat), (∀ d ∈ l, d < 16) → natL (baseN hex) l < 2 ^ (4 * l.length) := by
  suffices H : ∀ (r : List Nat), (∀ d ∈ r, d < 16) → natL (baseN hex) r.reverse < 2 ^ (4 * r.length) by
    intro l hl
    have := H l.reverse (fun d hd => hl d (List.mem_reverse.1 hd))
    rwa [List.reverse_reverse, List.length_reverse] at this
  intro r
  induction r with
  | nil => intro _; exact Nat.zero_lt_one
  | cons d t ih =>
    intro h
    rw [List.reverse_cons, natL_snoc]
    have h1 := ih (fun x hx => h x (List.mem_cons_of_mem _ hx))
    have h2 := h d (List.mem_cons_self ..)
    rw [List.length_cons, show 4 * (t.length + 1) = 4 * t.length + 4 by omega, Nat.pow_add]
    have h3 : baseN hex ≤ 16 := by cases hex <;> decide
    have h4 := Nat.mul_le_mul_left (natL (baseN hex) t.reverse) h3
    generalize natL (baseN hex) t.reverse * baseN hex = y at *
    generalize natL (baseN hex) t.reverse = x at *
    generalize 2 ^ (4 * t.length) = z at *
    omega

def Man28 (hex : Bool) (s : ByteArray) (p0 : Nat) (w : World) (e : Ending) (w' : World) : Prop :=
  ∃ v, e = .returned (.tuple #[v, .int .i64 (((scanL hex false (s.data.toList.drop p0)).2.1 : Nat) : Int), .int .i64 ((s.size - (scanL hex false (s.data.toList.drop p0)).2.2.length : Nat) : Int), .bool (decide (0 < (scanL hex false (s.data.toList.drop p0)).1.length))]) ∧
    Num w.heap.size w' v (natL (baseN hex) (scanL hex false (s.data.toList.drop p0)).1) ∧ Below w.heap.size w w'
theorem man28 {hex : Bool} {s : ByteArray} {p0 : Nat} {w w' : World} {l : List Nat} {b pos : Nat} {v : Value} {q : Bool} (hpos : pos ≤ s.size) (h : scanL hex false (s.data.toList.drop p0) = (l, b, s.data.toList.drop pos)) (hq : q = decide (0 < l.length))
    (hn : Num w.heap.size w' v (natL (baseN hex) l)) (hb : Below w.heap.size w w') : Man28 hex s p0 w (.returned (.tuple #[v, .int .i64 ((b : Nat) : Int), .int .i64 ((pos : Nat) : Int), .bool q])) w' := by
  unfold Man28
  rw [h]
  subst hq
  refine ⟨v, ?_, hn, hb⟩
  have : s.size - (s.data.toList.drop pos).length = pos := by
    have h2 : s.data.toList.length = s.size := by simp
    rw [List.length_drop, h2]; omega
  simp only [this]

set_option maxRecDepth 1000000 in
set_option maxHeartbeats 1000000 in
theorem mantissa28_any (hex : Bool) (s : ByteArray) (p0 : Nat) (w : World) (hs : s.size ≤ 4096) (hp0 : p0 ≤ s.size) (hlow : hex = true → ∀ c ∈ s.data.toList, ¬ (65 ≤ c.toNat ∧ c.toNat ≤ 90)) :
    Calls Tryz.prog 57 #[.string s, .int .i64 ((p0 : Nat) : Int), .int .i64 ((baseN hex : Nat) : Int)] w (Man28 hex s p0 w) := by
  have hD := fun c w (hc : c < 256) => digit28_any hex c w hc
  rw [show (if hex then (16 : Int) else 10) = ((baseN hex : Nat) : Int) by cases hex <;> rfl] at hD
  have hnb := @natL_bits hex
  have hB16 : baseN hex ≤ 16 := by cases hex <;> decide
  have hman := fun w' l b pos v q => @man28 hex s p0 w w' l b pos v q
  generalize Man28 hex s p0 w = Post at *
  have hsn := natL_snoc (baseN hex)
  generalize baseN hex = B at *
  have HD := Lib.hid hD
  have HNB := Lib.hid hnb
  have HSN := Lib.hid hsn
  have HMAN := Lib.hid hman
  have HLOW := Lib.hid hlow
  clear hD hnb hsn hman hlow
  have hsc0 := ScanFr.start hex s p0 hp0
  have hBw : IntKind.u64.wrap ((B : Nat) : Int) = ((B : Nat) : Int) := by rw [IntKind.wrap_u64]; omega
  go_enter Tryz.func57, Tryz.ntmps57
  go_wp2_with fail
  go_loopw [1, 10, 11, 12, 13] (fun u1 u10 u11 u12 u13 wr => ∃ (pos b : Nat) (l : List Nat) (p q : Bool), u1 = .int .i64 ((pos : Nat) : Int) ∧ Num w.heap.size wr u10 (natL B l) ∧ u11 = .int .i64 ((b : Nat) : Int) ∧ u12 = .bool q ∧ Hid (q = decide (0 < l.length)) ∧ u13 = .bool p ∧ ScanFr hex s p0 pos l b p ∧ Below w.heap.size w wr) (fun u1 _ _ _ _ _ => s.size - (intOf u1).toNat)
  case atStart => exact ⟨p0, 0, [], false, false, rfl, Num.zero _ _ _ _ (by decide), rfl, rfl, Lib.hid rfl, rfl, hsc0, Below.refl _ _⟩
  case round =>
    clear hsc0
    obtain ⟨pos, b, l, p, q, rfl, hnum, rfl, rfl, hq, rfl, hsc, hbw⟩ := hrel
    have hposs := hsc.hpos
    have hlen := hsc.hlen
    have hbeh := hsc.hbeh
    obtain ⟨x10, c10, rfl⟩ := num_slice hnum
    by_cases hp : pos < s.size
    · have hpi : ((pos : Nat) : Int) < ((s.size : Nat) : Int) := by omega
      have hmem : s[pos]'hp ∈ s.data.toList := by
        have h2 : pos < s.data.toList.length := by simpa using hp
        exact List.getElem_mem h2
      obtain ⟨d1, d2⟩ := dig3_of (hex := hex) (c := s[pos]'hp) (fun h => HLOW.out h _ hmem)
      have hclt := (s[pos]'hp).toNat_lt
      clear hmem
      by_cases hd : 0 ≤ digB hex (s[pos]'hp)
      · obtain ⟨d3, d4⟩ := d1 hd
        have hsc2 := hsc.digit hp hd
        have hn46 : ¬ (((s[pos]'hp).toNat : Nat) : Int) = 46 := by
          intro h
          have h46 : s[pos]'hp = 46 := UInt8.toNat_inj.1 (by show (s[pos]'hp).toNat = 46; omega)
          rw [h46] at hd
          revert hd
          cases hex <;> decide
        have hd2 := HD.out (s[pos]'hp).toNat wr (by omega)
        rw [← d3] at hsc2
        generalize dig3 hex (s[pos]'hp).toNat = d at *
        have HD2 := Lib.hid hd2
        have HSC := Lib.hid hsc2
        have hd99 : ¬ ((d : Nat) : Int) = 99 := by omega
        have hdw : IntKind.u64.wrap ((d : Nat) : Int) = ((d : Nat) : Int) := by rw [IntKind.wrap_u64]; omega
        have hlb : natL B l < 2 ^ (4 * l.length) := HNB.out l hsc.hdig
        have hlb2 : bl (natL B l) ≤ 20000 := Nat.le_trans (bl_le hlb) (by omega)
        have hBb : bl B ≤ 64 := bl_le (Nat.lt_of_le_of_lt hB16 (by decide))
        have hdb : bl d ≤ 64 := bl_le (Nat.lt_trans d4 (by decide))
        have hm := fun w v t (h : Num 0 w v (natL B l)) (ht : Num 0 w t B) => Mul03_any 0 v t _ _ w h.words ht.words (Nat.le_trans (limbs3 (K := 1000) (by omega)) (by omega)) (Nat.le_trans (limbs3 (K := 1000) (by omega)) (by omega))
        have ha := fun w v t (h : Num 0 w v (natL B l * B)) (ht : Num 0 w t d) => Add03_any 0 v t _ _ w h.words ht.words (Nat.le_trans (limbs3 (K := 1000) (by have := bl_mul3 (natL B l) B; omega)) (by omega)) (Nat.le_trans (limbs3 (K := 1000) (by omega)) (by omega))
        have ho := fun (n : Nat) w (h : n < 18446744073709551616) => Of03_any (n : Int) w (by omega) (by omega)
        simp only [valN_limbsOf, Int.toNat_natCast] at hm ha ho
        have HM := Lib.hid hm
        have HA := Lib.hid ha
        have HO := Lib.hid ho
        clear hsc hsc2 hd2 d1 d2 d3 hd hm ha ho hlb hlb2 hBb hdb HMAN HLOW
        cases p with
        | true =>
          go_wp2_with fail
          refine HD2.out.mono ?_
          rintro en w1 ⟨rfl, hw⟩
          subst hw
          go_wp2_with fail
          refine (HO.out B _ (by omega)).mono ?_
          rintro en w2 ⟨v2, rfl, hv2, hb2⟩
          obtain ⟨x2, c2, rfl⟩ := num_slice hv2
          have hbw2 := hbw.trans (hb2.mono hbw.size)
          go_wp2_with fail
          refine (HM.out _ _ _ ((hnum.call hb2).mono (Nat.zero_le _)) (hv2.mono (Nat.zero_le _))).mono ?_
          rintro en w3 ⟨v3, rfl, hv3, hb3⟩
          obtain ⟨x3, c3, rfl⟩ := num_slice hv3
          have hbw3 := hbw2.trans (hb3.mono hbw2.size)
          go_wp2_with fail
          refine (HO.out d _ (by omega)).mono ?_
          rintro en w4 ⟨v4, rfl, hv4, hb4⟩
          obtain ⟨x4, c4, rfl⟩ := num_slice hv4
          have hbw4 := hbw3.trans (hb4.mono hbw3.size)
          go_wp2_with fail
          refine (HA.out _ _ _ ((hv3.call hb4).mono (Nat.zero_le _)) (hv4.mono (Nat.zero_le _))).mono ?_
          rintro en w5 ⟨v5, rfl, hv5, hb5⟩
          obtain ⟨x5, c5, rfl⟩ := num_slice hv5
          have hbw5 := hbw4.trans (hb5.mono hbw4.size)
          go_wp2_with fail
          go_roundw
          case rel =>
            refine ⟨pos + 1, b + (if true then 1 else 0), l ++ [d], true, true, by go_num, ?_, by go_num, rfl, Lib.hid (by simp), rfl, HSC.out, hbw5⟩
            rw [HSN.out]
            exact hv5.mono hbw4.size
          case measure => simp [intOf]; omega
        | false =>
          go_wp2_with fail
          refine HD2.out.mono ?_
          rintro en w1 ⟨rfl, hw⟩
          subst hw
          go_wp2_with fail
          refine (HO.out B _ (by omega)).mono ?_
          rintro en w2 ⟨v2, rfl, hv2, hb2⟩
          obtain ⟨x2, c2, rfl⟩ := num_slice hv2
          have hbw2 := hbw.trans (hb2.mono hbw.size)
          go_wp2_with fail
          refine (HM.out _ _ _ ((hnum.call hb2).mono (Nat.zero_le _)) (hv2.mono (Nat.zero_le _))).mono ?_
          rintro en w3 ⟨v3, rfl, hv3, hb3⟩
          obtain ⟨x3, c3, rfl⟩ := num_slice hv3
          have hbw3 := hbw2.trans (hb3.mono hbw2.size)
          go_wp2_with fail
          refine (HO.out d _ (by omega)).mono ?_
          rintro en w4 ⟨v4, rfl, hv4, hb4⟩
          obtain ⟨x4, c4, rfl⟩ := num_slice hv4
          have hbw4 := hbw3.trans (hb4.mono hbw3.size)
          go_wp2_with fail
          refine (HA.out _ _ _ ((hv3.call hb4).mono (Nat.zero_le _)) (hv4.mono (Nat.zero_le _))).mono ?_
          rintro en w5 ⟨v5, rfl, hv5, hb5⟩
          obtain ⟨x5, c5, rfl⟩ := num_slice hv5
          have hbw5 := hbw4.trans (hb5.mono hbw4.size)
          go_wp2_with fail
          go_roundw
          case rel =>
            refine ⟨pos + 1, b + (if false then 1 else 0), l ++ [d], false, true, by go_num, ?_, by go_num, rfl, Lib.hid (by simp), rfl, HSC.out, hbw5⟩
            rw [HSN.out]
            exact hv5.mono hbw4.size
          case measure => simp [intOf]; omega
      · have d3 := d2 hd
        by_cases hpt : s[pos]'hp = 46 ∧ p = false
        · obtain ⟨h46, rfl⟩ := hpt
          have HSC := Lib.hid (hsc.point hp hd h46)
          have e46 : (((s[pos]'hp).toNat : Nat) : Int) = 46 := by rw [h46]; rfl
          clear hsc d1 d2 hd d3 h46 HMAN HLOW
          go_wp2_with fail
          go_roundw
          case rel => exact ⟨pos + 1, b, l, true, q, by go_num, hnum, rfl, rfl, hq, rfl, HSC.out, hbw⟩
          case measure => simp [intOf]; omega
        · have HST := Lib.hid (hsc.stop hp hd hpt)
          have hd2 := HD.out (s[pos]'hp).toNat wr (by omega)
          rw [d3] at hd2
          have HD2 := Lib.hid hd2
          by_cases h46 : s[pos]'hp = 46
          · cases p with
            | false => exact absurd ⟨h46, rfl⟩ hpt
            | true =>
              have e46 : (((s[pos]'hp).toNat : Nat) : Int) = 46 := by rw [h46]; rfl
              rw [h46] at HD2
              clear hsc d1 d2 hd d3 h46 hpt hd2
              go_wp2_with fail
              refine HD2.out.mono ?_
              rintro en w1 ⟨rfl, hw⟩
              subst hw
              go_wp2_with fail
              exact bodyPost_ret (v := .tuple #[.slice x10 (limbsOf (natL B l)).length c10, .int .i64 ((b : Nat) : Int), .int .i64 ((pos : Nat) : Int), .bool q]) (by simp [results, Tryz.results57, go_sem]; try rfl) rfl (HMAN.out _ l b pos _ q hposs HST.out hq.out hnum hbw)
          · have e46 : ¬ (((s[pos]'hp).toNat : Nat) : Int) = 46 := fun h => h46 (UInt8.toNat_inj.1 (by show (s[pos]'hp).toNat = 46; omega))
            clear hsc d1 d2 hd d3 h46 hpt hd2
            go_wp2_with fail
            refine HD2.out.mono ?_
            rintro en w1 ⟨rfl, hw⟩
            subst hw
            go_wp2_with fail
            exact bodyPost_ret (v := .tuple #[.slice x10 (limbsOf (natL B l)).length c10, .int .i64 ((b : Nat) : Int), .int .i64 ((pos : Nat) : Int), .bool q]) (by simp [results, Tryz.results57, go_sem]; try rfl) rfl (HMAN.out _ l b pos _ q hposs HST.out hq.out hnum hbw)
    · have HST := Lib.hid (hsc.done hp)
      have hpi : ¬ ((pos : Nat) : Int) < ((s.size : Nat) : Int) := by omega
      clear hsc hp
      go_wp2_with fail
      exact bodyPost_ret (v := .tuple #[.slice x10 (limbsOf (natL B l)).length c10, .int .i64 ((b : Nat) : Int), .int .i64 ((pos : Nat) : Int), .bool q]) (by simp [results, Tryz.results57, go_sem]; try rfl) rfl (HMAN.out _ l b pos _ q hposs HST.out hq.out hnum hbw)
end Go.Proofs.YtkfbailpifmdcaaGreatDoor
end

section
namespace Go.Proofs.YtkfbailpifmdcaaGreatDoor
open Go.RowKit

/-- Digits to the end, cut at 100000. -/
def expG3 : Nat → List UInt8 → Option Nat
  | n, [] => some n
  | n, c :: t => if 0 ≤ decR (c.toNat : Int) then expG3 (min (n * 10 + (decR (c.toNat : Int)).toNat) 100000) t else none
def exp3P (s : List UInt8) : Int × Bool := if expT s = [] then (0, false) else match expG3 0 (expT s) with
  | none => (0, false)
  | some n => (if Lib.hasPrefix s [45] then -((n : Nat) : Int) else ((n : Nat) : Int), true)
theorem expG3_le : ∀ (l : List UInt8) (n k : Nat), n ≤ 100000 → expG3 n l = some k → k ≤ 100000
  | [], n, k, h, e => by simp only [expG3, Option.some.injEq] at e; omega
  | c :: t, n, k, h, e => by
    rw [expG3] at e
    split at e
    · exact expG3_le t _ k (Nat.min_le_right _ _) e
    · cases e
theorem expG3_min : ∀ (l : List UInt8) (n : Nat), expG3 (min n 100000) l = (expG n l).map (fun k => min k 100000)
  | [], n => rfl
  | c :: t, n => by
    rw [expG3, expG]
    split
    · rw [← expG3_min t]
      congr 1
      omega
    · rfl
theorem head_prefix {s : ByteArray} (h : 0 < s.size) (c : UInt8) : Lib.hasPrefix s.data.toList [c] = (c == s[0]'h) := by
  have := drop_at s 0 h
  rw [List.drop_zero] at this
  rw [this]
  simp [Lib.hasPrefix, List.isPrefixOf]
theorem nil_prefix {s : ByteArray} (h : ¬ 0 < s.size) (c : UInt8) : Lib.hasPrefix s.data.toList [c] = false := by
  have : s.data.toList = [] := List.eq_nil_of_length_eq_zero (by have h2 : s.data.toList.length = s.size := by simp
                                                                 omega)
  rw [this]
  rfl

set_option maxRecDepth 1000000 in
set_option maxHeartbeats 1000000 in
theorem exponent28_any (s : ByteArray) (w : World) (hs : s.size ≤ 100000) :
    Calls Tryz.prog 68 #[.string s] w fun en w' => en = .returned (.tuple #[.int .i64 (exp3P s.data.toList).1, .bool (exp3P s.data.toList).2]) ∧ Below w.heap.size w w' := by
  obtain ⟨R, hR⟩ : ∃ R, exp3P s.data.toList = R := ⟨_, rfl⟩
  rw [hR]
  unfold exp3P at hR
  obtain ⟨neg, hneg⟩ : ∃ b, Lib.hasPrefix s.data.toList [45] = b := ⟨_, rfl⟩
  obtain ⟨plus, hplus⟩ : ∃ b, Lib.hasPrefix s.data.toList [43] = b := ⟨_, rfl⟩
  rw [hneg] at hR
  have HR := Lib.hid hR
  have HN := Lib.hid hneg
  have HP := Lib.hid hplus
  clear hR hneg hplus
  go_enter Tryz.func68, Tryz.ntmps68
  go_upto_region 2 with fail
  go_cut [20] (fun u20 wx => u20 = .bool (neg || plus) ∧ wx = w)
  case first =>
    by_cases hz : 0 < s.size
    · have hzi : (0 : Int) < ((s.size : Nat) : Int) := by omega
      have h1 := HN.out
      have h2 := HP.out
      rw [head_prefix hz] at h1 h2
      have hb := (s[0]'hz).toNat_lt
      by_cases h43 : s[0]'hz = 43
      · have e43 : (((s[0]'hz).toNat : Nat) : Int) = 43 := by rw [h43]; rfl
        have hp : plus = true := by rw [← h2, h43]; rfl
        subst hp
        clear h1 h2 h43
        go_wp2_with fail
        go_meet
        exact ⟨by simp, rfl⟩
      · have e43 : ¬ (((s[0]'hz).toNat : Nat) : Int) = 43 := fun h => h43 (UInt8.toNat_inj.1 (by show (s[0]'hz).toNat = 43; omega))
        have hp : plus = false := by rw [← h2]; exact beq_eq_false_iff_ne.2 (fun h => h43 h.symm)
        subst hp
        have h3 : (((s[0]'hz).toNat : Nat) : Int) = 45 ↔ neg = true := by
          rw [← h1, beq_iff_eq]
          exact ⟨fun h => (UInt8.toNat_inj.1 (by show (s[0]'hz).toNat = 45; omega)).symm, fun h => by rw [← h]; rfl⟩
        cases neg with
        | true =>
          have e45 := h3.2 rfl
          clear h1 h2 h3 h43
          go_wp2_with fail
          go_meet
          exact ⟨rfl, rfl⟩
        | false =>
          have e45 : ¬ (((s[0]'hz).toNat : Nat) : Int) = 45 := fun h => by have := h3.1 h; cases this
          clear h1 h2 h3 h43
          go_wp2_with fail
          go_meet
          exact ⟨by simp [beq_eq_false_iff_ne.2 e43, beq_eq_false_iff_ne.2 e45], rfl⟩
    · have hzi : ¬ (0 : Int) < ((s.size : Nat) : Int) := by omega
      have h1 := HN.out
      have h2 := HP.out
      rw [nil_prefix hz] at h1 h2
      subst h1 h2
      go_wp2_with fail
      go_meet
      exact ⟨rfl, rfl⟩
  case rest =>
    obtain ⟨rfl, rfl⟩ := hcut
    go_upto_if 20 with fail
    go_cut [0, 4] (fun u0 u4 wx => ∃ t : ByteArray, u0 = .string t ∧ u4 = .bool neg ∧ t.data.toList = expT s.data.toList ∧ wx = wc)
    case first =>
      cases hnp : (neg || plus) with
      | true =>
        have h1 : 1 ≤ s.size := prefix_one (by rw [HN.out, HP.out]; exact hnp)
        have hz : 0 < s.size := h1
        have h1i : (1 : Int) ≤ ((s.size : Nat) : Int) := by omega
        have hzi : (0 : Int) < ((s.size : Nat) : Int) := by omega
        have hb := (s[0]'hz).toNat_lt
        have h3 : (((s[0]'hz).toNat : Nat) : Int) = 45 ↔ neg = true := by
          rw [← HN.out, head_prefix hz, beq_iff_eq]
          exact ⟨fun h => (UInt8.toNat_inj.1 (by show (s[0]'hz).toNat = 45; omega)).symm, fun h => by rw [← h]; rfl⟩
        have hq : decide ((((s[0]'hz).toNat : Nat) : Int) = 45) = neg := by
          rw [Bool.eq_iff_iff, decide_eq_true_iff]; exact h3
        have hq2 : ((((s[0]'hz).toNat : Nat) : Int) == 45) = neg := by
          rw [Bool.eq_iff_iff, beq_iff_eq]; exact h3
        have ht : (⟨(s.data.toList.drop 1).toArray⟩ : ByteArray).data.toList = expT s.data.toList := by
          have e1 := HN.out
          have e2 := HP.out
          simp only [expT, e1, e2, hnp, if_true]
        have HT := Lib.hid ht
        clear h3 ht
        go_wp2_with fail
        go_meet
        refine ⟨_, rfl, ?_, ?_, rfl⟩
        · first | rfl | rw [hq2] | rw [hq]
        rw [extract_tail s 1]
        exact HT.out
      | false =>
        have hn : neg = false := by cases neg <;> simp_all
        have ht : s.data.toList = expT s.data.toList := by
          have e1 := HN.out
          have e2 := HP.out
          simp only [expT, e1, e2, hnp, Bool.false_eq_true, if_false]
        subst hn
        have HT := Lib.hid ht
        clear ht
        go_wp2_with fail
        go_meet
        exact ⟨_, rfl, rfl, HT.out, rfl⟩
    case rest =>
      obtain ⟨t, rfl, rfl, ht, rfl⟩ := hcut
      have hts : t.size ≤ 100000 := by
        have h1 : t.size = t.data.toList.length := by simp
        have h2 : s.size = s.data.toList.length := by simp
        rw [h1, ht]
        unfold expT
        split
        · rw [List.length_drop]; omega
        · omega
      have hR2 := HR.out
      rw [← ht] at hR2
      have HR2 := Lib.hid hR2
      clear hR2 HR ht
      have hfin : ∀ (x : Int) (b : Bool) (wr : World), R = (x, b) → Below wc.heap.size wc wr → (Ending.returned (Value.tuple #[.int .i64 x, .bool b]) = .returned (.tuple #[.int .i64 R.1, .bool R.2]) ∧ Below wc.heap.size wc wr) := by
        intro x b wr h1 h2
        rw [h1]
        exact ⟨rfl, h2⟩
      by_cases ht0 : t = ⟨#[]⟩
      · subst ht0
        have hr := HR2.out
        rw [if_pos rfl] at hr
        have HF := Lib.hid (hfin 0 false wc hr.symm (Below.refl _ _))
        clear hfin hr
        go_wp2_with fail
        exact bodyPost_ret (v := .tuple #[.int .i64 0, .bool false]) (by simp [results, Tryz.results68, go_sem]; try rfl) rfl HF.out
      · have hr := HR2.out
        rw [if_neg (by intro h; exact ht0 (ByteArray.ext (Array.ext' h)))] at hr
        have HR3 := Lib.hid hr
        have HFIN := Lib.hid hfin
        clear hr HR2 hfin
        have htd : t.toList.isEmpty = false := by
          rw [bytes_empty]
          cases h : t.data.isEmpty with
          | true => exact absurd (ByteArray.ext (Array.isEmpty_iff.1 h)) ht0
          | false => rfl
        go_wp2_with fail
        go_loopw [5, 6] (fun u5 u6 wr => ∃ (pos n : Nat), u6 = .int .i64 ((pos : Nat) : Int) ∧ u5 = .int .i64 ((n : Nat) : Int) ∧ pos ≤ t.size ∧ n ≤ 100000 ∧ Hid (expG3 0 t.data.toList = expG3 n (t.data.toList.drop pos)) ∧ wr = wc) (fun _ u6 _ => t.size - (intOf u6).toNat)
        case atStart => exact ⟨0, 0, rfl, rfl, Nat.zero_le _, by omega, by simp [Hid], rfl⟩
        case round =>
          obtain ⟨pos, n, rfl, rfl, hposs, hn, HG, rfl⟩ := hrel
          by_cases hp : pos < t.size
          · have hpi : ((pos : Nat) : Int) < ((t.size : Nat) : Int) := by omega
            have hdp := drop_at t pos hp
            have hg := HG.out
            rw [hdp, expG3] at hg
            have hclt := (t[pos]'hp).toNat_lt
            obtain ⟨d1, d2⟩ := dig3_of (hex := false) (c := t[pos]'hp) (fun h => by cases h)
            have hD := digit28_any false (t[pos]'hp).toNat wr (by omega)
            have hD9 : decR ((t[pos]'hp).toNat : Int) ≤ 9 := by simp only [decR]; split <;> omega
            by_cases hd : 0 ≤ digB false (t[pos]'hp)
            · have hd' : 0 ≤ decR ((t[pos]'hp).toNat : Int) := hd
              obtain ⟨d3, d4⟩ := d1 hd
              have d3' : dig3 false (t[pos]'hp).toNat = (decR ((t[pos]'hp).toNat : Int)).toNat := d3
              rw [if_pos hd', ← d3'] at hg
              have hd10 : dig3 false (t[pos]'hp).toNat ≤ 9 := by omega
              generalize dig3 false (t[pos]'hp).toNat = d at *
              have HG2 := Lib.hid hg
              have HD := Lib.hid hD
              have hd99 : ¬ ((d : Nat) : Int) = 99 := by omega
              have hmin : min (10 * ((n : Nat) : Int) + ((d : Nat) : Int)) 100000 = ((min (n * 10 + d) 100000 : Nat) : Int) := by omega
              have hmle : min (n * 10 + d) 100000 ≤ 100000 := Nat.min_le_right _ _
              clear hg HG hdp d1 d2 d3 d3' d4 hd hd' hD hD9
              go_wp2_with fail
              refine HD.out.mono ?_
              rintro en w1 ⟨rfl, hw⟩
              subst hw
              go_wp2_with fail
              go_roundw
              case rel => exact ⟨pos + 1, _, by go_num, hmin ▸ rfl, by omega, hmle, HG2, (by first | rfl | trivial)⟩
              case measure => simp [intOf]; omega
            · have hd' : ¬ 0 ≤ decR ((t[pos]'hp).toNat : Int) := hd
              rw [if_neg hd'] at hg
              have hr := HR3.out
              rw [hg] at hr
              rw [d2 hd] at hD
              have HF := Lib.hid (HFIN.out 0 false wr hr.symm (Below.refl _ _))
              have HD := Lib.hid hD
              clear hg HG hdp d1 d2 hd hd' hD hD9 hr
              go_wp2_with fail
              refine HD.out.mono ?_
              rintro en w1 ⟨rfl, hw⟩
              subst hw
              go_wp2_with fail
              exact bodyPost_ret (v := .tuple #[.int .i64 0, .bool false]) (by simp [results, Tryz.results68, go_sem]; try rfl) rfl HF.out
          · have hpi : ¬ ((pos : Nat) : Int) < ((t.size : Nat) : Int) := by omega
            have hg := HG.out
            have hnil : t.data.toList.drop pos = [] := List.drop_eq_nil_of_le (by simp; omega)
            rw [hnil, expG3] at hg
            have hr := HR3.out
            rw [hg] at hr
            cases neg with
            | true =>
              have HF := Lib.hid (HFIN.out (-((n : Nat) : Int)) true wr hr.symm (Below.refl _ _))
              clear hg HG hnil hr hp
              go_wp2_with fail
              exact bodyPost_ret (v := .tuple #[.int .i64 (-((n : Nat) : Int)), .bool true]) (by simp [results, Tryz.results68, go_sem]; try rfl) rfl HF.out
            | false =>
              have HF := Lib.hid (HFIN.out ((n : Nat) : Int) true wr hr.symm (Below.refl _ _))
              clear hg HG hnil hr hp
              go_wp2_with fail
              exact bodyPost_ret (v := .tuple #[.int .i64 ((n : Nat) : Int), .bool true]) (by simp [results, Tryz.results68, go_sem]; try rfl) rfl HF.out

set_option maxRecDepth 100000 in
set_option maxHeartbeats 600000 in
theorem decimal28_any (lo : Nat) (a : Value) (n : Nat) (w : World) (ha : Num lo w a n) (hnb : bl n ≤ 20000) :
    Calls Tryz.prog 58 #[a] w fun e w' => e = .returned (.int .i64 (((if n = 0 then 0 else (Lib.decDigits n).length : Nat) : Nat) : Int)) ∧ Below w.heap.size w w' := by
  have hT := Text03_any lo a (limbsOf n) w ha.words (Nat.le_trans (limbs3 (K := 1000) (by omega)) (by omega))
  rw [valN_limbsOf] at hT
  obtain ⟨px, cx, rfl⟩ := num_slice ha
  have hz := @limbsOf_len_zero n
  have HT := Lib.hid hT
  clear hT
  by_cases hn : n = 0
  · rw [if_pos hn]
    have e0 : (((limbsOf n).length : Int) == 0) = true := beq_iff_eq.2 (by have := hz.2 hn; omega)
    clear hn hz
    go_enter Tryz.func58, Tryz.ntmps58
    go_wp2_with fail
    go_ret
    exact ⟨rfl, Below.refl _ _⟩
  · rw [if_neg hn]
    have e0 : (((limbsOf n).length : Int) == 0) = false := beq_eq_false_iff_ne.2 (by have := mt hz.1 hn; omega)
    clear hn hz
    go_enter Tryz.func58, Tryz.ntmps58
    go_wp2_with fail
    refine HT.out.mono ?_
    rintro en w2 ⟨rfl, hb2⟩
    go_wp2_with fail
    go_ret
    exact ⟨by first | rfl | simp, hb2⟩
end Go.Proofs.YtkfbailpifmdcaaGreatDoor
end
