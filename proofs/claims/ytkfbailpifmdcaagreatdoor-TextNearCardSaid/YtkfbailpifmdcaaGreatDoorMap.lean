/- PlnB PlnC Lift Tabs -/
import Derived.Test.YtkfbailpifmdcaaGreatDoorMao
import Derived.Test.YtkfbailpifmdcaaGreatDoorRows
import Derived.WalkKit
import Derived.ProofKit
import Derived.OpenShut
import Derived.Carry
import Derived.Test.YtkfbailpifmdcaaGreatDoorMan
import Derived.Lib.LaidU8
import Derived.Lay
section
namespace Go.Proofs.YtkfbailpifmdcaaGreatDoor
open Go.RowKit

/-- The number's digits, as a whole number: the number is bigA / 10 ^ (-nE). -/
def bigA (m : Nat) (e : Int) : Nat := m * 2 ^ e.toNat * 5 ^ (-e).toNat
theorem bigA_pos {m : Nat} {e : Int} (h : m ≠ 0) : bigA m e ≠ 0 := by
  unfold bigA
  have h2 := Nat.two_pow_pos e.toNat
  have h5 : 0 < 5 ^ (-e).toNat := Nat.pow_pos (by decide)
  exact Nat.mul_ne_zero (Nat.mul_ne_zero h (by omega)) (by omega)
theorem frac_eq {N D A B : Nat} (hD : 0 < D) (hB : 0 < B) (h : N * B = A * D) : N / D = A / B ∧ (N % D = 0 ↔ A % B = 0) := by
  constructor
  · rw [← Nat.mul_div_mul_right N D hB, h, Nat.mul_comm D B, Nat.mul_div_mul_right A B hD]
  · have h1 : N % D * B = A % B * D := by
      rw [← Nat.mul_mod_mul_right, ← Nat.mul_mod_mul_right, h, Nat.mul_comm D B]
    constructor
    · intro e
      rw [e, Nat.zero_mul] at h1
      rcases Nat.mul_eq_zero.1 h1.symm with h2 | h2
      · exact h2
      · omega
    · intro e
      rw [e, Nat.zero_mul] at h1
      rcases Nat.mul_eq_zero.1 h1 with h2 | h2
      · exact h2
      · omega
theorem ten_split (j : Nat) : 10 ^ j = 5 ^ j * 2 ^ j := by rw [← Nat.mul_pow]
theorem sc_low {m : Nat} {e k : Int} {i : Nat} (h : k = (-e).toNat - i) : scN m e k * 10 ^ i = bigA m e * scD e k := by
  have h1 : 10 ^ (-e).toNat * 10 ^ (-k).toNat = 10 ^ i * 10 ^ k.toNat := by
    rw [← Nat.pow_add, ← Nat.pow_add]
    congr 1
    omega
  have ht := ten_split (-e).toNat
  unfold scN scD bigA
  calc m * 2 ^ e.toNat * 10 ^ k.toNat * 10 ^ i = m * 2 ^ e.toNat * (10 ^ i * 10 ^ k.toNat) := by rw [Nat.mul_assoc, Nat.mul_comm (10 ^ k.toNat)]
    _ = m * 2 ^ e.toNat * (10 ^ (-e).toNat * 10 ^ (-k).toNat) := by rw [h1]
    _ = m * 2 ^ e.toNat * (5 ^ (-e).toNat * 2 ^ (-e).toNat * 10 ^ (-k).toNat) := by rw [ht]
    _ = m * 2 ^ e.toNat * 5 ^ (-e).toNat * (2 ^ (-e).toNat * 10 ^ (-k).toNat) := by simp only [Nat.mul_assoc]
theorem sc_high {m : Nat} {e k : Int} {i : Nat} (h : k = (-e).toNat + i) : scN m e k = bigA m e * 10 ^ i * scD e k := by
  have h1 : 10 ^ k.toNat = 10 ^ (-e).toNat * 10 ^ i := by
    rw [← Nat.pow_add]
    congr 1
    omega
  have h2 : (-k).toNat = 0 := by omega
  have ht := ten_split (-e).toNat
  unfold scN scD bigA
  rw [h1, h2, ht, Nat.pow_zero, Nat.mul_one]
  simp only [Nat.mul_assoc, Nat.mul_comm, Nat.mul_left_comm]
theorem q_ge {m : Nat} {x t : Int} (ht : geT m x t) (n : Nat) : 10 ^ n ≤ scN m x (n - t) / scD x (n - t) := by
  have h1 := scale_mul m x (-t) n
  rw [show -t + (n : Int) = n - t by omega] at h1
  unfold geT at ht
  rw [Nat.le_div_iff_mul_le (scD_pos _ _)]
  have hD := scD_pos x (-t)
  refine Nat.le_of_mul_le_mul_right (c := scD x (-t)) ?_ hD
  rw [h1]
  calc 10 ^ n * scD x (n - t) * scD x (-t) = scD x (-t) * 10 ^ n * scD x (n - t) := by simp only [Nat.mul_assoc, Nat.mul_comm, Nat.mul_left_comm]
    _ ≤ scN m x (-t) * 10 ^ n * scD x (n - t) := Nat.mul_le_mul_right _ (Nat.mul_le_mul_right _ ht)

theorem rndQ_zero {N D : Nat} (h : N % D = 0) (hD : 0 < D) : rndQ N D = N / D := by
  unfold rndQ upP cmpN
  rw [h, Nat.zero_mul, if_pos hD, if_neg (by simp)]
theorem rndQ_or (N D : Nat) : rndQ N D = N / D ∨ rndQ N D = N / D + 1 := by
  unfold rndQ
  split
  · exact Or.inr rfl
  · exact Or.inl rfl

/-- The text of so many digits, trimmed. -/
theorem digS_trim {q n : Nat} {t : Int} (hn : 1 ≤ n) (h1 : 10 ^ (n - 1) ≤ q) (h2 : q ≤ 10 ^ n) : trimL (digS q n t).1 = trimL (Lib.decDigits q) ∧ (digS q n t).1.length ≤ n ∧ ∃ c r, (digS q n t).1 = c :: r ∧ isD c ∧ c ≠ 48 ∧ ∀ d ∈ r, isD d := by
  obtain ⟨c, r, hcr, hc⟩ := dec_head (u := q) (by have : 0 < 10 ^ (n - 1) := Nat.pow_pos (by decide); omega)
  have hD := dec_isD q
  rw [hcr] at hD
  unfold digS
  by_cases h : q < 10 ^ n
  · have hl := dec_len_le n q (by omega) h
    rw [if_neg (by omega)]
    exact ⟨rfl, hl, c, r, hcr, hD c List.mem_cons_self, hc, fun d hd => hD d (List.mem_cons_of_mem _ hd)⟩
  · have e : q = 10 ^ n := by omega
    have hp := dec_pad n 1 0 (by decide) (Nat.pow_pos (by decide))
    rw [Nat.one_mul, Nat.add_zero, ← e, dec_small (u := 1) (by decide), padL_zero] at hp
    have hl : (Lib.decDigits q).length = n + 1 := by rw [hp]; simp
    rw [if_pos (by omega)]
    have htk : (Lib.decDigits q).take n = [dgB 1] ++ List.replicate (n - 1) 48 := by
      rw [hp, List.take_append, List.take_of_length_le (by simp; omega), List.take_replicate]
      congr 2
      simp
    refine ⟨?_, ?_, dgB 1, List.replicate (n - 1) 48, htk, by unfold isD; decide, by decide, ?_⟩
    · show trimL ((Lib.decDigits q).take n) = _
      rw [htk, trimL_zeros, hp, trimL_zeros]
    · show ((Lib.decDigits q).take n).length ≤ n
      exact List.length_take_le _ _
    · intro d hd
      rw [(List.mem_replicate.1 hd).2]
      unfold isD; decide

theorem sig_exact {x : Nat} (hm : nM x ≠ 0) : significantL (exactL x) = trimL (Lib.decDigits (bigA (nM x) (nE x))) := by
  unfold exactL bigA
  by_cases h0 : 0 ≤ nE x
  · rw [if_pos h0, show (-nE x).toNat = 0 by omega, Nat.pow_zero, Nat.mul_one, sig_dec]
    exact Nat.mul_ne_zero hm (by have := Nat.two_pow_pos (nE x).toNat; omega)
  · rw [if_neg h0, show (nE x).toNat = 0 by omega, Nat.pow_zero, Nat.mul_one]
    generalize hj : (-nE x).toNat = j
    have hj0 : 0 < j := by omega
    generalize nM x = m at *
    have hlt := exact_rest (m := m) (j := j)
    rw [pad_dec j _ hj0 hlt]
    have hA : m * 5 ^ j = m / 2 ^ j * 10 ^ j + m % 2 ^ j * 5 ^ j := by
      have h1 := Nat.div_add_mod m (2 ^ j)
      rw [ten_split, Nat.mul_comm (5 ^ j), ← Nat.mul_assoc, ← Nat.add_mul, Nat.mul_comm (m / 2 ^ j), h1]
    generalize hF : m % 2 ^ j * 5 ^ j = F at *
    generalize hI : m / 2 ^ j = I at *
    have hA0 : m * 5 ^ j ≠ 0 := Nat.mul_ne_zero hm (by have : 0 < 5 ^ j := Nat.pow_pos (by decide); omega)
    rw [hA] at hA0 ⊢
    unfold significantL
    rw [sigL_sign]
    by_cases hI0 : I = 0
    · subst hI0
      rw [Nat.zero_mul, Nat.zero_add] at hA0 ⊢
      have e0 : Lib.decDigits 0 = [48] := dec_small (by decide)
      rw [e0]
      have e1 : ([48] ++ 46 :: padL j F : List UInt8) = List.replicate 1 48 ++ (46 :: padL j F) := rfl
      rw [e1, sigL_zeros, sigL_skip (by decide) (by decide), ← pad_dec j F hj0 hlt, sigL_zeros]
      have := sig_dec (x := 0) hA0
      unfold significantL at this
      rw [sigL_sign] at this
      exact this
    · obtain ⟨c, r, e, hc⟩ := dec_head hI0
      have hD := dec_isD I
      rw [e] at hD
      rw [dec_pad j I F hI0 hlt, e, sigL_first (hD c List.mem_cons_self) hc (fun c h => hD c (List.mem_cons_of_mem _ h)), sigL_skip (by decide) (by decide)]
      have := sigL_acc (acc := c :: r) (r := []) (by simp) (padL_isD j F)
      rw [List.append_nil] at this
      rw [this, sigL]

set_option maxHeartbeats 1000000 in
theorem digits_law {x : Nat} {n t : Int} (hm : nM x ≠ 0) (hp : (plainP x [48]).2 = false) (ht : IsTop (nM x) (nE x) t) (h0 : (digitsP x n t).2 = 0) : DigLaw (significantL (exactL x)) (significantL (digitsP x n t).1) n := by
  unfold digitsP at h0 ⊢
  by_cases hb : n < 1 ∨ 1024 < n
  · rw [if_pos hb] at h0
    exact absurd h0 (by decide)
  rw [if_neg hb, hp, if_neg (by decide)]
  clear h0
  obtain ⟨k, rfl⟩ : ∃ k : Nat, n = (k : Int) := ⟨n.toNat, by omega⟩
  have hk : 1 ≤ k := by omega
  rw [Int.toNat_natCast]
  have hlo := q_ge ht.1 (k - 1)
  have hhi := q_lt ht.2 k
  rw [show (((k - 1 : Nat) : Int) - t) = (k : Int) - 1 - t by omega] at hlo
  rw [sig_exact hm]
  have hD := scD_pos (nE x) ((k : Int) - 1 - t)
  have hA0 := bigA_pos (e := nE x) hm
  have hkind : (∃ i, scN (nM x) (nE x) ((k : Int) - 1 - t) = bigA (nM x) (nE x) * 10 ^ i * scD (nE x) ((k : Int) - 1 - t)) ∨ (∃ i, scN (nM x) (nE x) ((k : Int) - 1 - t) * 10 ^ i = bigA (nM x) (nE x) * scD (nE x) ((k : Int) - 1 - t)) := by
    by_cases h : ((-nE x).toNat : Int) ≤ (k : Int) - 1 - t
    · exact Or.inl ⟨((k : Int) - 1 - t - ((-nE x).toNat : Int)).toNat, sc_high (by omega)⟩
    · exact Or.inr ⟨(((-nE x).toNat : Int) - ((k : Int) - 1 - t)).toNat, sc_low (by omega)⟩
  generalize scN (nM x) (nE x) ((k : Int) - 1 - t) = N at *
  generalize scD (nE x) ((k : Int) - 1 - t) = D at *
  generalize hA : bigA (nM x) (nE x) = A at *
  have hr := rndQ_or N D
  obtain ⟨g1, g2, c, r, g3, g4, g5, g6⟩ := digS_trim (q := rndQ N D) (n := k) (t := t) hk (by omega) (by omega)
  obtain ⟨c2, r2, hA2, hc2⟩ := dec_head hA0
  have hsci : significantL (sciL x (digS (rndQ N D) k t).1 (digS (rndQ N D) k t).2) = trimL (Lib.decDigits (rndQ N D)) := by
    rw [← g1, g3, sig_sci g4 g5 g6]
  rw [hsci]
  have hlen : (trimL (Lib.decDigits (rndQ N D))).length ≤ k := by
    rw [← g1]
    exact Nat.le_trans (trimL_len _) g2
  have hne1 : trimL (Lib.decDigits A) ≠ [] := by rw [hA2]; exact trimL_ne hc2
  have hne2 : trimL (Lib.decDigits (rndQ N D)) ≠ [] := by rw [← g1, g3]; exact trimL_ne g5
  refine ⟨by omega, hne1, hne2, ?_⟩
  rw [Int.toNat_natCast]
  rcases hkind with ⟨i, hi⟩ | ⟨i, hi⟩
  · have e1 : N / D = A * 10 ^ i := by rw [hi, Nat.mul_div_cancel _ hD]
    have e2 : N % D = 0 := by rw [hi, Nat.mul_mod_left]
    have e3 := rndQ_zero e2 hD
    rw [e3, e1] at hlen ⊢
    have e4 := dec_pad i A 0 hA0 (Nat.pow_pos (by decide))
    rw [Nat.add_zero, padL_zero] at e4
    rw [e4, trimL_zeros] at hlen ⊢
    exact ⟨fun _ => rfl, fun h => by omega⟩
  · obtain ⟨e1, e2⟩ := frac_eq hD (Nat.pow_pos (by decide)) hi
    have hq0 : A / 10 ^ i ≠ 0 := by
      have : 0 < 10 ^ (k - 1) := Nat.pow_pos (by decide)
      omega
    have hmod : A % 10 ^ i < 10 ^ i := Nat.mod_lt _ (Nat.pow_pos (by decide))
    have e4 := dec_pad i (A / 10 ^ i) (A % 10 ^ i) hq0 hmod
    rw [Nat.mul_comm, Nat.div_add_mod] at e4
    rw [e1] at hlo hhi hr
    have hql : (Lib.decDigits (A / 10 ^ i)).length = k := by
      have := dec_len_is (k := k - 1) hlo (by rw [show k - 1 + 1 = k by omega]; exact hhi)
      omega
    have htk : (Lib.decDigits A).take k = Lib.decDigits (A / 10 ^ i) := by
      rw [e4, List.take_append_of_le_length (by omega), List.take_of_length_le (by omega)]
    have hdr : (Lib.decDigits A).drop k = padL i (A % 10 ^ i) := by
      rw [e4, List.drop_append, List.drop_of_length_le (by omega), List.nil_append, hql, Nat.sub_self, List.drop_zero]
    constructor
    · intro h
      have hz := trimL_zero_tail (l := Lib.decDigits A) (n := k) (by omega)
      rw [hdr] at hz
      have e5 := padL_zero_of i _ hmod hz
      rw [rndQ_zero (e2.2 e5) hD, e1, ← htk, trimL_short (by omega)]
    · intro h
      rw [trimL_take (by omega), htk]
      rcases hr with hr | hr
      · left; rw [hr]
      · right; rw [hr, next_dec]
end Go.Proofs.YtkfbailpifmdcaaGreatDoor
end

section
namespace Go.Proofs.YtkfbailpifmdcaaGreatDoor
open Go.RowKit

theorem fin_facts {x : Nat} (h : finB x) : (plainP x [48]).2 = false ∧ vM x ≠ 0 := by
  have hlt : absN x < 9218868437227405312 ∧ absN x ≠ 0 ∧ vM x ≠ 0 := by
    unfold finB classN at h
    unfold absN vM
    have he : expN x = x / 4503599627370496 % 2048 := rfl
    generalize expN x = E at *
    split at h
    · split at h
      · omega
      · split at h <;> omega
    · split at h
      · rename_i h1 h2
        rw [if_neg (by omega)]
        omega
      · split at h
        · rename_i h1 h2 h3
          rw [if_pos (by omega)]
          omega
        · omega
  unfold plainP
  rw [if_neg (by omega), if_neg (by omega), if_neg (by omega)]
  exact ⟨rfl, hlt.2.2⟩
theorem nM_ne {x : Nat} (h : vM x ≠ 0) : nM x ≠ 0 := by
  unfold nM fAbs
  obtain ⟨m, h1, h2⟩ := tz_spec h
  have h3 : vM x / 2 ^ tz (vM x) = m := by
    conv => lhs; arg 1; rw [h1]
    exact Nat.mul_div_cancel_left _ (Nat.two_pow_pos _)
  rw [h3]
  omega
theorem top_num (x : Nat) : ∃ t, -2000 ≤ t ∧ t ≤ 2000 ∧ (nM x ≠ 0 → IsTop (nM x) (nE x) t) := by
  by_cases h : nM x = 0
  · exact ⟨0, by omega, by omega, fun q => absurd h q⟩
  · obtain ⟨t, h1, h2, h3⟩ := top_exists (x := nE x) h
    have h4 := nE_le x
    have h5 := nM_bl x
    exact ⟨t, by omega, by omega, fun _ => h3⟩
theorem signL_len (x : Nat) (s : List UInt8) : (signL x s).length ≤ s.length + 1 := by
  unfold signL
  split <;> simp
theorem sciL_len (x : Nat) (d : List UInt8) (e : Int) (h1 : -100000 ≤ e) (h2 : e ≤ 100000) : (sciL x d e).length ≤ d.length + 20 := by
  unfold sciL
  have h3 := signL_len x (pointL d ++ 101 :: Lib.itoa e)
  have h4 := itoa_len (e := e) (by omega) (by omega)
  have h5 : (pointL d).length ≤ d.length + 1 := by
    unfold pointL
    split
    · rename_i hd
      rw [List.length_append, List.length_cons, List.length_take, List.length_drop]; omega
    · omega
  rw [List.length_append, List.length_cons] at h3
  omega
theorem digS_len (q n : Nat) (t : Int) : (digS q n t).1.length ≤ n ∧ ((digS q n t).2 = t ∨ (digS q n t).2 = t + 1) := by
  unfold digS
  split
  · exact ⟨List.length_take_le _ _, Or.inr rfl⟩
  · exact ⟨by simp only; omega, Or.inl rfl⟩
theorem dec_two {u k : Nat} (hk : 0 < k) (h : u < 2 ^ k) : (Lib.decDigits u).length ≤ k := dec_len_le k u hk (Nat.lt_of_lt_of_le h (two_le_ten k))
theorem exactL_len (x : Nat) : (exactL x).length ≤ 5000 := by
  have h1 := nM_bl x
  have h2 := nE_le x
  have h3 := bl_lt (nM x)
  have h4 : nM x < 2 ^ 53 := Nat.lt_of_lt_of_le h3 (Nat.pow_le_pow_right (by decide) h1)
  unfold exactL
  by_cases h0 : 0 ≤ nE x
  · rw [if_pos h0]
    have h5 := signL_len x (Lib.decDigits (nM x * 2 ^ (nE x).toNat))
    have h6 : nM x * 2 ^ (nE x).toNat < 2 ^ (53 + (nE x).toNat) := by
      rw [Nat.pow_add]
      exact Nat.mul_lt_mul_of_pos_right h4 (Nat.two_pow_pos _)
    have h7 := dec_two (by omega) h6
    omega
  · rw [if_neg h0]
    generalize hj : (-nE x).toNat = j
    have hj0 : 0 < j := by omega
    rw [pad_dec j _ hj0 (exact_rest (m := nM x) (j := j))]
    have h5 := signL_len x (Lib.decDigits (nM x / 2 ^ j) ++ 46 :: padL j (nM x % 2 ^ j * 5 ^ j))
    rw [List.length_append, List.length_cons, padL_len] at h5
    have h6 := dec_two (u := nM x / 2 ^ j) (k := 53) (by decide) (Nat.lt_of_le_of_lt (Nat.div_le_self _ _) h4)
    omega

theorem digitsP_len {x : Nat} {n t : Int} (hp : (plainP x [48]).2 = false) (ht1 : -2000 ≤ t) (ht2 : t ≤ 2000) : (digitsP x n t).1.length ≤ 2000 ∧ ((digitsP x n t).2 ≠ 0 → digitsP x n t = ([], 2)) := by
  unfold digitsP
  by_cases hb : n < 1 ∨ 1024 < n
  · rw [if_pos hb]
    exact ⟨by simp, fun _ => rfl⟩
  · rw [if_neg hb, hp, if_neg (by decide)]
    obtain ⟨h1, h2⟩ := digS_len (rndQ (scN (nM x) (nE x) (n - 1 - t)) (scD (nE x) (n - 1 - t))) n.toNat t
    generalize digS (rndQ (scN (nM x) (nE x) (n - 1 - t)) (scD (nE x) (n - 1 - t))) n.toNat t = g at *
    have h3 := sciL_len x g.1 g.2 (by omega) (by omega)
    exact ⟨by simp only; omega, fun h => absurd rfl h⟩

theorem TextDigits_true (x : Nat) (n : Int) (w : World) (hx : x < 18446744073709551616) (hn1 : -9223372036854775808 ≤ n) (hn2 : n ≤ 9223372036854775807) (hT : TabW w) (hP : TabP w) :
    Calls Tryz.prog 6 #[.int .u64 ((x : Nat) : Int), .int .i64 n] w fun en w' => en = .returned (.bool true) ∧ Below w.heap.size w w' := by
  by_cases h : finB x
  · obtain ⟨h1, h2⟩ := fin_facts h
    have h3 := nM_ne h2
    obtain ⟨t, t1, t2, t3⟩ := top_num x
    have ht := t3 h3
    obtain ⟨h4, h5⟩ := digitsP_len (n := n) h1 t1 t2
    have h6 := exactL_len x
    exact TextDigits_any x n t w hx hn1 hn2 h h1 ht (digits_law h3 h1 ht) h5 (by omega) (by omega) t1 t2 hT hP
  · exact TextDigits_other x n w hx h hT hP
end Go.Proofs.YtkfbailpifmdcaaGreatDoor
end

section
namespace Go.Proofs.YtkfbailpifmdcaaGreatDoor
open Go.ChangeShapes Go.WideShapes Go.ChangeAt Go.RowKit

theorem Tryz.own : ownKnob Tryz.prog.godebug = none := by kernel_rfl
theorem Tryz.laidOut : laidOutB Tryz.prog = true := by kernel_rfl

section
variable {H : Type} {enc : TypeId × Value → H} {P : Program}
theorem trodAll_below (hl : laidOutB P = true) {W W' : World} (hb : Below W.heap.size W W') : ∀ (ts : List TypeId) (vs : List Value) (ds : List (DataW H)) (ps : List MemPlace),
    (∀ t ∈ ts, P.readableRec t = true ∧ t < P.types.size) → DataW.TrodAll enc P W 0 (fun _ => true) true ts vs ds ps → (∀ x ∈ ps, x.block < W.heap.size) →
    DataW.TrodAll enc P W' 0 (fun b => decide (b < W.heap.size)) true ts vs ds ps
  | [], [], [], _, _, h, _ => h
  | t :: ts, v :: vs, d :: ds, ps, hr, h, hlt => by
    obtain ⟨p, q, h1, h2, rfl⟩ := h
    refine ⟨p, q, Below.trod hl (hr t (by simp)).1 (hr t (by simp)).2 h1 hb fun x hx => hlt x (by simp [hx]), ?_, rfl⟩
    exact trodAll_below hl hb ts vs ds q (fun t' ht' => hr t' (by simp [ht'])) h2 fun x hx => hlt x (by simp [hx])
  | [], _ :: _, _, _, _, h, _ => h.elim
  | [], [], _ :: _, _, _, h, _ => h.elim
  | _ :: _, [], _, _, _, h, _ => h.elim
  | _ :: _, _ :: _, [], _, _, h, _ => h.elim

theorem law_post (hl : laidOutB P = true) {f : Func} {s : ChangeSpec} {W W' : World} {args : Array Value} {ds gs : List (DataW H)} {before : List MemPlace} {tb : TypeId}
    (hW : DataW.Whole enc P f.params.toList s.vars false W args.toList ds gs before) (hb : Below W.heap.size W W')
    (hv : s.vars = []) (hr : f.resultTypes = #[tb]) (hbool : P.underlying tb = some .bool) (hts : ∀ t ∈ f.params.toList, P.readableRec t = true ∧ t < P.types.size)
    (h1 : (s.fn H ds).results = [.lit (.bool true)]) (h2 : (s.fn H ds).args = ds) (h3 : (s.fn H ds).vars = []) :
    s.post enc P f false true false false W args (.bool true) W' := by
  have hlt : ∀ p ∈ before, p.block < W.heap.size := fun p hp => hW.lt p hp
  have hW0 := hW
  obtain ⟨p, q, hA, hV, rfl, hfz, hnd⟩ := hW
  rw [hv] at hV
  obtain ⟨rfl, rfl⟩ := trodVars_none hV
  rw [List.append_nil] at *
  refine ⟨ds, [], p, [], p, [], hW0, ?_, ?_, ?_, World.keptBut_mono (fun x hx => ⟨hx, .inr (.inl hx)⟩) (hb.frame (· ∈ p)), fun h => by cases h⟩
  · rw [List.append_nil, h1, hr]
    exact trodAll_cons_mk (shut_bool hbool _) trodAll_mk0
  · rw [List.append_nil, h2]
    exact trodAll_below hl hb _ _ _ _ hts hA hlt
  · rw [hv, List.append_nil, h3]
    rfl

/-- A slice of whole numbers that came in: nil or empty, or cells in old memory. -/
def ReadsInts (w : World) (k : IntKind) (x : Option Addr) (len cap : Nat) : Prop :=
  len = 0 ∨ ∃ (b off : Nat) (zs : List Int), x = some ⟨b, off, none⟩ ∧ len ≤ cap ∧ cap ≤ maxLen ∧ b < w.heap.size ∧ zs.length = cap ∧
    (∀ i, i < cap → w.cell? ⟨b, off + i, none⟩ = some (.int k (zs.getD i 0))) ∧ ∀ n ∈ zs, (Lit.int k n).wf = true

theorem ints_read {W : World} {t e : TypeId} {k : IntKind} {x : Option Addr} {len cap : Nat} {d : DataW H} {p : List MemPlace} (ht : P.underlying t = some (.slice e)) (he : P.underlying e = some (.int k)) (hc : P.cellsOf e = 1)
    (h : DataW.Trod enc P W 0 (fun _ => true) true t (.slice x len cap) d p) : ReadsInts W k x len cap := by
  obtain ⟨fuel, hf⟩ := h
  rcases open_ints ht he hc hf with ⟨hcs, _⟩ | ⟨a, len', cap', zs, hcs, _, hl, hm, hz, _, hcell, hwz⟩
  · simp [Value.cells] at hcs
    obtain ⟨rfl, rfl, rfl⟩ := hcs
    exact .inl rfl
  · simp [Value.cells] at hcs
    obtain ⟨rfl, rfl, rfl⟩ := hcs
    simp only [if_true] at hz
    by_cases hl0 : len = 0
    · exact .inl hl0
    · obtain ⟨b, off, spot⟩ := a
      have hspot : spot = none := by simpa [Addr.add] using World.cell?_spot (hcell 0 (by omega))
      subst hspot
      refine .inr ⟨b, off, zs, rfl, hl, hm, ?_, hz, fun i hi => by rw [← add_plain]; exact hcell i (by omega), hwz⟩
      exact World.block_lt_of_cell? W ((⟨b, off, none⟩ : Addr).add 0) (hcell 0 (by omega))
end
end Go.Proofs.YtkfbailpifmdcaaGreatDoor
end

section
namespace Go.Proofs.YtkfbailpifmdcaaGreatDoor
open Go.ChangeShapes Go.WideShapes Go.ChangeAt Go.RowKit

theorem tabIs_of_reads {P : Program} {W : World} {name : String} {k : IntKind} {zs : List Int} {g : Nat} {t e : TypeId} {n : Nat}
    (hg : P.globalNamed name = some g) (hty : (P.globals[g]?).map (·.type) = some t) (ht : P.underlying t = some (.array n e)) (he : P.underlying e = some (.int k)) (hce : P.cellsOf e = 1) (hct : P.cellsOf t = n)
    (h : Lib.VarReads P W name (Lib.tabData k zs)) : Lib.TabIs P W name k zs := by
  obtain ⟨g', t', cs, fuel, p, hg', ht', hvar, hd⟩ := h
  obtain rfl := Option.some.inj (hg.symm.trans hg')
  obtain rfl := Option.some.inj (hty.symm.trans ht')
  unfold Lib.TabIs
  rw [hvar, ← Lib.cells_of_tab ht he hce hct hd]

theorem tab64_eq : (Rows.laid_math_bits_deBruijn64tab : DataW Unit) = Lib.tabData .u8 (Lib.deBruijn64tab.map fun (x : Nat) => (x : Int)) := by kernel_rfl
theorem pow10_eq : (Rows.laid_internal_strconv_uint64pow10 : DataW Unit) = Lib.tabData .u64 Lib.pow10Tab := by kernel_rfl
def laidTabs : List (String × DataW Unit) := Rows.textDigitsRow.laid
theorem laid_tabs {W : World} (h : laidMet Tryz.prog laidTabs W) : TabW W ∧ TabP W := by
  constructor
  · have h1 := Lib.laidMet.reads h (n := "math/bits.deBruijn64tab") (d := Rows.laid_math_bits_deBruijn64tab) (.tail _ (.head _))
    rw [tab64_eq] at h1
    have h2 := tabIs_of_reads (P := Tryz.prog) (g := 2) (t := 173) (e := 5) (n := 64) (by kernel_rfl) (by kernel_rfl) Tryz.underlying173 Tryz.underlying5 (by kernel_rfl) (by kernel_rfl) h1
    intro j hj
    have hc := h2.cell (g := 2) (by kernel_rfl) j (by simpa using hj)
    rw [hc]
    congr 2
    simp only [List.getD_eq_getElem?_getD, List.getElem?_map]
    cases h3 : Lib.deBruijn64tab[j]? <;> simp
  · have h1 := Lib.laidMet.reads h (n := "internal/strconv.uint64pow10") (d := Rows.laid_internal_strconv_uint64pow10) (.tail _ (.tail _ (.head _)))
    rw [pow10_eq] at h1
    exact tabIs_of_reads (P := Tryz.prog) (g := 3) (by kernel_rfl) (by kernel_rfl) Tryz.underlying179 Tryz.underlying22 (by kernel_rfl) (by kernel_rfl) h1
end Go.Proofs.YtkfbailpifmdcaaGreatDoor
end
