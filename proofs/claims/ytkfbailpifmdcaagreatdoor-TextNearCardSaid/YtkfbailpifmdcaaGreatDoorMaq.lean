/- Rat RatB RatC RatD RatE RatF -/
import Derived.Test.YtkfbailpifmdcaaGreatDoorMah
import Derived.Test.YtkfbailpifmdcaaGreatDoorMai
section
namespace Go.Proofs.YtkfbailpifmdcaaGreatDoor

def INFb : Nat := 9218868437227405312
def e75 : Nat := 1075
def e74 : Nat := 1074
/-- A bit pattern's amount, in units of the least number: sgF b * 2 ^ gbF b. -/
def sgF (b : Nat) : Nat := if b < 4503599627370496 then b else 4503599627370496 + b % 4503599627370496
def gbF (b : Nat) : Nat := b / 4503599627370496 - 1
def vN (b : Nat) : Nat := sgF b * 2 ^ gbF b
/-- Twice the middle between a number and the next. -/
def hB (b : Nat) : Nat := (2 * sgF b + 1) * 2 ^ gbF b

theorem vN_succ (b : Nat) : vN (b + 1) = vN b + 2 ^ gbF b := by
  unfold vN
  have hone : ∀ s : Nat, (s + 1) * 2 ^ gbF b = s * 2 ^ gbF b + 2 ^ gbF b := fun s => by rw [Nat.add_mul, Nat.one_mul]
  by_cases h1 : b % 4503599627370496 = 4503599627370495
  · by_cases h2 : b < 4503599627370496
    · have e1 : sgF (b + 1) = sgF b + 1 := by unfold sgF; rw [if_neg (by omega), if_pos h2]; omega
      have e2 : gbF (b + 1) = gbF b := by unfold gbF; omega
      rw [e1, e2, hone]
    · have e1 : sgF (b + 1) = 4503599627370496 := by unfold sgF; rw [if_neg (by omega)]; omega
      have e2 : gbF (b + 1) = gbF b + 1 := by unfold gbF; omega
      have e3 : sgF b = 9007199254740991 := by unfold sgF; rw [if_neg h2]; omega
      rw [e1, e2, e3, Nat.pow_succ]
      omega
  · have e1 : sgF (b + 1) = sgF b + 1 := by
      unfold sgF
      by_cases h2 : b < 4503599627370496
      · rw [if_pos (by omega), if_pos h2]
      · rw [if_neg (by omega), if_neg h2]; omega
    have e2 : gbF (b + 1) = gbF b := by unfold gbF; omega
    rw [e1, e2, hone]
theorem hB_eq (b : Nat) : hB b = vN b + vN (b + 1) := by
  rw [vN_succ]
  unfold hB vN
  rw [Nat.add_mul, Nat.one_mul, Nat.mul_assoc]
  omega
theorem vN_lt_succ (b : Nat) : vN b < vN (b + 1) := by
  rw [vN_succ]
  have := Nat.two_pow_pos (gbF b)
  omega
theorem vN_mono : ∀ (k b : Nat), vN b ≤ vN (b + k)
  | 0, _ => Nat.le_refl _
  | k + 1, b => Nat.le_trans (vN_mono k b) (Nat.le_of_lt (vN_lt_succ (b + k)))
theorem vN_lt {a b : Nat} (h : a < b) : vN a < vN b := by
  obtain ⟨k, rfl⟩ : ∃ k, b = a + 1 + k := ⟨b - a - 1, by omega⟩
  exact Nat.lt_of_lt_of_le (vN_lt_succ a) (vN_mono k (a + 1))
theorem hB_lt {a b : Nat} (h : a < b) : hB a < hB b := by
  rw [hB_eq, hB_eq]
  have h1 := vN_lt h
  have h2 := vN_lt (a := a + 1) (b := b + 1) (by omega)
  omega

/-- The fraction lies above the middle behind b (or on it, where b is odd). -/
def gtB (A B b : Nat) : Prop := if b % 2 = 0 then hB b * B < 2 ^ e75 * A else hB b * B ≤ 2 ^ e75 * A
def IsRN (A B b : Nat) : Prop := b ≤ INFb ∧ (b = 0 ∨ gtB A B (b - 1)) ∧ (b = INFb ∨ ¬ gtB A B b)

theorem gt_of_lt {A B b : Nat} (h : hB b * B < 2 ^ e75 * A) : gtB A B b := by
  unfold gtB
  split
  · exact h
  · exact Nat.le_of_lt h
theorem gt_le {A B b : Nat} (h : gtB A B b) : hB b * B ≤ 2 ^ e75 * A := by
  unfold gtB at h
  split at h
  · exact Nat.le_of_lt h
  · exact h
theorem gt_down {A B b c : Nat} (hB0 : 0 < B) (h : b ≤ c) (hg : gtB A B c) : gtB A B b := by
  by_cases e : b = c
  · rw [e]; exact hg
  · have h1 := hB_lt (a := b) (b := c) (by omega)
    exact gt_of_lt (Nat.lt_of_lt_of_le (Nat.mul_lt_mul_of_pos_right h1 hB0) (gt_le hg))
theorem gt_value {A B C D b : Nat} (hB0 : 0 < B) (hD : 0 < D) (h : A * D ≤ C * B) (hg : gtB A B b) : gtB C D b := by
  have hle : hB b * B ≤ 2 ^ e75 * A → hB b * D ≤ 2 ^ e75 * C := by
    intro h1
    refine Nat.le_of_mul_le_mul_right (c := B) ?_ hB0
    calc hB b * D * B = hB b * B * D := by simp only [Nat.mul_comm, Nat.mul_left_comm]
      _ ≤ 2 ^ e75 * A * D := Nat.mul_le_mul_right _ h1
      _ = 2 ^ e75 * (A * D) := Nat.mul_assoc _ _ _
      _ ≤ 2 ^ e75 * (C * B) := Nat.mul_le_mul_left _ h
      _ = 2 ^ e75 * C * B := (Nat.mul_assoc _ _ _).symm
  have hlt : hB b * B < 2 ^ e75 * A → hB b * D < 2 ^ e75 * C := by
    intro h1
    refine Nat.lt_of_mul_lt_mul_right (a := B) ?_
    calc hB b * D * B = hB b * B * D := by simp only [Nat.mul_comm, Nat.mul_left_comm]
      _ < 2 ^ e75 * A * D := Nat.mul_lt_mul_of_pos_right h1 hD
      _ = 2 ^ e75 * (A * D) := Nat.mul_assoc _ _ _
      _ ≤ 2 ^ e75 * (C * B) := Nat.mul_le_mul_left _ h
      _ = 2 ^ e75 * C * B := (Nat.mul_assoc _ _ _).symm
  unfold gtB at hg ⊢
  split
  · rename_i h2
    rw [if_pos h2] at hg
    exact hlt hg
  · rename_i h2
    rw [if_neg h2] at hg
    exact hle hg
theorem rn_mono {A B C D b c : Nat} (hB0 : 0 < B) (hD : 0 < D) (h : A * D ≤ C * B) (h1 : IsRN A B b) (h2 : IsRN C D c) : b ≤ c := by
  obtain ⟨a1, a2, a3⟩ := h1
  obtain ⟨c1, c2, c3⟩ := h2
  apply Nat.le_of_not_lt
  intro hlt
  have g1 : gtB A B (b - 1) := a2.resolve_left (by omega)
  have g2 : gtB C D c := gt_value hB0 hD h (gt_down hB0 (by omega) g1)
  rcases c3 with e | e
  · omega
  · exact e g2
theorem rn_unique {A B C D b c : Nat} (hB0 : 0 < B) (hD : 0 < D) (h : A * D = C * B) (h1 : IsRN A B b) (h2 : IsRN C D c) : b = c :=
  Nat.le_antisymm (rn_mono hB0 hD (Nat.le_of_eq h) h1 h2) (rn_mono hD hB0 (Nat.le_of_eq h.symm) h2 h1)

/- Comparisons of c * 2 ^ a with m * 2 ^ b hang on a - b alone. -/
theorem cmp2_le {c m a b a' b' : Nat} (h : a + b' = a' + b) : c * 2 ^ a ≤ m * 2 ^ b ↔ c * 2 ^ a' ≤ m * 2 ^ b' := by
  have step : ∀ {c m a b a' b' : Nat}, a + b' = a' + b → c * 2 ^ a ≤ m * 2 ^ b → c * 2 ^ a' ≤ m * 2 ^ b' := by
    intro c m a b a' b' h h1
    refine Nat.le_of_mul_le_mul_right (c := 2 ^ b) ?_ (Nat.two_pow_pos b)
    calc c * 2 ^ a' * 2 ^ b = c * 2 ^ a * 2 ^ b' := by rw [Nat.mul_assoc, Nat.mul_assoc, ← Nat.pow_add, ← Nat.pow_add, h]
      _ ≤ m * 2 ^ b * 2 ^ b' := Nat.mul_le_mul_right _ h1
      _ = m * 2 ^ b' * 2 ^ b := by rw [Nat.mul_assoc, Nat.mul_assoc, Nat.mul_comm (2 ^ b)]
  exact ⟨step h, step h.symm⟩
theorem cmp2_lt {c m a b a' b' : Nat} (h : a + b' = a' + b) : c * 2 ^ a < m * 2 ^ b ↔ c * 2 ^ a' < m * 2 ^ b' := by
  have h1 := cmp2_le (c := m) (m := c) (a := b) (b := a) (a' := b') (b' := a') (by omega)
  omega
theorem cmp2_eq {c m a b a' b' : Nat} (h : a + b' = a' + b) : c * 2 ^ a = m * 2 ^ b ↔ c * 2 ^ a' = m * 2 ^ b' := by
  have h1 := cmp2_le (c := m) (m := c) (a := b) (b := a) (a' := b') (b' := a') (by omega)
  have h2 := cmp2_le (c := c) (m := m) h
  omega
end Go.Proofs.YtkfbailpifmdcaaGreatDoor
end

section
namespace Go.Proofs.YtkfbailpifmdcaaGreatDoor

/-- q is m * S / P, rounded, ties to even. -/
def RQ (m S P q : Nat) : Prop := 2 * (m * S) ≤ 2 * (q * P) + P ∧ 2 * (q * P) ≤ 2 * (m * S) + P ∧ (2 * (m * S) = 2 * (q * P) + P → q % 2 = 0) ∧ (2 * (q * P) = 2 * (m * S) + P → q % 2 = 0)

theorem upB_eq {m n : Nat} (hm : m ≠ 0) (hQ : m / 2 ^ (n + 1) < 18446744073709551616) : upB m (n + 1) = (decide (2 ^ (n + 1) < 2 * (m % 2 ^ (n + 1))) || (2 * (m % 2 ^ (n + 1)) == 2 ^ (n + 1) && m / 2 ^ (n + 1) % 2 == 1)) := by
  unfold upB
  rw [Nat.add_sub_cancel, Nat.mod_eq_of_lt hQ, ← lost_tz hm n]
  unfold lostN
  have hH := Nat.two_pow_pos n
  have h1 : (2 : Nat) ^ (n + 1) = 2 * 2 ^ n := by rw [Nat.pow_succ]; omega
  have e1 := Nat.div_add_mod m (2 ^ (n + 1))
  have e2 := Nat.mod_lt m (Nat.two_pow_pos (n + 1))
  have hb : m / 2 ^ n % 2 = m % 2 ^ (n + 1) / 2 ^ n := by
    rw [h1, Nat.mod_mul_left_div_self]
  have hz : m % 2 ^ n = m % 2 ^ (n + 1) % 2 ^ n := by
    rw [h1, Nat.mod_mul_left_mod]
  rw [hb, hz]
  generalize m / 2 ^ (n + 1) = Q at *
  generalize m % 2 ^ (n + 1) = r at *
  rw [h1] at *
  generalize 2 ^ n = H at *
  by_cases hr : r < H
  · rw [Nat.div_eq_of_lt hr]
    have : ¬ 2 * H < 2 * r := by omega
    have : ¬ 2 * r = 2 * H := by omega
    simp_all
  · have hd : r / H = 1 := by
      have := Nat.div_add_mod r H
      have hm2 := Nat.mod_lt r hH
      have h3 : r / H < 2 := Nat.div_lt_of_lt_mul (by omega)
      have h4 : 0 < r / H := Nat.div_pos (by omega) hH
      omega
    have hmod : r % H = r - H := by
      have := Nat.div_add_mod r H
      rw [hd] at this
      omega
    rw [hd, hmod]
    by_cases he : r = H
    · subst he
      simp
    · have : 2 * H < 2 * r := by omega
      have : ¬ r - H = 0 := by omega
      simp_all

theorem at_spec {m : Nat} {x e : Int} (hm : m ≠ 0) (hb : (bl m : Int) + x - e ≤ 54) :
    RQ m (2 ^ (x - e).toNat) (2 ^ (e - x).toNat) (atP m x e).1 ∧ ((atP m x e).2 = true ↔ (atP m x e).1 * 2 ^ (e - x).toNat ≠ m * 2 ^ (x - e).toNat) := by
  unfold atP
  by_cases hle : e ≤ x
  · rw [if_pos hle, show (e - x).toNat = 0 by omega]
    simp only [Nat.pow_zero, Nat.mul_one]
    refine ⟨⟨by omega, by omega, by omega, by omega⟩, ?_⟩
    simp
  · rw [if_neg hle, show (x - e).toNat = 0 by omega]
    obtain ⟨n, hn⟩ : ∃ n, (e - x).toNat = n + 1 := ⟨(e - x).toNat - 1, by omega⟩
    rw [hn]
    have hQ : m / 2 ^ (n + 1) < 18014398509481984 := by
      refine Nat.div_lt_of_lt_mul (Nat.lt_of_lt_of_le (bl_lt m) ?_)
      rw [show (18014398509481984 : Nat) = 2 ^ 54 from rfl, ← Nat.pow_add]
      exact Nat.pow_le_pow_right (by decide) (by omega)
    have hup := upB_eq (n := n) hm (by omega)
    have e1 := Nat.div_add_mod m (2 ^ (n + 1))
    have e2 := Nat.mod_lt m (Nat.two_pow_pos (n + 1))
    have hcl : (atM m (n + 1)) = m / 2 ^ (n + 1) + (if upB m (n + 1) then 1 else 0) := by
      unfold atM
      rw [Nat.mod_eq_of_lt (b := 18446744073709551616) (a := m / 2 ^ (n + 1)) (by omega)]
      split <;> exact Nat.mod_eq_of_lt (by omega)
    simp only [Nat.pow_zero, Nat.mul_one]
    rw [hcl, hup]
    unfold lostN
    have hmul : m / 2 ^ (n + 1) * 2 ^ (n + 1) = m - m % 2 ^ (n + 1) := by rw [Nat.mul_comm]; omega
    have hle2 := Nat.mod_le m (2 ^ (n + 1))
    have hev : 2 ^ (n + 1) % 2 = 0 := by rw [Nat.pow_succ]; omega
    generalize m / 2 ^ (n + 1) = Q at *
    generalize m % 2 ^ (n + 1) = r at *
    generalize 2 ^ (n + 1) = P at *
    clear e1
    by_cases h1 : P < 2 * r
    · have ht : (decide (P < 2 * r) || (2 * r == P && Q % 2 == 1)) = true := by simp [h1]
      rw [ht, if_pos rfl, Nat.add_mul, Nat.one_mul, hmul]
      unfold RQ
      rw [Nat.add_mul, Nat.one_mul, hmul]
      refine ⟨⟨by omega, by omega, by omega, by omega⟩, ?_⟩
      have : ¬ r = 0 := by omega
      simp [this]
      omega
    · by_cases h2 : 2 * r = P
      · by_cases h3 : Q % 2 = 1
        · have ht : (decide (P < 2 * r) || (2 * r == P && Q % 2 == 1)) = true := by simp [h2, h3]
          rw [ht, if_pos rfl]
          unfold RQ
          rw [Nat.add_mul, Nat.one_mul, hmul]
          refine ⟨⟨by omega, by omega, by omega, by omega⟩, ?_⟩
          have : ¬ r = 0 := by omega
          simp [this]
          omega
        · have ht : (decide (P < 2 * r) || (2 * r == P && Q % 2 == 1)) = false := by simp [h1, h3]
          rw [ht, if_neg (by decide), Nat.add_zero, hmul]
          unfold RQ
          rw [hmul]
          refine ⟨⟨by omega, by omega, by omega, by omega⟩, ?_⟩
          have : ¬ r = 0 := by omega
          simp [this]
          omega
      · have ht : (decide (P < 2 * r) || (2 * r == P && Q % 2 == 1)) = false := by simp [h1, h2]
        rw [ht, if_neg (by decide), Nat.add_zero, hmul]
        unfold RQ
        rw [hmul]
        refine ⟨⟨by omega, by omega, by omega, by omega⟩, ?_⟩
        by_cases h0 : r = 0
        · simp [h0]
        · simp [h0]
          omega
end Go.Proofs.YtkfbailpifmdcaaGreatDoor
end

section
namespace Go.Proofs.YtkfbailpifmdcaaGreatDoor

theorem rq_bounds {m S P q : Nat} (hP : 0 < P) (hq : RQ m S P q) (hlt : m * S < 9007199254740992 * P) : q ≤ 9007199254740992 ∧ (4503599627370496 * P ≤ m * S → 4503599627370496 ≤ q) := by
  obtain ⟨h1, h2, h3, h4⟩ := hq
  constructor
  · have h : 2 * q * P < 18014398509481985 * P := by
      rw [Nat.mul_assoc]
      omega
    have := Nat.lt_of_mul_lt_mul_right h
    omega
  · intro h
    have h : 9007199254740991 * P ≤ 2 * q * P := by
      rw [Nat.mul_assoc]
      omega
    have := Nat.le_of_mul_le_mul_right h hP
    omega

theorem rn_core {A B m S P q g : Nat} (hB0 : 0 < B) (hP : 0 < P) (hq : RQ m S P q) (hlt : m * S < 9007199254740992 * P) (hge : g = 0 ∨ 4503599627370496 * P ≤ m * S) (hg : g ≤ 2045)
    (tl : ∀ c d, c * 2 ^ (g + d) * B ≤ 2 ^ e75 * A ↔ c * 2 ^ d * P ≤ 2 * (m * S)) (tl' : ∀ c d, c * 2 ^ (g + d) * B < 2 ^ e75 * A ↔ c * 2 ^ d * P < 2 * (m * S)) :
    IsRN A B (g * 4503599627370496 + q) := by
  obtain ⟨b1, b2⟩ := rq_bounds hP hq hlt
  obtain ⟨h1, h2, h3, h4⟩ := hq
  have tl0 : ∀ c, c * 2 ^ g * B ≤ 2 ^ e75 * A ↔ c * P ≤ 2 * (m * S) := fun c => by simpa using tl c 0
  have tl0' : ∀ c, c * 2 ^ g * B < 2 ^ e75 * A ↔ c * P < 2 * (m * S) := fun c => by simpa using tl' c 0
  refine ⟨by unfold INFb; omega, ?_, ?_⟩
  · by_cases hb0 : g * 4503599627370496 + q = 0
    · exact Or.inl hb0
    right
    by_cases hedge : q = 4503599627370496 ∧ 0 < g
    · obtain ⟨rfl, hg0⟩ := hedge
      obtain ⟨g', rfl⟩ : ∃ g', g = g' + 1 := ⟨g - 1, by omega⟩
      apply gt_of_lt
      have e1 : hB ((g' + 1) * 4503599627370496 + 4503599627370496 - 1) = 18014398509481983 * 2 ^ g' := by
        unfold hB sgF gbF
        rw [if_neg (by omega), show ((g' + 1) * 4503599627370496 + 4503599627370496 - 1) % 4503599627370496 = 4503599627370495 by omega, show ((g' + 1) * 4503599627370496 + 4503599627370496 - 1) / 4503599627370496 - 1 = g' by omega]
      rw [e1]
      have e2 := (tl0 9007199254740992).2 (by have := hge.resolve_left (by omega); omega)
      have e3 : 18014398509481983 * 2 ^ g' < 9007199254740992 * 2 ^ (g' + 1) := by
        rw [Nat.pow_succ]
        have := Nat.two_pow_pos g'
        omega
      exact Nat.lt_of_lt_of_le (Nat.mul_lt_mul_of_pos_right e3 hB0) e2
    · have hgq : g = 0 ∨ 4503599627370496 < q := by
        rcases hge with h | h
        · exact Or.inl h
        · have := b2 h
          omega
      have hq0 : 0 < q := by omega
      have e1 : hB (g * 4503599627370496 + q - 1) = (2 * q - 1) * 2 ^ g := by
        unfold hB sgF gbF
        by_cases hs : g * 4503599627370496 + q - 1 < 4503599627370496
        · have : g = 0 := by omega
          subst this
          rw [if_pos hs, show (0 * 4503599627370496 + q - 1) / 4503599627370496 - 1 = 0 by omega]
          congr 1
          omega
        · rw [if_neg hs, show (g * 4503599627370496 + q - 1) / 4503599627370496 - 1 = g by omega]
          congr 1
          omega
      have hm1 : (2 * q - 1) * P = 2 * (q * P) - P := by rw [Nat.sub_mul, Nat.one_mul, Nat.mul_assoc]
      have hPq : P ≤ q * P := Nat.le_mul_of_pos_left P hq0
      unfold gtB
      rw [e1, tl0, tl0', hm1]
      split
      · have : ¬ q % 2 = 0 := by omega
        have : ¬ 2 * (q * P) = 2 * (m * S) + P := fun h => this (h4 h)
        omega
      · omega
  · right
    by_cases h53 : q = 9007199254740992
    · subst h53
      intro h
      have h := gt_le h
      have e1 : hB (g * 4503599627370496 + 9007199254740992) = 9007199254740993 * 2 ^ (g + 1) := by
        unfold hB sgF gbF
        rw [if_neg (by omega), show (g * 4503599627370496 + 9007199254740992) % 4503599627370496 = 0 by omega, show (g * 4503599627370496 + 9007199254740992) / 4503599627370496 - 1 = g + 1 by omega]
      rw [e1, tl] at h
      omega
    · have hgq : g = 0 ∨ 4503599627370496 ≤ q := by
        rcases hge with h | h
        · exact Or.inl h
        · exact Or.inr (b2 h)
      have e1 : hB (g * 4503599627370496 + q) = (2 * q + 1) * 2 ^ g := by
        unfold hB sgF gbF
        by_cases hs : g * 4503599627370496 + q < 4503599627370496
        · have : g = 0 := by omega
          subst this
          rw [if_pos hs, show (0 * 4503599627370496 + q) / 4503599627370496 - 1 = 0 by omega]
          congr 1
          omega
        · rw [if_neg hs, show (g * 4503599627370496 + q) / 4503599627370496 - 1 = g by omega]
          congr 1
          omega
      have hm1 : (2 * q + 1) * P = 2 * (q * P) + P := by rw [Nat.add_mul, Nat.one_mul, Nat.mul_assoc]
      unfold gtB
      rw [e1, tl0, tl0', hm1]
      split
      · omega
      · have : ¬ q % 2 = 0 := by omega
        have : ¬ 2 * (m * S) = 2 * (q * P) + P := fun h => this (h3 h)
        omega

theorem vN_core {g q : Nat} (hq : q ≤ 9007199254740992) (hge : g = 0 ∨ 4503599627370496 ≤ q) : vN (g * 4503599627370496 + q) = q * 2 ^ g := by
  unfold vN sgF gbF
  by_cases h53 : q = 9007199254740992
  · subst h53
    rw [if_neg (by omega), show (g * 4503599627370496 + 9007199254740992) % 4503599627370496 = 0 by omega, show (g * 4503599627370496 + 9007199254740992) / 4503599627370496 - 1 = g + 1 by omega, Nat.pow_succ]
    omega
  · by_cases hs : g * 4503599627370496 + q < 4503599627370496
    · have : g = 0 := by omega
      subst this
      rw [if_pos hs, show (0 * 4503599627370496 + q) / 4503599627370496 - 1 = 0 by omega]
      congr 1
      omega
    · rw [if_neg hs, show (g * 4503599627370496 + q) / 4503599627370496 - 1 = g by omega]
      congr 1
      omega

/-- m * 2 ^ x as a fraction. -/
def pA (m : Nat) (x : Int) : Nat := m * 2 ^ x.toNat
def pB (x : Int) : Nat := 2 ^ (-x).toNat
theorem pB_pos (x : Int) : 0 < pB x := Nat.two_pow_pos _

theorem top_hi {m : Nat} {x y : Int} {k : Nat} (h : topP m x ≤ y + k) : m * 2 ^ (x - y).toNat < 2 ^ k * 2 ^ (y - x).toNat := by
  unfold topP at h
  have h1 : m * 2 ^ (x - y).toNat < 2 ^ bl m * 2 ^ (x - y).toNat := Nat.mul_lt_mul_of_pos_right (bl_lt m) (Nat.two_pow_pos _)
  refine Nat.lt_of_lt_of_le h1 ?_
  rw [← Nat.pow_add, ← Nat.pow_add]
  exact Nat.pow_le_pow_right (by decide) (by omega)
theorem top_lo {m : Nat} {x y : Int} {k : Nat} (hm : m ≠ 0) (h : y + k + 1 ≤ topP m x) : 2 ^ k * 2 ^ (y - x).toNat ≤ m * 2 ^ (x - y).toNat := by
  unfold topP at h
  have h0 := bl_pos hm
  have h1 : 2 ^ (bl m - 1) * 2 ^ (x - y).toNat ≤ m * 2 ^ (x - y).toNat := Nat.mul_le_mul_right _ (bl_ge hm)
  refine Nat.le_trans ?_ h1
  rw [← Nat.pow_add, ← Nat.pow_add]
  exact Nat.pow_le_pow_right (by decide) (by omega)

theorem tl_exp {m : Nat} {x e : Int} (he : -1074 ≤ e) (c d : Nat) : c * 2 ^ ((e + 1074).toNat + d) * pB x = c * 2 ^ ((e + 1074).toNat + d + (-x).toNat) ∧ 2 ^ e75 * pA m x = m * 2 ^ (1075 + x.toNat) ∧ c * 2 ^ d * 2 ^ (e - x).toNat = c * 2 ^ (d + (e - x).toNat) ∧ 2 * (m * 2 ^ (x - e).toNat) = m * 2 ^ ((x - e).toNat + 1) ∧
    (e + 1074).toNat + d + (-x).toNat + ((x - e).toNat + 1) = d + (e - x).toNat + (1075 + x.toNat) := by
  unfold pA pB e75
  refine ⟨by rw [Nat.mul_assoc, ← Nat.pow_add], ?_, by rw [Nat.mul_assoc, ← Nat.pow_add], ?_, by omega⟩
  · rw [Nat.pow_add]; simp only [Nat.mul_left_comm]
  · rw [Nat.pow_succ, Nat.mul_comm, Nat.mul_assoc]
theorem tl_le {m : Nat} {x e : Int} (he : -1074 ≤ e) (c d : Nat) : c * 2 ^ ((e + 1074).toNat + d) * pB x ≤ 2 ^ e75 * pA m x ↔ c * 2 ^ d * 2 ^ (e - x).toNat ≤ 2 * (m * 2 ^ (x - e).toNat) := by
  obtain ⟨e1, e2, e3, e4, e5⟩ := tl_exp (m := m) (x := x) he c d
  rw [e1, e2, e3, e4]
  exact cmp2_le e5
theorem tl_lt {m : Nat} {x e : Int} (he : -1074 ≤ e) (c d : Nat) : c * 2 ^ ((e + 1074).toNat + d) * pB x < 2 ^ e75 * pA m x ↔ c * 2 ^ d * 2 ^ (e - x).toNat < 2 * (m * 2 ^ (x - e).toNat) := by
  obtain ⟨e1, e2, e3, e4, e5⟩ := tl_exp (m := m) (x := x) he c d
  rw [e1, e2, e3, e4]
  exact cmp2_lt e5
theorem tl_eq {m : Nat} {x e : Int} (he : -1074 ≤ e) (q : Nat) : q * 2 ^ (e + 1074).toNat * pB x = 2 ^ e74 * pA m x ↔ q * 2 ^ (e - x).toNat = m * 2 ^ (x - e).toNat := by
  have e1 : q * 2 ^ (e + 1074).toNat * pB x = q * 2 ^ ((e + 1074).toNat + (-x).toNat) := by unfold pB; rw [Nat.mul_assoc, ← Nat.pow_add]
  have e2 : 2 ^ e74 * pA m x = m * 2 ^ (1074 + x.toNat) := by unfold pA e74; rw [Nat.pow_add]; simp only [Nat.mul_left_comm]
  rw [e1, e2]
  exact cmp2_eq (by omega)
end Go.Proofs.YtkfbailpifmdcaaGreatDoor
end

section
namespace Go.Proofs.YtkfbailpifmdcaaGreatDoor

def e76 : Nat := 1076
/-- The flags of the number m / B rounded to b. -/
def flagN (A B b : Nat) : Nat := if b = INFb then 20 else if vN b * B = 2 ^ e74 * A then 0 else if 2 ^ e76 * A < 18014398509481983 * B then 24 else 16
/-- The answer of rounding A / B. -/
def ResOf (neg : Bool) (A B : Nat) (r : Nat × Nat) : Prop := ∃ b, IsRN A B b ∧ r.1 = (if neg then b + 9223372036854775808 else b) ∧ r.2 = flagN A B b

theorem put_eq {e : Int} {q : Nat} {l : Bool} (h1 : -1074 ≤ e) (h2 : e ≤ 971) (hq : q ≤ 9007199254740992) (hge : e = -1074 ∨ 4503599627370496 ≤ q) :
    (if q = 9007199254740992 then putP 4503599627370496 l (e + 1) else putP q l e) = ((e + 1074).toNat * 4503599627370496 + q, if (e + 1074).toNat * 4503599627370496 + q = INFb then true else l) := by
  unfold putP INFb
  by_cases h53 : q = 9007199254740992
  · subst h53
    rw [if_pos rfl, if_neg (by omega)]
    by_cases h3 : 971 < e + 1
    · have : e = 971 := by omega
      subst this
      rfl
    · rw [if_neg h3, if_neg (by omega), show (e + 1 + 1075).toNat * 4503599627370496 + 4503599627370496 - 4503599627370496 = (e + 1074).toNat * 4503599627370496 + 9007199254740992 by omega]
  · rw [if_neg h53, if_neg (by omega : ¬ (e + 1074).toNat * 4503599627370496 + q = 9218868437227405312)]
    by_cases hs : q < 4503599627370496
    · rw [if_pos hs, show (e + 1074).toNat * 4503599627370496 + q = q by omega]
    · rw [if_neg hs, if_neg (by omega), show (e + 1075).toNat * 4503599627370496 + q - 4503599627370496 = (e + 1074).toNat * 4503599627370496 + q by omega]

theorem tiny_q {m S P q : Nat} (hP : 0 < P) (hq : RQ m S P q) : q < 9007199254740992 ↔ 2 * (m * S) < 18014398509481983 * P := by
  obtain ⟨h1, h2, h3, h4⟩ := hq
  constructor
  · intro h
    have h5 : q * P ≤ 9007199254740991 * P := Nat.mul_le_mul_right _ (by omega)
    by_cases h6 : q = 9007199254740991
    · have : ¬ q % 2 = 0 := by omega
      have : ¬ 2 * (m * S) = 2 * (q * P) + P := fun h => this (h3 h)
      omega
    · have h7 : q * P ≤ 9007199254740990 * P := Nat.mul_le_mul_right _ (by omega)
      omega
  · intro h
    apply Nat.lt_of_not_le
    intro h6
    have h7 : 9007199254740992 * P ≤ q * P := Nat.mul_le_mul_right _ h6
    omega

set_option exponentiation.threshold 3000 in
theorem near_fin {m : Nat} {x : Int} (hm : m ≠ 0) : IsRN (pA m x) (pB x) (nearestP m x).1 ∧ ((nearestP m x).1 ≠ INFb → ((nearestP m x).2 = true ↔ vN (nearestP m x).1 * pB x ≠ 2 ^ e74 * pA m x)) ∧ ((nearestP m x).1 = INFb → (nearestP m x).2 = true) := by
  unfold nearestP
  rw [if_neg hm]
  by_cases h1 : 1024 < topP m x
  · rw [if_pos h1]
    refine ⟨⟨Nat.le_refl _, Or.inr ?_, Or.inl rfl⟩, fun h => absurd rfl h, fun _ => rfl⟩
    have hlo := top_lo (m := m) (x := x) (y := 971) (k := 53) hm (by omega)
    rw [show (2 : Nat) ^ 53 = 9007199254740992 from rfl] at hlo
    have h2 := (tl_le (m := m) (x := x) (e := 971) (by omega) 9007199254740992 1).2 (by omega)
    apply gt_of_lt
    refine Nat.lt_of_lt_of_le (Nat.mul_lt_mul_of_pos_right ?_ (pB_pos x)) h2
    unfold hB sgF gbF
    rw [if_neg (by decide), show (9218868437227405312 - 1) % 4503599627370496 = 4503599627370495 by decide, show (9218868437227405312 - 1) / 4503599627370496 - 1 = 2045 by decide, show ((971 : Int) + 1074).toNat + 1 = 2045 + 1 by decide, Nat.pow_succ]
    have := Nat.two_pow_pos 2045
    generalize 2 ^ 2045 = z at *
    omega
  · rw [if_neg h1]
    by_cases h2 : topP m x < -1074
    · rw [if_pos h2]
      have hhi := top_hi (m := m) (x := x) (y := -1074) (k := 0) (by omega)
      rw [Nat.pow_zero, Nat.one_mul] at hhi
      have hlo : 2 * (m * 2 ^ (x - -1074).toNat) ≤ 2 ^ (-1074 - x).toNat := by
        have := top_hi (m := m) (x := x) (y := -1075) (k := 0) (by omega)
        rw [Nat.pow_zero, Nat.one_mul, show m * 2 ^ (x - -1075).toNat < 2 ^ (-1075 - x).toNat ↔ m * 2 ^ ((x - -1074).toNat + 1) < 1 * 2 ^ (-1074 - x).toNat by
          rw [← Nat.one_mul (2 ^ (-1075 - x).toNat)]; exact cmp2_lt (by omega)] at this
        rw [Nat.pow_succ, ← Nat.mul_assoc] at this
        omega
      refine ⟨⟨by unfold INFb; omega, Or.inl rfl, Or.inr ?_⟩, fun _ => ?_, fun h => absurd h (by unfold INFb; decide)⟩
      · intro h
        have h : hB 0 * pB x < 2 ^ e75 * pA m x := by simpa [gtB] using h
        have h3 := (tl_lt (m := m) (x := x) (e := -1074) (by omega) 1 0).1 (by simpa [hB, sgF, gbF] using h)
        rw [Nat.pow_zero, Nat.one_mul] at h3
        omega
      · have hA : 0 < 2 ^ e74 * pA m x := Nat.mul_pos (Nat.two_pow_pos _) (Nat.mul_pos (Nat.pos_of_ne_zero hm) (Nat.two_pow_pos _))
        have hv : vN 0 = 0 := by simp [vN, sgF]
        rw [hv, Nat.zero_mul]
        simp
        omega
    · rw [if_neg h2]
      obtain ⟨e, he⟩ : ∃ e, max (topP m x - 53) (-1074) = e := ⟨_, rfl⟩
      rw [he]
      obtain ⟨hq, hl⟩ := at_spec (x := x) (e := e) hm (by unfold topP at he; omega)
      have hP := Nat.two_pow_pos (e - x).toNat
      have hlt : m * 2 ^ (x - e).toNat < 9007199254740992 * 2 ^ (e - x).toNat := by
        have := top_hi (m := m) (x := x) (y := e) (k := 53) (by omega)
        rwa [show (2 : Nat) ^ 53 = 9007199254740992 from rfl] at this
      have hge : e = -1074 ∨ 4503599627370496 * 2 ^ (e - x).toNat ≤ m * 2 ^ (x - e).toNat := by
        by_cases h3 : e = -1074
        · exact Or.inl h3
        · right
          have := top_lo (m := m) (x := x) (y := e) (k := 52) hm (by omega)
          rwa [show (2 : Nat) ^ 52 = 4503599627370496 from rfl] at this
      obtain ⟨b1, b2⟩ := rq_bounds hP hq hlt
      have hge2 : e = -1074 ∨ 4503599627370496 ≤ (atP m x e).1 := hge.imp id b2
      rw [put_eq (by omega) (by omega) b1 hge2]
      have hrn := rn_core (A := pA m x) (B := pB x) (g := (e + 1074).toNat) (pB_pos x) hP hq hlt (hge.imp (fun h => by omega) id) (by omega) (fun c d => tl_le (by omega) c d) (fun c d => tl_lt (by omega) c d)
      refine ⟨hrn, fun hni => ?_, fun h => by simp only; rw [if_pos h]⟩
      simp only at hni ⊢
      rw [if_neg hni, hl, vN_core b1 (hge2.imp (fun h => by omega) id), Ne, Ne, tl_eq (by omega)]

theorem tiny_eq {m : Nat} {x : Int} (hm : m ≠ 0) : tinyB m x = decide (2 ^ e76 * pA m x < 18014398509481983 * pB x) := by
  have hx : ∀ e : Int, e = -1075 → (2 ^ e76 * pA m x < 18014398509481983 * pB x ↔ 2 * (m * 2 ^ (x - e).toNat) < 18014398509481983 * 2 ^ (e - x).toNat) := by
    intro e he
    have e1 : 2 ^ e76 * pA m x = m * 2 ^ (1076 + x.toNat) := by unfold pA e76; rw [Nat.pow_add]; simp only [Nat.mul_left_comm]
    have e2 : 2 * (m * 2 ^ (x - e).toNat) = m * 2 ^ ((x - e).toNat + 1) := by rw [Nat.pow_succ, Nat.mul_comm, Nat.mul_assoc]
    unfold pB
    rw [e1, e2]
    exact cmp2_lt (by omega)
  unfold tinyB
  rw [if_neg hm]
  by_cases ht : topP m x ≠ -1022
  · rw [if_pos ht]
    rw [decide_eq_decide]
    rw [hx (-1075) rfl]
    constructor
    · intro h
      have := top_hi (m := m) (x := x) (y := -1075) (k := 52) (by omega)
      rw [show (2 : Nat) ^ 52 = 4503599627370496 from rfl] at this
      omega
    · intro h
      apply Int.lt_of_not_ge
      intro h2
      have := top_lo (m := m) (x := x) (y := -1075) (k := 53) hm (by omega)
      rw [show (2 : Nat) ^ 53 = 9007199254740992 from rfl] at this
      have := Nat.two_pow_pos (-1075 - x).toNat
      omega
  · rw [if_neg ht]
    have ht : topP m x = -1022 := by omega
    rw [decide_eq_decide, hx (topP m x - 53) (by omega)]
    obtain ⟨hq, hl⟩ := at_spec (x := x) (e := topP m x - 53) hm (by unfold topP; omega)
    exact tiny_q (Nat.two_pow_pos _) hq

theorem near_res {m : Nat} {x : Int} (neg : Bool) (hm : m ≠ 0) : ResOf neg (pA m x) (pB x) (nearP neg m x) := by
  obtain ⟨h1, h2, h3⟩ := near_fin (x := x) hm
  refine ⟨_, h1, ?_, ?_⟩
  · unfold nearP
    have : (m == 0) = false := by simpa using hm
    rw [this]
    cases neg <;> rfl
  · unfold nearP flagN
    simp only
    rw [tiny_eq hm]
    by_cases hi : (nearestP m x).1 = INFb
    · have hi' : (nearestP m x).1 = 9218868437227405312 := hi
      rw [if_pos hi, h3 hi, if_pos rfl, if_pos hi']
    · rw [if_neg hi]
      by_cases hv : vN (nearestP m x).1 * pB x = 2 ^ e74 * pA m x
      · rw [if_pos hv]
        have : ¬ (nearestP m x).2 = true := fun h => (h2 hi).1 h hv
        rw [if_neg this]
      · rw [if_neg hv, if_pos ((h2 hi).2 hv)]
        have : ¬ (nearestP m x).1 = 9218868437227405312 := hi
        rw [if_neg this]
        by_cases ht : 2 ^ e76 * pA m x < 18014398509481983 * pB x
        · rw [if_pos ht, decide_eq_true ht, if_pos rfl]
        · rw [if_neg ht, decide_eq_false ht, if_neg (by decide)]
theorem result_res {m : Nat} {x : Int} (neg : Bool) (hm : m ≠ 0) : ResOf neg (pA m x) (pB x) (resultP neg m x) := by
  have h := near_res (x := x) neg hm
  have e : (m == 0) = false := by simpa using hm
  unfold resultP
  rw [e]
  simpa using h
end Go.Proofs.YtkfbailpifmdcaaGreatDoor
end

section
namespace Go.Proofs.YtkfbailpifmdcaaGreatDoor

theorem res_value {neg : Bool} {A B C D : Nat} {r s : Nat × Nat} (hB0 : 0 < B) (hD : 0 < D) (h : A * D = C * B) (h1 : ResOf neg A B r) (h2 : ResOf neg C D s) : r = s := by
  obtain ⟨b, b1, b2, b3⟩ := h1
  obtain ⟨c, c1, c2, c3⟩ := h2
  have e := rn_unique hB0 hD h b1 c1
  subst e
  have hf : flagN A B b = flagN C D b := by
    have key : ∀ u v : Nat, (u * B = v * A ↔ u * D = v * C) ∧ (v * A < u * B ↔ v * C < u * D) := by
      intro u v
      have e1 : u * B * D = u * D * B := by simp only [Nat.mul_comm, Nat.mul_left_comm]
      have e2 : v * A * D = v * C * B := by rw [Nat.mul_assoc, h, ← Nat.mul_assoc]
      constructor
      · constructor
        · intro q
          exact Nat.eq_of_mul_eq_mul_right hB0 (by rw [← e1, q, e2])
        · intro q
          exact Nat.eq_of_mul_eq_mul_right hD (by rw [e1, q, e2])
      · constructor
        · intro q
          refine Nat.lt_of_mul_lt_mul_right (a := B) ?_
          rw [← e1, ← e2]
          exact Nat.mul_lt_mul_of_pos_right q hD
        · intro q
          refine Nat.lt_of_mul_lt_mul_right (a := D) ?_
          rw [e1, e2]
          exact Nat.mul_lt_mul_of_pos_right q hB0
    unfold flagN
    by_cases hi : b = INFb
    · rw [if_pos hi, if_pos hi]
    · rw [if_neg hi, if_neg hi]
      have k1 := (key (vN b) (2 ^ e74)).1
      have k2 := (key 18014398509481983 (2 ^ e76)).2
      simp only [k1, k2]
  exact Prod.ext (by rw [b2, c2]) (by rw [b3, c3, hf])
theorem res_mono {A B C D : Nat} {r s : Nat × Nat} (hB0 : 0 < B) (hD : 0 < D) (h : A * D ≤ C * B) (h1 : ResOf false A B r) (h2 : ResOf false C D s) : r.1 ≤ s.1 := by
  obtain ⟨b, b1, b2, _⟩ := h1
  obtain ⟨c, c1, c2, _⟩ := h2
  rw [b2, c2]
  exact rn_mono hB0 hD h b1 c1
/-- An answer for a fraction is one for every other spelling of it. -/
theorem res_turn {neg : Bool} {A B C D : Nat} {r : Nat × Nat} (hB0 : 0 < B) (hD : 0 < D) (h : A * D = C * B) (h1 : ResOf neg A B r) : ResOf neg C D r := by
  obtain ⟨b, ⟨b1, b2, b3⟩, b4, b5⟩ := h1
  have hc : IsRN C D b := ⟨b1, b2.imp id (gt_value hB0 hD (Nat.le_of_eq h)), b3.imp id (fun q g => q (gt_value hD hB0 (Nat.le_of_eq h.symm) g))⟩
  refine ⟨b, hc, b4, ?_⟩
  have h3 := res_value (neg := neg) (r := (if neg then b + 9223372036854775808 else b, flagN A B b)) (s := (if neg then b + 9223372036854775808 else b, flagN C D b)) hB0 hD h ⟨b, ⟨b1, b2, b3⟩, rfl, rfl⟩ ⟨b, hc, rfl, rfl⟩
  rw [b5]
  exact congrArg Prod.snd h3

/- Nought. -/
theorem res_zero (neg : Bool) {B : Nat} (hB0 : 0 < B) : ResOf neg 0 B (if neg then 9223372036854775808 else 0, 0) := by
  refine ⟨0, ⟨Nat.zero_le _, Or.inl rfl, Or.inr ?_⟩, by cases neg <;> rfl, ?_⟩
  · intro h
    have := gt_le h
    have h1 : 0 < hB 0 * B := Nat.mul_pos (by simp [hB, sgF, gbF]) hB0
    omega
  · unfold flagN
    have hv0 : vN 0 * B = 2 ^ e74 * 0 := by simp [vN, sgF]
    rw [if_neg (show ¬ 0 = INFb by unfold INFb; decide), if_pos hv0]
theorem result_zero (neg : Bool) (x : Int) : resultP neg 0 x = (if neg then 9223372036854775808 else 0, 0) := by
  unfold resultP nearP nearestP
  cases neg <;> simp

/- The odd part and its exponent. -/
theorem form_val {m : Nat} {x : Int} (hm : m ≠ 0) : fAbs m ≠ 0 ∧ pA (fAbs m) (fExp m x) * pB x = pA m x * pB (fExp m x) := by
  obtain ⟨q, h1, h2⟩ := tz_spec hm
  have hq : fAbs m = q := by
    unfold fAbs
    conv => lhs; arg 1; rw [h1]
    exact Nat.mul_div_cancel_left _ (Nat.two_pow_pos _)
  unfold fExp
  rw [if_neg hm, hq]
  refine ⟨by omega, ?_⟩
  unfold pA pB
  generalize tz m = k at *
  rw [h1, Nat.mul_assoc, ← Nat.pow_add, Nat.mul_comm (2 ^ k) q, Nat.mul_assoc, Nat.mul_assoc, ← Nat.pow_add, ← Nat.pow_add]
  congr 2
  omega
theorem form_res {m : Nat} {x : Int} (neg : Bool) (hm : m ≠ 0) : ResOf neg (pA m x) (pB x) (formP neg m x) := by
  obtain ⟨h1, h2⟩ := form_val (x := x) hm
  exact res_turn (pB_pos _) (pB_pos _) h2 (result_res neg h1)

/- Values beyond all bounds. -/
set_option exponentiation.threshold 3000 in
theorem res_huge {neg : Bool} {A B : Nat} (h : 2 ^ 1024 * B ≤ A) (hB0 : 0 < B) : ResOf neg A B (if neg then INFb + 9223372036854775808 else INFb, 20) := by
  refine ⟨INFb, ⟨Nat.le_refl _, Or.inr ?_, Or.inl rfl⟩, rfl, ?_⟩
  · obtain ⟨⟨d1, d2, d3⟩, _, _⟩ := near_fin (m := 1) (x := 1024) (by decide)
    have hbl : topP 1 1024 = 1025 := by decide
    have e : (nearestP 1 1024).1 = INFb := by
      unfold nearestP
      rw [if_neg (by decide), hbl, if_pos (by decide)]
      rfl
    rw [e] at d2
    have g := d2.resolve_left (by unfold INFb; decide)
    refine gt_value (pB_pos 1024) hB0 ?_ g
    have h1 : pA 1 1024 = 2 ^ 1024 := by
      unfold pA
      rw [Nat.one_mul]
      rfl
    have h2 : pB 1024 = 1 := rfl
    rw [h1, h2, Nat.mul_one]
    exact h
  · unfold flagN
    rw [if_pos rfl]
theorem res_small {neg : Bool} {A B : Nat} (hA : A ≠ 0) (h : 2 ^ e76 * A ≤ B) : ResOf neg A B (if neg then 9223372036854775808 else 0, 24) := by
  have hA0 : 0 < 2 ^ e76 * A := Nat.mul_pos (Nat.two_pow_pos _) (Nat.pos_of_ne_zero hA)
  have e1 : 2 ^ e76 * A = 2 * (2 ^ e75 * A) := by
    rw [show e76 = e75 + 1 from rfl, Nat.pow_succ, Nat.mul_comm (2 ^ e75) 2, Nat.mul_assoc]
  refine ⟨0, ⟨Nat.zero_le _, Or.inl rfl, Or.inr ?_⟩, by cases neg <;> rfl, ?_⟩
  · intro hg
    have := gt_le hg
    have h0 : hB 0 = 1 := by simp [hB, sgF, gbF]
    rw [h0, Nat.one_mul] at this
    omega
  · unfold flagN
    have hv : vN 0 = 0 := by simp [vN, sgF]
    have e2 : 2 ^ e75 * A = 2 * (2 ^ e74 * A) := by
      rw [show e75 = e74 + 1 from rfl, Nat.pow_succ, Nat.mul_comm (2 ^ e74) 2, Nat.mul_assoc]
    have c1 : ¬ 0 = 2 ^ e74 * A := by omega
    have c2 : 2 ^ e76 * A < 18014398509481983 * B := by omega
    rw [if_neg (show ¬ 0 = INFb by unfold INFb; decide), hv, Nat.zero_mul, if_neg c1, if_pos c2]

/- A quotient with a last bit for what is left. -/
theorem quo_big {n j : Nat} (hn : n ≠ 0) : 2 ^ 60 ≤ n * 2 ^ quoS n j / 10 ^ j := by
  have hT : 0 < 10 ^ j := Nat.pow_pos (by decide)
  rw [Nat.le_div_iff_mul_le hT]
  have h1 : 10 ^ j < 2 ^ bl (10 ^ j) := bl_lt _
  have h2 := bl_ge hn
  have h3 := bl_pos hn
  calc 2 ^ 60 * 10 ^ j ≤ 2 ^ 60 * 2 ^ bl (10 ^ j) := Nat.mul_le_mul_left _ (Nat.le_of_lt h1)
    _ = 2 ^ (60 + bl (10 ^ j)) := by rw [Nat.pow_add]
    _ ≤ 2 ^ (bl n - 1 + quoS n j) := Nat.pow_le_pow_right (by decide) (by unfold quoS; omega)
    _ = 2 ^ (bl n - 1) * 2 ^ quoS n j := by rw [Nat.pow_add]
    _ ≤ n * 2 ^ quoS n j := Nat.mul_le_mul_right _ h2
theorem cmp_quo {n j u g w : Nat} (hn : n ≠ 0) (hu : u < 36028797018963968) :
    (u * 2 ^ g * 10 ^ j < 2 ^ w * n ↔ u * 2 ^ g * 2 ^ (quoS n j + 1) < 2 ^ w * quoM n j) ∧ (u * 2 ^ g * 10 ^ j ≤ 2 ^ w * n ↔ u * 2 ^ g * 2 ^ (quoS n j + 1) ≤ 2 ^ w * quoM n j) := by
  have hq := quo_big (j := j) hn
  unfold quoM
  have hT : 0 < 10 ^ j := Nat.pow_pos (by decide)
  generalize quoS n j = s at *
  have e1 := Nat.div_add_mod (n * 2 ^ s) (10 ^ j)
  have e2 := Nat.mod_lt (n * 2 ^ s) hT
  generalize 10 ^ j = T at *
  generalize n * 2 ^ s / T = Q at *
  generalize hr : n * 2 ^ s % T = r at *
  have hS := Nat.two_pow_pos (s + 1)
  have hn2 : 2 ^ w * n * 2 ^ (s + 1) = 2 ^ (w + 1) * (T * Q + r) := by
    rw [e1, Nat.pow_succ, Nat.pow_succ]
    ac_rfl
  have t0 : u * 2 ^ g * T * 2 ^ (s + 1) = u * 2 ^ (g + s + 1) * T := by
    rw [show g + s + 1 = g + (s + 1) by omega, Nat.pow_add 2 g (s + 1)]
    ac_rfl
  have t1 : u * 2 ^ g * T < 2 ^ w * n ↔ u * 2 ^ (g + s + 1) * T < 2 ^ (w + 1) * (T * Q + r) := by
    rw [← hn2, ← t0, Nat.mul_lt_mul_right hS]
  have t2 : u * 2 ^ g * T ≤ 2 ^ w * n ↔ u * 2 ^ (g + s + 1) * T ≤ 2 ^ (w + 1) * (T * Q + r) := by
    rw [← hn2, ← t0]
    exact ⟨fun h => Nat.mul_le_mul_right _ h, fun h => Nat.le_of_mul_le_mul_right h hS⟩
  have t3 : u * 2 ^ g * 2 ^ (s + 1) = u * 2 ^ (g + s + 1) := by
    rw [Nat.mul_assoc, ← Nat.pow_add]; rfl
  rw [t1, t2, t3]
  clear t0 t1 t2 t3 hn2 e1 hr
  have hw := Nat.two_pow_pos w
  have hw1 := Nat.two_pow_pos (w + 1)
  by_cases hc : w + 1 ≤ g + s + 1
  · obtain ⟨d, hd⟩ : ∃ d, g + s + 1 = w + 1 + d := ⟨g + s - w, by omega⟩
    have e3 : u * 2 ^ (g + s + 1) * T = 2 ^ (w + 1) * (u * 2 ^ d * T) := by
      rw [hd, Nat.pow_add]; ac_rfl
    have e4 : u * 2 ^ (g + s + 1) = 2 ^ w * (2 * (u * 2 ^ d)) := by
      rw [hd, Nat.pow_add, Nat.pow_succ]; ac_rfl
    rw [e3, e4]
    generalize u * 2 ^ d = Y at *
    rw [Nat.mul_lt_mul_left hw1, Nat.mul_lt_mul_left hw]
    have k1 : Y * T < T * Q + r ↔ 2 * Y < Q * 2 + (if r = 0 then 0 else 1) := by
      constructor
      · intro h
        have h2 : Y ≤ Q := by
          apply Nat.le_of_not_lt
          intro h3
          have h4 : T * (Q + 1) ≤ T * Y := Nat.mul_le_mul_left _ h3
          rw [Nat.mul_add, Nat.mul_one, Nat.mul_comm T Y] at h4
          omega
        by_cases h5 : Y = Q
        · subst h5
          rw [Nat.mul_comm T Y] at h
          rw [if_neg (by omega)]
          omega
        · split <;> omega
      · intro h
        by_cases h5 : Y = Q
        · subst h5
          rw [Nat.mul_comm T Y]
          by_cases h0 : r = 0
          · rw [if_pos h0] at h; omega
          · omega
        · have h6 : Y + 1 ≤ Q := by
            by_cases h0 : r = 0
            · rw [if_pos h0] at h; omega
            · rw [if_neg h0] at h; omega
          have h4 : T * (Y + 1) ≤ T * Q := Nat.mul_le_mul_left _ h6
          rw [Nat.mul_add, Nat.mul_one, Nat.mul_comm T Y] at h4
          omega
    have k2 : Y * T ≤ T * Q + r ↔ 2 * Y ≤ Q * 2 + (if r = 0 then 0 else 1) := by
      constructor
      · intro h
        have h2 : Y ≤ Q := by
          apply Nat.le_of_not_lt
          intro h3
          have h4 : T * (Q + 1) ≤ T * Y := Nat.mul_le_mul_left _ h3
          rw [Nat.mul_add, Nat.mul_one, Nat.mul_comm T Y] at h4
          omega
        omega
      · intro h
        have h2 : Y ≤ Q := by
          split at h <;> omega
        have h4 : T * Y ≤ T * Q := Nat.mul_le_mul_left _ h2
        rw [Nat.mul_comm T Y] at h4
        omega
    refine ⟨k1, ?_⟩
    rw [Nat.mul_le_mul_left_iff hw1, Nat.mul_le_mul_left_iff hw]
    exact k2
  · have b1 : u * 2 ^ (g + s + 1) ≤ u * 2 ^ w := Nat.mul_le_mul_left _ (Nat.pow_le_pow_right (by decide) (by omega))
    have b2 : u * 2 ^ w < 2 ^ w * Q := by
      rw [Nat.mul_comm u]
      exact Nat.mul_lt_mul_of_pos_left (by omega) hw
    have b3 : 2 ^ w * Q ≤ 2 ^ w * (Q * 2 + (if r = 0 then 0 else 1)) := Nat.mul_le_mul_left _ (by omega)
    have b4 : u * 2 ^ (g + s + 1) * T < 2 ^ w * Q * T := Nat.mul_lt_mul_of_pos_right (by omega) hT
    have b5 : 2 ^ w * Q * T ≤ 2 ^ (w + 1) * (T * Q + r) := by
      rw [Nat.pow_succ, Nat.mul_assoc, Nat.mul_assoc]
      refine Nat.mul_le_mul_left _ ?_
      rw [Nat.mul_comm Q T]
      omega
    exact ⟨⟨fun _ => by omega, fun _ => by omega⟩, ⟨fun _ => by omega, fun _ => by omega⟩⟩
end Go.Proofs.YtkfbailpifmdcaaGreatDoor
end

section
namespace Go.Proofs.YtkfbailpifmdcaaGreatDoor

/-- n * 10 ^ k as a fraction. -/
def tA (n : Nat) (k : Int) : Nat := n * 10 ^ k.toNat
def tB (k : Int) : Nat := 10 ^ (-k).toNat
theorem tB_pos (k : Int) : 0 < tB k := Nat.pow_pos (by decide)

theorem sgF_lt (b : Nat) : sgF b < 9007199254740992 := by
  unfold sgF
  split <;> omega
theorem quo_gt {n j b : Nat} (hn : n ≠ 0) : gtB n (10 ^ j) b ↔ gtB (quoM n j) (2 ^ (quoS n j + 1)) b := by
  have h1 := sgF_lt b
  obtain ⟨c1, c2⟩ := cmp_quo (n := n) (j := j) (u := 2 * sgF b + 1) (g := gbF b) (w := e75) hn (by omega)
  unfold gtB hB
  rw [c1, c2]
theorem quo_flag {n j b : Nat} (hn : n ≠ 0) : flagN n (10 ^ j) b = flagN (quoM n j) (2 ^ (quoS n j + 1)) b := by
  have h1 := sgF_lt b
  obtain ⟨c1, c2⟩ := cmp_quo (n := n) (j := j) (u := sgF b) (g := gbF b) (w := e74) hn (by omega)
  obtain ⟨d1, d2⟩ := cmp_quo (n := n) (j := j) (u := 18014398509481983) (g := 0) (w := e76) hn (by omega)
  rw [Nat.pow_zero, Nat.mul_one] at d1 d2
  have hv : vN b * 10 ^ j = 2 ^ e74 * n ↔ vN b * 2 ^ (quoS n j + 1) = 2 ^ e74 * quoM n j := by
    unfold vN
    omega
  have ht : 2 ^ e76 * n < 18014398509481983 * 10 ^ j ↔ 2 ^ e76 * quoM n j < 18014398509481983 * 2 ^ (quoS n j + 1) := by omega
  unfold flagN
  simp only [hv, ht]
theorem quo_res {neg : Bool} {n j : Nat} {r : Nat × Nat} (hn : n ≠ 0) (h : ResOf neg (quoM n j) (2 ^ (quoS n j + 1)) r) : ResOf neg n (10 ^ j) r := by
  obtain ⟨b, ⟨b1, b2, b3⟩, b4, b5⟩ := h
  refine ⟨b, ⟨b1, b2.imp id (quo_gt hn).2, b3.imp id (fun q g => q ((quo_gt hn).1 g))⟩, b4, ?_⟩
  rw [b5, quo_flag hn]

theorem eight_ten (a : Nat) : 2 ^ (3 * a) ≤ 10 ^ a := by
  rw [Nat.pow_mul]
  exact Nat.pow_le_pow_left (by decide) a
set_option exponentiation.threshold 3000 in
theorem tens_res {neg : Bool} {n digits : Nat} {k : Int} (hn : n ≠ 0) (h1 : 10 ^ (digits - 1) ≤ n) (h2 : n < 10 ^ digits) : ResOf neg (tA n k) (tB k) (tensP neg n digits k) := by
  have hd : 0 < digits := by
    cases digits with
    | zero => rw [Nat.pow_zero] at h2; omega
    | succ d => omega
  unfold tensP
  rw [if_neg hn]
  by_cases hc1 : 400 < (digits : Int) + k
  · rw [if_pos hc1]
    have e1 := result_res (m := 1) (x := 2000) neg (by decide)
    have e2 : ResOf neg (pA 1 2000) (pB 2000) (if neg then INFb + 9223372036854775808 else INFb, 20) := by
      apply res_huge _ (pB_pos _)
      have q1 : pA 1 2000 = 2 ^ 2000 := by unfold pA; rw [Nat.one_mul]; rfl
      have q2 : pB 2000 = 1 := rfl
      rw [q1, q2, Nat.mul_one]
      exact Nat.pow_le_pow_right (by decide) (by decide)
    rw [res_value (pB_pos _) (pB_pos _) rfl e1 e2]
    apply res_huge _ (tB_pos _)
    unfold tA tB
    calc 2 ^ 1024 * 10 ^ (-k).toNat ≤ 2 ^ (3 * 342) * 10 ^ (-k).toNat := Nat.mul_le_mul_right _ (Nat.pow_le_pow_right (by decide) (by decide))
      _ ≤ 10 ^ 342 * 10 ^ (-k).toNat := Nat.mul_le_mul_right _ (eight_ten 342)
      _ = 10 ^ (342 + (-k).toNat) := by rw [Nat.pow_add]
      _ ≤ 10 ^ (digits - 1 + k.toNat) := Nat.pow_le_pow_right (by decide) (by omega)
      _ = 10 ^ (digits - 1) * 10 ^ k.toNat := by rw [Nat.pow_add]
      _ ≤ n * 10 ^ k.toNat := Nat.mul_le_mul_right _ h1
  · rw [if_neg hc1]
    by_cases hc2 : (digits : Int) + k < -400
    · rw [if_pos hc2]
      have e1 := result_res (m := 1) (x := -2000) neg (by decide)
      have e2 : ResOf neg (pA 1 (-2000)) (pB (-2000)) (if neg then 9223372036854775808 else 0, 24) := by
        apply res_small (by decide)
        have q1 : pA 1 (-2000) = 1 := by unfold pA; rfl
        have q2 : pB (-2000) = 2 ^ 2000 := rfl
        rw [q1, q2, Nat.mul_one]
        exact Nat.pow_le_pow_right (by decide) (by decide)
      rw [res_value (pB_pos _) (pB_pos _) rfl e1 e2]
      have hk : k.toNat = 0 := by omega
      unfold tA tB
      rw [hk, Nat.pow_zero, Nat.mul_one]
      apply res_small hn
      calc 2 ^ e76 * n ≤ 2 ^ e76 * 10 ^ digits := Nat.mul_le_mul_left _ (Nat.le_of_lt h2)
        _ ≤ 2 ^ (3 * 359) * 10 ^ digits := Nat.mul_le_mul_right _ (Nat.pow_le_pow_right (by decide) (by decide))
        _ ≤ 10 ^ 359 * 10 ^ digits := Nat.mul_le_mul_right _ (eight_ten 359)
        _ = 10 ^ (359 + digits) := by rw [Nat.pow_add]
        _ ≤ 10 ^ (-k).toNat := Nat.pow_le_pow_right (by decide) (by omega)
    · rw [if_neg hc2]
      by_cases hk : 0 ≤ k
      · rw [if_pos hk]
        have hne : n * 10 ^ k.toNat ≠ 0 := Nat.mul_ne_zero hn (Nat.ne_of_gt (Nat.pow_pos (by decide)))
        have h := form_res (x := 0) neg hne
        have q1 : pA (n * 10 ^ k.toNat) 0 = tA n k := by unfold pA tA; simp
        have q2 : pB 0 = tB k := by unfold pB tB; rw [show (-k).toNat = 0 by omega]; rfl
        rwa [q1, q2] at h
      · rw [if_neg hk]
        have hne : quoM n (-k).toNat ≠ 0 := by
          have := quo_big (j := (-k).toNat) hn
          unfold quoM
          omega
        have h := form_res (x := -((quoS n (-k).toNat : Nat) : Int) - 1) neg hne
        have q1 : pA (quoM n (-k).toNat) (-((quoS n (-k).toNat : Nat) : Int) - 1) = quoM n (-k).toNat := by
          unfold pA
          rw [show (-((quoS n (-k).toNat : Nat) : Int) - 1).toNat = 0 by omega, Nat.pow_zero, Nat.mul_one]
        have q2 : pB (-((quoS n (-k).toNat : Nat) : Int) - 1) = 2 ^ (quoS n (-k).toNat + 1) := by
          unfold pB
          rw [show (-(-((quoS n (-k).toNat : Nat) : Int) - 1)).toNat = quoS n (-k).toNat + 1 by omega]
        rw [q1, q2] at h
        have h := quo_res hn h
        unfold tA tB
        rw [show k.toNat = 0 by omega, Nat.pow_zero, Nat.mul_one]
        exact h
set_option exponentiation.threshold 3000 in
theorem twos_res {neg : Bool} {n : Nat} {k : Int} (hn : n ≠ 0) : ResOf neg (pA n k) (pB k) (twosP neg n k) := by
  unfold twosP
  rw [if_neg hn]
  by_cases hc1 : 1200 < ((bl n : Nat) : Int) + k
  · rw [if_pos hc1]
    have e1 := result_res (m := 1) (x := 1200) neg (by decide)
    have e2 : ResOf neg (pA 1 1200) (pB 1200) (if neg then INFb + 9223372036854775808 else INFb, 20) := by
      apply res_huge _ (pB_pos _)
      have q1 : pA 1 1200 = 2 ^ 1200 := by unfold pA; rw [Nat.one_mul]; rfl
      have q2 : pB 1200 = 1 := rfl
      rw [q1, q2, Nat.mul_one]
      exact Nat.pow_le_pow_right (by decide) (by decide)
    rw [res_value (pB_pos _) (pB_pos _) rfl e1 e2]
    apply res_huge _ (pB_pos _)
    unfold pA pB
    have h0 := bl_pos hn
    calc 2 ^ 1024 * 2 ^ (-k).toNat = 2 ^ (1024 + (-k).toNat) := by rw [Nat.pow_add]
      _ ≤ 2 ^ (bl n - 1 + k.toNat) := Nat.pow_le_pow_right (by decide) (by omega)
      _ = 2 ^ (bl n - 1) * 2 ^ k.toNat := by rw [Nat.pow_add]
      _ ≤ n * 2 ^ k.toNat := Nat.mul_le_mul_right _ (bl_ge hn)
  · rw [if_neg hc1]
    by_cases hc2 : ((bl n : Nat) : Int) + k < -1200
    · rw [if_pos hc2]
      have e1 := result_res (m := 1) (x := -1200) neg (by decide)
      have e2 : ResOf neg (pA 1 (-1200)) (pB (-1200)) (if neg then 9223372036854775808 else 0, 24) := by
        apply res_small (by decide)
        have q1 : pA 1 (-1200) = 1 := by unfold pA; rfl
        have q2 : pB (-1200) = 2 ^ 1200 := rfl
        rw [q1, q2, Nat.mul_one]
        exact Nat.pow_le_pow_right (by decide) (by decide)
      rw [res_value (pB_pos _) (pB_pos _) rfl e1 e2]
      have hk : k.toNat = 0 := by omega
      unfold pA pB
      rw [hk, Nat.pow_zero, Nat.mul_one]
      apply res_small hn
      calc 2 ^ e76 * n ≤ 2 ^ e76 * 2 ^ bl n := Nat.mul_le_mul_left _ (Nat.le_of_lt (bl_lt n))
        _ = 2 ^ (e76 + bl n) := by rw [Nat.pow_add]
        _ ≤ 2 ^ (-k).toNat := Nat.pow_le_pow_right (by decide) (by unfold e76; omega)
    · rw [if_neg hc2]
      exact form_res neg hn
end Go.Proofs.YtkfbailpifmdcaaGreatDoor
end
