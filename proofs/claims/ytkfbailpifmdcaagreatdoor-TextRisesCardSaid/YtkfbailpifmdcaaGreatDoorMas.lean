/- PlnH LawG LawH LawI -/
import Derived.Test.YtkfbailpifmdcaaGreatDoorMar
section
namespace Go.Proofs.YtkfbailpifmdcaaGreatDoor

theorem exact_res {neg : Bool} {A B y : Nat} {r : Nat × Nat} (hB0 : 0 < B) (hy : y < INFb) (h : 2 ^ e74 * A = vN y * B) (hr : ResOf neg A B r) : r = (if neg then y + 9223372036854775808 else y, 0) := by
  obtain ⟨b, b1, b2, b3⟩ := hr
  have e := rn_unique hB0 hB0 rfl b1 (exact_rn hB0 hy h)
  subst e
  have hf : flagN A B b = 0 := by
    unfold flagN
    rw [if_neg (by omega), if_pos h.symm]
  rw [hf] at b3
  exact Prod.ext b2 b3
theorem parse_number {x : Nat} {s : List UInt8} {r : Nat × Nat} (hl : s.length < 4096) (hlow : ∀ z ∈ s, isLow z) (hc : ∃ c t, s = c :: t ∧ isD c) (hn : numberP (sgnB x) s = some r) : parseP (signL x s) = (r, 0) := by
  obtain ⟨c, t, rfl, hc⟩ := hc
  rw [parse_signed hl hlow hc, hn]
  rfl
theorem dec_cons (u : Nat) : ∃ c t, Lib.decDigits u = c :: t ∧ isD c := by
  have h := dec_len_pos u
  have hD := dec_isD u
  cases hq : Lib.decDigits u with
  | nil => rw [hq] at h; exact absurd h (by decide)
  | cons c t => exact ⟨c, t, rfl, hD c (by rw [hq]; simp)⟩

theorem exact_bits {x : Nat} (hx : x < 18446744073709551616) (hfin : absN x < INFb) (hm : vM x ≠ 0) : parseP (exactL x) = ((x, 0), 0) := by
  have hv := value_eq hm
  have h2 := nE_le x
  have hn := nM_ne hm
  have hbl : nM x < 2 ^ 53 := Nat.lt_of_lt_of_le (bl_lt (nM x)) (Nat.pow_le_pow_right (by decide) (nM_bl x))
  have hsx := signed_abs x hx
  have hlen := exactL_len x
  unfold exactL at hlen ⊢
  by_cases h0 : 0 ≤ nE x
  · rw [if_pos h0]
    generalize hu : nM x * 2 ^ (nE x).toNat = u
    have hu0 : u ≠ 0 := by rw [← hu]; exact Nat.mul_ne_zero hn (Nat.ne_of_gt (Nat.two_pow_pos _))
    have hnum := number_whole (sgnB x) (dec_isD u) (by obtain ⟨c, t, e, _⟩ := dec_cons u; rw [e]; simp)
    have hul : (Lib.decDigits u).length < 4096 := by
      have h6 : u < 2 ^ (53 + (nE x).toNat) := by
        rw [← hu, Nat.pow_add]
        exact Nat.mul_lt_mul_of_pos_right hbl (Nat.two_pow_pos _)
      have h7 := dec_two (by omega) h6
      omega
    rw [parse_number hul (fun z hz => isD_low (dec_isD u z hz)) (dec_cons u) hnum]
    have hr := tens_list (neg := sgnB x) (l := vals (Lib.decDigits u)) (k := 0) (vals_lt _) (by rw [natL_dec]; exact hu0)
    rw [natL_dec] at hr
    have hA : 2 ^ e74 * tA u 0 = vN (absN x) * tB 0 := by
      have e1 : tA u 0 = pA (nM x) (nE x) := by unfold tA pA; rw [hu]; simp
      have e2 : pB (nE x) = tB 0 := by unfold pB tB; rw [show (-nE x).toNat = 0 by omega]; rfl
      rw [e1, hv, e2]
    rw [exact_res (tB_pos 0) hfin hA hr, hsx]
  · rw [if_neg h0]
    generalize hj : (-nE x).toNat = j
    have hj0 : 0 < j := by omega
    have hjl : j ≤ 1074 := by omega
    rw [pad_dec j _ hj0 (exact_rest (m := nM x) (j := j))]
    generalize hw : nM x / 2 ^ j = wh
    have hmd := Nat.div_add_mod (nM x) (2 ^ j)
    rw [hw] at hmd
    have hrl := exact_rest (m := nM x) (j := j)
    generalize nM x % 2 ^ j = r at *
    have hD1 := dec_isD wh
    have hD2 := padL_isD j (r * 5 ^ j)
    have hl2 := padL_len j (r * 5 ^ j)
    have hnum := number_point (sgnB x) hD1 hD2 (by obtain ⟨c, t, e, _⟩ := dec_cons wh; rw [e]; simp)
    have hl1 : (Lib.decDigits wh).length ≤ 53 := dec_two (by decide) (Nat.lt_of_le_of_lt (by rw [← hw]; exact Nat.div_le_self _ _) hbl)
    have hval : natL 10 (vals (Lib.decDigits wh ++ padL j (r * 5 ^ j))) = wh * 10 ^ j + r * 5 ^ j := by
      rw [vals_app, natL_app, natL_dec, natL_pad j _ hrl, vals_len, hl2]
    have hval2 : wh * 10 ^ j + r * 5 ^ j = nM x * 5 ^ j := by
      rw [ten_split, ← hmd, Nat.add_mul]
      generalize 5 ^ j = F
      generalize 2 ^ j = T
      rw [Nat.mul_comm F T, ← Nat.mul_assoc, Nat.mul_comm wh T]
    rw [hval2] at hval
    have h5 : 0 < 5 ^ j := Nat.pow_pos (by decide)
    rw [parse_number (by simp only [List.length_append, List.length_cons]; omega) (by
      intro z hz
      rcases List.mem_append.1 hz with h | h
      · exact isD_low (hD1 z h)
      · rcases List.mem_cons.1 h with rfl | h
        · unfold isLow; decide
        · exact isD_low (hD2 z h)) (by
      obtain ⟨c, t, e, hc⟩ := dec_cons wh
      rw [e]
      exact ⟨c, _, rfl, hc⟩) hnum]
    have hr := tens_list (neg := sgnB x) (l := vals (Lib.decDigits wh ++ padL j (r * 5 ^ j))) (k := -((padL j (r * 5 ^ j)).length : Nat)) (vals_lt _) (by rw [hval]; exact Nat.mul_ne_zero hn (by omega))
    rw [hval, hl2] at hr
    rw [hl2]
    have hA : 2 ^ e74 * tA (nM x * 5 ^ j) (-((j : Nat) : Int)) = vN (absN x) * tB (-((j : Nat) : Int)) := by
      have e1 : tA (nM x * 5 ^ j) (-((j : Nat) : Int)) = pA (nM x) (nE x) * 5 ^ j := by unfold tA pA; rw [show (-((j : Nat) : Int)).toNat = 0 by omega, show (nE x).toNat = 0 by omega]; simp
      have e2 : tB (-((j : Nat) : Int)) = pB (nE x) * 5 ^ j := by unfold tB pB; rw [show (- -((j : Nat) : Int)).toNat = j by omega, hj, ten_split, Nat.mul_comm]
      rw [e1, e2, ← Nat.mul_assoc, hv, Nat.mul_assoc]
    rw [exact_res (tB_pos _) hfin hA hr, hsx]

/- Hexadecimal digits. -/
def hexV (c : UInt8) : Nat := (hexR (c.toNat : Int)).toNat
def isH (c : UInt8) : Prop := 0 ≤ hexR (c.toNat : Int)
theorem hexC_facts : ∀ d, d < 16 → hexV (hexC d) = d ∧ (hexR ((hexC d).toNat : Int) = (d : Int)) ∧ ¬ (65 ≤ (hexC d).toNat ∧ (hexC d).toNat ≤ 90) := by decide
theorem scan_hex (pt : Bool) (r : List UInt8) : ∀ (l : List UInt8), (∀ c ∈ l, isH c) → scanL true pt (l ++ r) = (l.map hexV ++ (scanL true pt r).1, (scanL true pt r).2.1 + (if pt then l.length else 0), (scanL true pt r).2.2)
  | [], _ => by simp
  | c :: t, h => by
    have hc := h c (by simp)
    have h1 := scan_hex pt r t fun c hc => h c (by simp [hc])
    unfold isH at hc
    rw [List.cons_append, scanL]
    simp only [digB, if_true]
    rw [if_pos hc, h1]
    cases pt
    · simp [hexV]
    · simp [hexV, Nat.add_assoc]
theorem hexL_isH : ∀ (f r : Nat), r < 18446744073709551616 → ∀ c ∈ hexL f r, isH c ∧ isLow c
  | 0, _, _, c, h => by cases h
  | f + 1, r, hr, c, h => by
    rw [hexL] at h
    split at h
    · cases h
    · rcases List.mem_cons.1 h with rfl | h
      · obtain ⟨h1, h2, h3⟩ := hexC_facts (r / 1152921504606846976) (by omega)
        exact ⟨by unfold isH; rw [h2]; omega, h3⟩
      · exact hexL_isH f _ (Nat.mod_lt _ (by decide)) c h
theorem hexL_val : ∀ (f r : Nat), r < 18446744073709551616 → f ≤ 16 → r % 2 ^ (64 - 4 * f) = 0 → natL 16 ((hexL f r).map hexV) * 18446744073709551616 = r * 16 ^ (hexL f r).length
  | 0, r, hr, _, hd => by
    rw [show 64 - 4 * 0 = 64 from rfl, show (2 : Nat) ^ 64 = 18446744073709551616 from rfl] at hd
    have : r = 0 := by omega
    subst this
    rfl
  | f + 1, r, hr, hf, hd => by
    rw [hexL]
    split
    · rename_i h0
      subst h0
      rfl
    · have hdd : r / 1152921504606846976 < 16 := by omega
      have hr2 : r * 16 % 18446744073709551616 < 18446744073709551616 := Nat.mod_lt _ (by decide)
      have hd2 : r * 16 % 18446744073709551616 % 2 ^ (64 - 4 * f) = 0 := by
        have e1 : 2 ^ (64 - 4 * f) = 2 ^ (64 - 4 * (f + 1)) * 16 := by
          rw [show 64 - 4 * f = (64 - 4 * (f + 1)) + 4 by omega, Nat.pow_add]
        obtain ⟨u, hu⟩ := Nat.dvd_of_mod_eq_zero hd
        have e2 : r * 16 % 2 ^ (64 - 4 * f) = 0 := by
          rw [e1, Nat.mul_mod_mul_right, hd, Nat.zero_mul]
        have e3 : 2 ^ (64 - 4 * f) ∣ 18446744073709551616 := ⟨2 ^ (4 * f), by rw [← Nat.pow_add, show 64 - 4 * f + 4 * f = 64 by omega]⟩
        rw [Nat.mod_mod_of_dvd _ e3, e2]
      have ih := hexL_val f (r * 16 % 18446744073709551616) hr2 (by omega) hd2
      rw [List.map_cons, natL_cons, List.length_map, List.length_cons, (hexC_facts _ hdd).1, Nat.add_mul, ih, Nat.pow_succ]
      have e4 : r * 16 = r / 1152921504606846976 * 18446744073709551616 + r * 16 % 18446744073709551616 := by omega
      generalize 16 ^ (hexL f (r * 16 % 18446744073709551616)).length = P at *
      calc r / 1152921504606846976 * P * 18446744073709551616 + r * 16 % 18446744073709551616 * P = (r / 1152921504606846976 * 18446744073709551616 + r * 16 % 18446744073709551616) * P := by rw [Nat.add_mul]; ac_rfl
        _ = r * 16 * P := by rw [← e4]
        _ = r * (P * 16) := by ac_rfl

theorem number_hexa (neg : Bool) {f : List UInt8} {e : Int} {H : List UInt8} (hf : f = if 0 < H.length then 46 :: H else []) (hH : ∀ c ∈ H, isH c) (h1 : -1048576 ≤ e) (h2 : e ≤ 1048576) :
    numberP neg ([48, 120, 49] ++ f ++ 112 :: Lib.itoa e) = some (twosP neg (natL 16 (1 :: H.map hexV)) (e - 4 * ((H.length : Nat) : Int))) := by
  have hs : ∀ pt, scanL true pt (112 :: Lib.itoa e) = ([], 0, 112 :: Lib.itoa e) := fun pt => scan_stop true pt 112 _ (by decide) (by decide)
  have hx : Lib.hasPrefix ([48, 120, 49] ++ f ++ 112 :: Lib.itoa e) [48, 120] = true := by simp [Lib.hasPrefix, List.isPrefixOf]
  have ht : Lib.trimPrefix ([48, 120, 49] ++ f ++ 112 :: Lib.itoa e) [48, 120] = [49] ++ (f ++ 112 :: Lib.itoa e) := by
    unfold Lib.trimPrefix
    rw [hx]
    rfl
  have hsc : scanL true false ([49] ++ (f ++ 112 :: Lib.itoa e)) = (1 :: H.map hexV, H.length, 112 :: Lib.itoa e) := by
    rw [scan_hex false _ [49] (by intro c hc; rw [List.mem_singleton.1 hc]; unfold isH; decide)]
    rw [hf]
    by_cases hl : 0 < H.length
    · rw [if_pos hl, List.cons_append, scanL, if_neg (by decide), if_pos (by decide), scan_hex true _ H hH, hs]
      simp [hexV, hexR, decR]
    · have : H = [] := List.length_eq_zero_iff.1 (by omega)
      subst this
      rw [if_neg hl, List.nil_append, hs]
      simp [hexV, hexR, decR]
  unfold numberP
  simp only [hx, ht, hsc]
  rw [if_neg (by simp)]
  have he : endP true (112 :: Lib.itoa e) = (e, true) := by
    rw [endP, if_pos (show (112 : UInt8) = endB true from rfl), expP_itoa h1 h2]
  rw [he, if_neg (by simp)]
  rfl

theorem hex_bits {x : Nat} (hx : x < 18446744073709551616) (hfin : absN x < INFb) (hm : vM x ≠ 0) : parseP (hexT x) = ((x, 0), 0) := by
  have hv := value_eq hm
  have hE := nE_le x
  have hn := nM_ne hm
  have hb1 := nM_bl x
  have hb2 := bl_pos hn
  have hge := bl_ge hn
  have hlt := bl_lt (nM x)
  have hsx := signed_abs x hx
  obtain ⟨n, hbn⟩ : ∃ n, bl (nM x) = n + 1 := ⟨bl (nM x) - 1, by omega⟩
  unfold hexT hexF
  rw [hbn, Nat.add_sub_cancel] at hge ⊢
  rw [hbn] at hlt hb1
  have hroom := hex_room (m := nM x) (n := n) (by omega) hge hlt
  obtain ⟨H, hH⟩ : ∃ H, (if 0 < n then hexL 16 ((nM x - 2 ^ n) * 2 ^ (64 - n)) else []) = H := ⟨_, rfl⟩
  have hodd : n = 0 ∨ nM x - 2 ^ n ≠ 0 := by
    by_cases h0 : n = 0
    · exact Or.inl h0
    · right
      intro h
      have h3 : nM x = 2 ^ n := by omega
      obtain ⟨q, q1, q2⟩ := tz_spec hm
      have h4 : nM x = q := by
        unfold nM fAbs
        conv => lhs; arg 1; rw [q1]
        exact Nat.mul_div_cancel_left _ (Nat.two_pow_pos _)
      obtain ⟨k, rfl⟩ : ∃ k, n = k + 1 := ⟨n - 1, by omega⟩
      rw [Nat.pow_succ] at h3
      omega
  have hfd : (if 0 < n then 46 :: hexL 16 ((nM x - 2 ^ n) * 2 ^ (64 - n)) else []) = if 0 < H.length then 46 :: H else [] := by
    rw [← hH]
    by_cases h0 : 0 < n
    · rw [if_pos h0, if_pos h0]
      have hr0 : (nM x - 2 ^ n) * 2 ^ (64 - n) ≠ 0 := Nat.mul_ne_zero (hodd.resolve_left (by omega)) (Nat.ne_of_gt (Nat.two_pow_pos _))
      rw [hexL_step hr0, if_pos (by simp)]
    · rw [if_neg h0, if_neg h0, if_neg (by simp)]
  have hHH : ∀ c ∈ H, isH c ∧ isLow c := by
    rw [← hH]
    split
    · exact hexL_isH 16 _ hroom
    · intro c h; cases h
  have hHl : H.length ≤ 16 := by
    rw [← hH]
    split
    · exact hexL_len 16 _
    · simp
  have hval : natL 16 (1 :: H.map hexV) * 2 ^ n = nM x * 2 ^ (4 * H.length) := by
    rw [natL_cons, List.length_map, Nat.one_mul]
    have h16 : (16 : Nat) ^ H.length = 2 ^ (4 * H.length) := by rw [Nat.pow_mul]
    have hr : natL 16 (H.map hexV) * 18446744073709551616 = (nM x - 2 ^ n) * 2 ^ (64 - n) * 16 ^ H.length := by
      rw [← hH]
      by_cases h0 : 0 < n
      · rw [if_pos h0]
        exact hexL_val 16 _ hroom (by decide) (Nat.mod_one _)
      · rw [if_neg h0]
        have h00 : n = 0 := by omega
        subst h00
        have : nM x = 1 := by
          rw [show (2 : Nat) ^ (0 + 1) = 2 from rfl] at hlt
          omega
        rw [this]
        rfl
    rw [h16] at *
    generalize 2 ^ (4 * H.length) = L at *
    generalize natL 16 (H.map hexV) = M at *
    obtain ⟨d, hd⟩ : ∃ d, nM x = 2 ^ n + d := ⟨nM x - 2 ^ n, by omega⟩
    rw [hd, Nat.add_sub_cancel_left] at hr
    have h64 : 2 ^ (64 - n) * 2 ^ n = 18446744073709551616 := by rw [← Nat.pow_add, show 64 - n + n = 64 by omega]
    have hr2 : M * 2 ^ n = d * L := by
      refine Nat.eq_of_mul_eq_mul_right (show 0 < 18446744073709551616 by decide) ?_
      calc M * 2 ^ n * 18446744073709551616 = M * 18446744073709551616 * 2 ^ n := by ac_rfl
        _ = d * 2 ^ (64 - n) * L * 2 ^ n := by rw [hr]
        _ = d * L * (2 ^ (64 - n) * 2 ^ n) := by ac_rfl
        _ = d * L * 18446744073709551616 := by rw [h64]
    rw [hd, Nat.add_mul, Nat.add_mul, hr2, Nat.mul_comm L]
  have hnum := number_hexa (sgnB x) (f := if 0 < n then 46 :: hexL 16 ((nM x - 2 ^ n) * 2 ^ (64 - n)) else []) (e := nE x + ((n + 1 : Nat) : Int) - 1) (H := H) hfd (fun c h => (hHH c h).1) (by omega) (by omega)
  have hil := itoa_len (e := nE x + ((n + 1 : Nat) : Int) - 1) (by omega) (by omega)
  rw [hfd] at hnum ⊢
  have hfl : (if 0 < H.length then 46 :: H else []).length ≤ 17 := by split <;> simp <;> omega
  rw [parse_number (s := [48, 120, 49] ++ (if 0 < H.length then 46 :: H else []) ++ 112 :: Lib.itoa (nE x + ((n + 1 : Nat) : Int) - 1)) (by simp only [List.length_append, List.length_cons, List.length_nil]; omega) (by
    intro z hz
    rcases List.mem_append.1 hz with h | h
    · rcases List.mem_append.1 h with h | h
      · simp only [List.mem_cons, List.not_mem_nil, or_false] at h
        rcases h with rfl | rfl | rfl <;> (unfold isLow; decide)
      · split at h
        · rcases List.mem_cons.1 h with rfl | h
          · unfold isLow; decide
          · exact (hHH z h).2
        · cases h
    · rcases List.mem_cons.1 h with rfl | h
      · unfold isLow; decide
      · exact itoa_low _ z h) ⟨48, _, rfl, by unfold isD; decide⟩ hnum]
  generalize natL 16 (1 :: H.map hexV) = M at *
  have hM0 : M ≠ 0 := by
    intro h
    rw [h, Nat.zero_mul] at hval
    exact Nat.mul_ne_zero hn (Nat.ne_of_gt (Nat.two_pow_pos _)) hval.symm
  have hr := twos_res (neg := sgnB x) (k := nE x + ((n + 1 : Nat) : Int) - 1 - 4 * ((H.length : Nat) : Int)) hM0
  have hA : 2 ^ e74 * pA M (nE x + ((n + 1 : Nat) : Int) - 1 - 4 * ((H.length : Nat) : Int)) = vN (absN x) * pB (nE x + ((n + 1 : Nat) : Int) - 1 - 4 * ((H.length : Nat) : Int)) := by
    generalize hK : nE x + ((n + 1 : Nat) : Int) - 1 - 4 * ((H.length : Nat) : Int) = K
    have e1 : pA M K * pB (nE x) = pA (nM x) (nE x) * pB K := by
      unfold pA pB
      rw [Nat.mul_assoc, ← Nat.pow_add, Nat.mul_assoc, ← Nat.pow_add]
      exact (cmp2_eq (by omega)).2 hval
    refine Nat.eq_of_mul_eq_mul_right (pB_pos (nE x)) ?_
    rw [Nat.mul_assoc, e1, ← Nat.mul_assoc, hv]
    ac_rfl
  rw [exact_res (pB_pos _) hfin hA hr, hsx]

/- What has no digits. -/
def nanN : Nat := 9221120237041090560
theorem plain_bits {x : Nat} {z : List UInt8} (hx : x < 18446744073709551616) (hz : z = [48] ∨ z = [48, 120, 48, 112, 48]) (h : (plainP x z).2 = true) :
    parseP (plainP x z).1 = ((if 9218868437227405312 < absN x then nanN else x, 0), 0) := by
  have hs := signed_abs x hx
  unfold plainP at h ⊢
  by_cases h1 : 9218868437227405312 < absN x
  · rw [if_pos h1, if_pos h1]
    decide +kernel
  · rw [if_neg h1] at h ⊢
    rw [if_neg h1]
    by_cases h2 : absN x = 9218868437227405312
    · rw [if_pos h2]
      rw [h2] at hs
      rw [← hs]
      unfold signL
      cases hsg : sgnB x <;> decide +kernel
    · rw [if_neg h2] at h ⊢
      by_cases h3 : absN x = 0
      · rw [if_pos h3]
        rw [h3] at hs
        rw [← hs]
        unfold signL
        rcases hz with rfl | rfl
        · cases hsg : sgnB x <;> decide +kernel
        · cases hsg : sgnB x <;> decide +kernel
      · rw [if_neg h3] at h
        exact absurd h (by decide)
theorem plain_fin {x : Nat} {z : List UInt8} (h : (plainP x z).2 = false) : absN x < INFb ∧ vM x ≠ 0 ∧ ∀ z, (plainP x z).2 = false := by
  have key : ¬ 9218868437227405312 < absN x ∧ absN x ≠ 9218868437227405312 ∧ absN x ≠ 0 := by
    unfold plainP at h
    split at h
    · cases h
    · split at h
      · cases h
      · split at h
        · cases h
        · exact ⟨by omega, by omega, by omega⟩
  obtain ⟨h1, h2, h3⟩ := key
  refine ⟨by unfold INFb; omega, ?_, fun z => ?_⟩
  · rw [vM_sg]
    unfold sgF
    split <;> omega
  · unfold plainP
    rw [if_neg h1, if_neg h2, if_neg h3]
end Go.Proofs.YtkfbailpifmdcaaGreatDoor
end

section
namespace Go.Proofs.YtkfbailpifmdcaaGreatDoor
open Go.RowKit

set_option maxRecDepth 100000 in
set_option maxHeartbeats 8000000 in
theorem TextRises_any (a b many : Nat) (exp : Int) (w : World) (ha : a < 18446744073709551616) (hb : b < 18446744073709551616) (hm : many < 256) (hx1 : -9223372036854775808 ≤ exp) (hx2 : exp ≤ 9223372036854775807)
    (X Y U Z : (Nat × Nat) × Nat) (hX : nearTP false (Lib.decDigits a) exp = X) (hY : nearTP false (Lib.decDigits b) exp = Y) (hU : nearTP false (Lib.decDigits a) 0 = U) (hZ : parseP (Lib.decDigits a ++ 46 :: List.replicate many 48) = Z)
    (hXY : X.2 = Y.2) (hXi : X.1.1 ≤ INFb) (hYi : Y.1.1 ≤ INFb) (hab : X.2 = 0 → a ≤ b → X.1.1 ≤ Y.1.1) (hba : X.2 = 0 → b ≤ a → Y.1.1 ≤ X.1.1) (hU0 : U.2 = 0) (hZ0 : Z.2 = 0) (hZU : Z.1 = U.1)
    (hT : TabW w) (hP : TabP w) :
    Calls Tryz.prog 8 #[.int .u64 ((a : Nat) : Int), .int .u64 ((b : Nat) : Int), .int .i64 exp, .int .u8 ((many : Nat) : Int)] w fun en w' => en = .returned (.bool true) ∧ Below w.heap.size w w' := by
  have hla : (Lib.decDigits a).length ≤ 20 := dec_len_le 20 a (by decide) (by omega)
  have hlb : (Lib.decDigits b).length ≤ 20 := dec_len_le 20 b (by decide) (by omega)
  have hna := fun w (hT : TabW w) => textNear_any false ⟨(Lib.decDigits a).toArray⟩ exp w hx1 hx2 hT
  have hnb := fun w (hT : TabW w) => textNear_any false ⟨(Lib.decDigits b).toArray⟩ exp w hx1 hx2 hT
  have hnu := fun w (hT : TabW w) => textNear_any false ⟨(Lib.decDigits a).toArray⟩ 0 w (by decide) (by decide) hT
  have hpz := fun w (hT : TabW w) => Parse_any ⟨(Lib.decDigits a ++ 46 :: List.replicate many 48).toArray⟩ w hT
  simp only [hX, hY, hU, hZ] at hna hnb hnu hpz
  have hnum := number28_any a
  have hnum2 := number28_any b
  clear hX hY hU hZ
  obtain ⟨⟨X1, X2⟩, X3⟩ := X
  obtain ⟨⟨Y1, Y2⟩, Y3⟩ := Y
  obtain ⟨⟨U1, U2⟩, U3⟩ := U
  obtain ⟨⟨Z1, Z2⟩, Z3⟩ := Z
  simp only at *
  subst hXY hU0 hZ0
  generalize Lib.decDigits a = da at *
  generalize Lib.decDigits b = db at *
  have HNA := Lib.hid hna
  have HNB := Lib.hid hnb
  have HNU := Lib.hid hnu
  have HPZ := Lib.hid hpz
  have HAB := Lib.hid hab
  have HBA := Lib.hid hba
  have HZU := Lib.hid hZU
  have HN1 := Lib.hid (fun w => hnum w ha)
  have HN2 := Lib.hid (fun w => hnum2 w hb)
  clear hna hnb hnu hpz hab hba hZU hnum hnum2
  go_enter Tryz.func8, Tryz.ntmps8
  go_wp2_with fail
  refine (begins_any w hT hP).mono ?_
  rintro e w1 ⟨rfl, hb1⟩
  go_wp2_with fail
  refine (HN1.out _).mono ?_
  rintro e w' ⟨rfl, hw⟩
  subst hw
  go_wp2_with fail
  refine (HNA.out _ (hT.call hb1)).mono ?_
  rintro e w2 ⟨rfl, hb2⟩
  have hb12 := hb1.trans (hb2.mono hb1.size)
  have hp1 := Blk.new w2 #[.int .u64 ((X1 : Nat) : Int), .int .u8 ((X2 : Nat) : Int)] 25
  have hb3 := hb12.alloc (hb12.size) (.cells #[.int .u64 ((X1 : Nat) : Int), .int .u8 ((X2 : Nat) : Int)] 25)
  go_wp2_with fail
  refine (HN2.out _).mono ?_
  rintro e w' ⟨rfl, hw⟩
  subst hw
  generalize hW3 : w2.alloc (.cells #[.int .u64 ((X1 : Nat) : Int), .int .u8 ((X2 : Nat) : Int)] 25) = w3 at *
  generalize w2.heap.size = p1 at *
  clear hW3 hb2 hb12
  go_wp2_with fail
  refine (HNB.out _ (hT.call hb3)).mono ?_
  rintro e w4 ⟨rfl, hb4⟩
  have hp14 := hp1.call hb4
  have hb5 := hb3.trans (hb4.mono hb3.size)
  have hp2 := Blk.new w4 #[.int .u64 ((Y1 : Nat) : Int), .int .u8 ((Y2 : Nat) : Int)] 25
  have hp15 := hp14.alloc (.cells #[.int .u64 ((Y1 : Nat) : Int), .int .u8 ((Y2 : Nat) : Int)] 25)
  have hb6 := hb5.alloc (hb5.size) (.cells #[.int .u64 ((Y1 : Nat) : Int), .int .u8 ((Y2 : Nat) : Int)] 25)
  go_upto_region 5 with fail
  generalize hW5 : w4.alloc (.cells #[.int .u64 ((Y1 : Nat) : Int), .int .u8 ((Y2 : Nat) : Int)] 25) = w5 at *
  generalize w4.heap.size = p2 at *
  clear hW5 hb5 hb4 hp14 hp1 hb3 hb1
  have hxx : (((X3 : Nat) : Int) != ((X3 : Nat) : Int)) = false := by simp
  by_cases h0 : X3 = 0
  · have hz : (((X3 : Nat) : Int) != 0) = false := by simp [h0]
    have hle1 := HAB.out h0
    have hle2 := HBA.out h0
    have HLE := Lib.hid (And.intro hle1 hle2)
    clear hle1 hle2 HAB HBA h0
    go_upto_region 7 with fail
    go_cut [8, 66] (fun u8 u66 wx => u8 = .bool false ∧ u66 = .bool false ∧ wx = w5)
    case first =>
      have pc1 := hp15.cell 0 _ rfl
      have pf1 := hp15.free 0
      have pc2 := hp2.cell 0 _ rfl
      have pf2 := hp2.free 0
      obtain ⟨hle1, hle2⟩ := HLE.out
      by_cases hab1 : a ≤ b
      · have d1 : decide (a ≤ b) = true := decide_eq_true (by omega)
        have hl1 := Less_any Y1 X1 w5 hYi hXi
        rw [decide_eq_false (show ¬ Y1 < X1 by have := hle1 hab1; omega)] at hl1
        by_cases hab2 : b ≤ a
        · have d2 : decide (b ≤ a) = true := decide_eq_true (by omega)
          have hl2 := Less_any X1 Y1 w5 hXi hYi
          rw [decide_eq_false (show ¬ X1 < Y1 by have := hle2 hab2; omega)] at hl2
          have HL1 := Lib.hid hl1
          have HL2 := Lib.hid hl2
          clear hle1 hle2 hab1 hab2 hl1 hl2
          go_wp2_with fail
          refine HL1.out.mono ?_
          rintro e w' ⟨rfl, hw⟩
          subst hw
          go_wp2_with fail
          refine HL2.out.mono ?_
          rintro e w' ⟨rfl, hw⟩
          subst hw
          go_wp2_with fail
          go_meet
          exact ⟨rfl, rfl, rfl⟩
        · have d2 : decide (b ≤ a) = false := decide_eq_false (by omega)
          have HL1 := Lib.hid hl1
          clear hle1 hle2 hab1 hab2 hl1
          go_wp2_with fail
          refine HL1.out.mono ?_
          rintro e w' ⟨rfl, hw⟩
          subst hw
          go_wp2_with fail
          go_meet
          exact ⟨rfl, rfl, rfl⟩
      · have d1 : decide (a ≤ b) = false := decide_eq_false (by omega)
        have d2 : decide (b ≤ a) = true := decide_eq_true (by omega)
        have hl2 := Less_any X1 Y1 w5 hXi hYi
        rw [decide_eq_false (show ¬ X1 < Y1 by have := hle2 (by omega); omega)] at hl2
        have HL2 := Lib.hid hl2
        clear hle1 hle2 hab1 hl2
        go_wp2_with fail
        refine HL2.out.mono ?_
        rintro e w' ⟨rfl, hw⟩
        subst hw
        go_wp2_with fail
        go_meet
        exact ⟨rfl, rfl, rfl⟩
    case rest =>
      obtain ⟨rfl, rfl, rfl⟩ := hcut
      go_wp2_with fail
      refine (HN1.out _).mono ?_
      rintro e w' ⟨rfl, hw⟩
      subst hw
      have hcat : (⟨da.toArray⟩ : ByteArray) ++ ⟨#[46]⟩ = ⟨(da ++ 46 :: List.replicate 0 48).toArray⟩ := by
        apply ByteArray.ext
        simp
      have hcap : (⟨da.toArray⟩ : ByteArray).size ≤ 20 := by simpa [ByteArray.size] using hla
      go_wp2_with fail
      go_loop [13, 14] (fun u13 u14 => ∃ (i : Nat) (l : List UInt8), u13 = .string ⟨l.toArray⟩ ∧ u14 = .int .i64 ((i : Nat) : Int) ∧ i ≤ many ∧ l.length = da.length + 1 + i ∧ Hid (l = da ++ 46 :: List.replicate i 48)) (fun _ u14 => many - natOf u14)
      case atStart => exact ⟨0, da ++ [46], rfl, rfl, Nat.zero_le _, by simp, by show _ = _; simp⟩
      case round =>
        obtain ⟨i, l, rfl, rfl, hi, hl, HL⟩ := hrel
        by_cases hend : i < many
        · have hd : decide (i < many) = true := decide_eq_true hend
          have hcap2 : (⟨l.toArray⟩ : ByteArray).size ≤ 300 := by simp only [ByteArray.size, List.size_toArray]; omega
          go_wp2_with fail
          refine ⟨⟨i + 1, l ++ [48], congrArg Value.string (by apply ByteArray.ext; simp), by simp, hend, by simp; omega, ?_⟩, ?_⟩
          · show _ = _
            rw [HL.out, List.replicate_succ']
            simp
          · simp [natOf]
            omega
        · have hie : i = many := by omega
          subst hie
          have hd : decide (i < i) = false := decide_eq_false hend
          have hl2 := HL.out
          subst hl2
          clear hend HL
          go_wp2_with fail
          refine (HPZ.out _ (hT.call hb6)).mono ?_
          rintro e w7 ⟨rfl, hb7⟩
          have hb67 := hb6.trans (hb7.mono hb6.size)
          have hp3 := Blk.new w7 #[.int .u64 ((Z1 : Nat) : Int), .int .u8 ((Z2 : Nat) : Int)] 25
          have hb8 := hb67.alloc (hb67.size) (.cells #[.int .u64 ((Z1 : Nat) : Int), .int .u8 ((Z2 : Nat) : Int)] 25)
          clear hp15 hp2 HPZ HNA HNB HN2 HLE
          go_wp2_with fail
          refine (HN1.out _).mono ?_
          rintro e w' ⟨rfl, hw⟩
          subst hw
          generalize hW8 : w7.alloc (.cells #[.int .u64 ((Z1 : Nat) : Int), .int .u8 ((Z2 : Nat) : Int)] 25) = w8 at *
          generalize w7.heap.size = p3 at *
          clear hW8 hb7 hb67 hb6
          go_wp2_with fail
          refine (HNU.out _ (hT.call hb8)).mono ?_
          rintro e w9 ⟨rfl, hb9⟩
          have hp39 := hp3.call hb9
          have hb10 := hb8.trans (hb9.mono hb8.size)
          have hp4 := Blk.new w9 #[.int .u64 ((U1 : Nat) : Int), .int .u8 ((U2 : Nat) : Int)] 25
          have hp310 := hp39.alloc (.cells #[.int .u64 ((U1 : Nat) : Int), .int .u8 ((U2 : Nat) : Int)] 25)
          have hb11 := hb10.alloc (hb10.size) (.cells #[.int .u64 ((U1 : Nat) : Int), .int .u8 ((U2 : Nat) : Int)] 25)
          go_upto_region 16 with fail
          generalize hW10 : w9.alloc (.cells #[.int .u64 ((U1 : Nat) : Int), .int .u8 ((U2 : Nat) : Int)] 25) = w10 at *
          generalize w9.heap.size = p4 at *
          have hzu := HZU.out
          injection hzu with hz1 hz2
          subst hz1 hz2
          have c1 := hp310.cell 0 _ rfl
          have c2 := hp310.cell 1 _ rfl
          have f1 := hp310.free 0
          have f2 := hp310.free 1
          have c3 := hp4.cell 0 _ rfl
          have c4 := hp4.cell 1 _ rfl
          have f3 := hp4.free 0
          have f4 := hp4.free 1
          clear hW10 hb10 hb9 hb8 hp39 hp3 hp310 hp4
          have hzz : (((Z1 : Nat) : Int) == ((Z1 : Nat) : Int)) = true := by simp
          have hzz2 : (((Z2 : Nat) : Int) == ((Z2 : Nat) : Int)) = true := by simp
          go_wp2_with fail
          go_ret
          exact ⟨rfl, hb11⟩
  · have hz : (((X3 : Nat) : Int) != 0) = true := by simp; omega
    have hxx2 : (((X3 : Nat) : Int) == ((X3 : Nat) : Int)) = true := by simp
    go_wp2_with fail
    go_ret
    exact ⟨rfl, hb6⟩

theorem TextRises_true (a b many : Nat) (exp : Int) (w : World) (ha : a < 18446744073709551616) (hb : b < 18446744073709551616) (hm : many < 256) (hx1 : -9223372036854775808 ≤ exp) (hx2 : exp ≤ 9223372036854775807) (hT : TabW w) (hP : TabP w) :
    Calls Tryz.prog 8 #[.int .u64 ((a : Nat) : Int), .int .u64 ((b : Nat) : Int), .int .i64 exp, .int .u8 ((many : Nat) : Int)] w fun en w' => en = .returned (.bool true) ∧ Below w.heap.size w w' := by
  obtain ⟨h1, h2, h3, h4, h5⟩ := rises_law (exp := exp) ha hb
  obtain ⟨n1, n2, n3⟩ := noughts_law ha hm
  exact TextRises_any a b many exp w ha hb hm hx1 hx2 _ _ _ _ rfl rfl rfl rfl h1 h2 h3 h4 h5 n1 n2 n3 hT hP
end Go.Proofs.YtkfbailpifmdcaaGreatDoor
end

section
namespace Go.Proofs.YtkfbailpifmdcaaGreatDoor
open Go.RowKit

set_option maxRecDepth 100000 in
set_option maxHeartbeats 2000000 in
theorem read_true (s : List UInt8) (x f : Nat) (exact : Bool) (w : World) (hp : parseP s = ((x, f), 0)) (hf : exact = true → f = 0) (hT : TabW w) :
    Calls Tryz.prog 14 #[.string ⟨s.toArray⟩, .int .u64 ((x : Nat) : Int), .bool exact] w fun e w' => e = .returned (.bool true) ∧ Below w.heap.size w w' := by
  have hpa := fun w hT => Parse_any ⟨s.toArray⟩ w hT
  simp only [hp] at hpa
  have HP := Lib.hid hpa
  clear hpa hp
  go_enter Tryz.func14, Tryz.ntmps14
  go_wp2_with fail
  refine (HP.out w hT).mono ?_
  rintro e w1 ⟨rfl, hb1⟩
  have hb2 := hb1.alloc hb1.size (.cells #[.int .u64 ((x : Nat) : Int), .int .u8 ((f : Nat) : Int)] 25)
  have hk := Blk.new w1 #[.int .u64 ((x : Nat) : Int), .int .u8 ((f : Nat) : Int)] 25
  have c0 := hk.cell 0 _ rfl
  have c1 := hk.cell 1 _ rfl
  have f0 := hk.free 0
  have f1 := hk.free 1
  have hxx : (((x : Nat) : Int) == ((x : Nat) : Int)) = true := by simp
  cases exact with
  | false =>
    clear hf
    go_wp2_with fail
    go_ret
    exact ⟨rfl, hb2⟩
  | true =>
    have hf0 := hf rfl
    subst hf0
    clear hf
    go_wp2_with fail
    go_ret
    exact ⟨rfl, hb2⟩

set_option maxRecDepth 100000 in
theorem Shortest_plain (x : Nat) (w : World) (hx : x < 18446744073709551616) (hpl : (plainP x [48]).2 = true) :
    Calls Tryz.prog 15 #[.int .u64 ((x : Nat) : Int)] w fun en w' => en = .returned (.string ⟨(plainP x [48]).1.toArray⟩) ∧ w = w' := by
  have hpla := fun w => plain_any x ⟨#[48]⟩ w hx (by decide)
  simp only at hpla
  rw [show plainP x (⟨#[48]⟩ : ByteArray).data.toList = plainP x [48] from rfl, hpl] at hpla
  generalize (plainP x [48]).1 = pl at *
  have HPL := Lib.hid hpla
  clear hpla hpl
  go_enter Tryz.func15, Tryz.ntmps15
  go_wp2_with fail
  refine (HPL.out w).mono ?_
  rintro e w1 ⟨rfl, hw⟩
  subst hw
  go_wp2_with fail
  go_ret
  exact ⟨rfl, rfl⟩
set_option maxRecDepth 100000 in
theorem Exact_plain (x : Nat) (w : World) (hx : x < 18446744073709551616) (hpl : (plainP x [48]).2 = true) :
    Calls Tryz.prog 16 #[.int .u64 ((x : Nat) : Int)] w fun en w' => en = .returned (.string ⟨(plainP x [48]).1.toArray⟩) ∧ w = w' := by
  have hpla := fun w => plain_any x ⟨#[48]⟩ w hx (by decide)
  simp only at hpla
  rw [show plainP x (⟨#[48]⟩ : ByteArray).data.toList = plainP x [48] from rfl, hpl] at hpla
  generalize (plainP x [48]).1 = pl at *
  have HPL := Lib.hid hpla
  clear hpla hpl
  go_enter Tryz.func16, Tryz.ntmps16
  go_wp2_with fail
  refine (HPL.out w).mono ?_
  rintro e w1 ⟨rfl, hw⟩
  subst hw
  go_wp2_with fail
  go_ret
  exact ⟨rfl, rfl⟩
set_option maxRecDepth 100000 in
theorem Hex_plain (x : Nat) (w : World) (hx : x < 18446744073709551616) (hpl : (plainP x [48, 120, 48, 112, 48]).2 = true) :
    Calls Tryz.prog 17 #[.int .u64 ((x : Nat) : Int)] w fun en w' => en = .returned (.string ⟨(plainP x [48, 120, 48, 112, 48]).1.toArray⟩) ∧ w = w' := by
  have hpla := fun w => plain_any x ⟨#[48, 120, 48, 112, 48]⟩ w hx (by decide)
  simp only at hpla
  rw [show plainP x (⟨#[48, 120, 48, 112, 48]⟩ : ByteArray).data.toList = plainP x [48, 120, 48, 112, 48] from rfl, hpl] at hpla
  generalize (plainP x [48, 120, 48, 112, 48]).1 = pl at *
  have HPL := Lib.hid hpla
  clear hpla hpl
  go_enter Tryz.func17, Tryz.ntmps17
  go_wp2_with fail
  refine (HPL.out w).mono ?_
  rintro e w1 ⟨rfl, hw⟩
  subst hw
  go_wp2_with fail
  go_ret
  exact ⟨rfl, rfl⟩

/-- How many digits stand ahead of an e. -/
def cntL : List UInt8 → Nat
  | [] => 0
  | c :: t => if c = 101 then 0 else if 48 ≤ c.toNat ∧ c.toNat ≤ 57 then cntL t + 1 else cntL t

set_option maxRecDepth 100000 in
set_option maxHeartbeats 2000000 in
theorem digits28_any (s : ByteArray) (w : World) (hs : s.size ≤ 100000) :
    Calls Tryz.prog 18 #[.string s] w fun e w' => e = .returned (.int .i64 ((cntL s.data.toList : Nat) : Int)) ∧ w = w' := by
  obtain ⟨R, hR⟩ : ∃ R, cntL s.data.toList = R := ⟨_, rfl⟩
  rw [hR]
  have HR := Lib.hid hR
  clear hR
  go_enter Tryz.func18, Tryz.ntmps18
  go_wp2_with fail
  go_loop [3, 4] (fun u3 u4 => ∃ (i k : Nat), i ≤ s.size ∧ k ≤ i ∧ u4 = .int .i64 ((i : Nat) : Int) ∧ u3 = .int .i64 ((k : Nat) : Int) ∧ Hid (k + cntL (s.data.toList.drop i) = R)) (fun _ u4 => s.size - natOf u4)
  case atStart => exact ⟨0, 0, Nat.zero_le _, Nat.le_refl _, rfl, rfl, by show _ = _; rw [Nat.zero_add]; exact HR.out⟩
  case round =>
    clear HR
    obtain ⟨i, k, hi, hk, rfl, rfl, HL⟩ := hrel
    by_cases hp : i < s.size
    · have hst := HL.out
      rw [drop_at s i hp, cntL] at hst
      have hpi : ((i : Nat) : Int) < ((s.size : Nat) : Int) := by omega
      obtain ⟨c, hc⟩ : ∃ c, s[i]'hp = c := ⟨_, rfl⟩
      have hget : ∀ h, s[i]'h = c := fun _ => hc
      rw [hc] at hst
      clear hc
      by_cases h101 : c = 101
      · rw [if_pos h101] at hst
        have e101 : ((c.toNat : Nat) : Int) = 101 := by rw [h101]; rfl
        have HS2 := Lib.hid hst
        clear hst h101 HL
        go_wp2_with fail
        go_ret
        exact ⟨by rw [← HS2.out]; rfl, rfl⟩
      · rw [if_neg h101] at hst
        have e101 : (((c.toNat : Nat) : Int) == 101) = false := beq_eq_false_iff_ne.2 (fun h => h101 (UInt8.toNat_inj.1 (by show c.toNat = 101; omega)))
        by_cases h48 : c.toNat < 48
        · rw [if_neg (by omega)] at hst
          have HS2 := Lib.hid hst
          have h48i : ((c.toNat : Nat) : Int) < 48 := by omega
          clear h101 hst HL
          go_wp2_with fail
          refine ⟨⟨i + 1, k, by omega, by omega, by go_num, rfl, HS2.out⟩, ?_⟩
          simp [natOf]
          omega
        · by_cases h57 : 57 < c.toNat
          · rw [if_neg (by omega)] at hst
            have HS2 := Lib.hid hst
            have h57i : (57 : Int) < ((c.toNat : Nat) : Int) := by omega
            clear h101 hst HL
            go_wp2_with fail
            refine ⟨⟨i + 1, k, by omega, by omega, by go_num, rfl, HS2.out⟩, ?_⟩
            simp [natOf]
            omega
          · rw [if_pos (by omega)] at hst
            have HS2 := Lib.hid (show k + 1 + cntL (s.data.toList.drop (i + 1)) = R by omega)
            have h48i : (48 : Int) ≤ ((c.toNat : Nat) : Int) := by omega
            have h57i : ((c.toNat : Nat) : Int) ≤ 57 := by omega
            clear h101 hst HL
            go_wp2_with fail
            refine ⟨⟨i + 1, k + 1, by omega, by omega, by go_num, by go_num, HS2.out⟩, ?_⟩
            simp [natOf]
            omega
    · have hst := HL.out
      have hdn : s.data.toList.drop i = [] := List.drop_eq_nil_of_le (by simp; omega)
      rw [hdn, cntL] at hst
      have HS2 := Lib.hid hst
      clear hst HL hdn
      go_wp2_with fail
      go_ret
      exact ⟨by rw [← HS2.out]; rfl, rfl⟩
end Go.Proofs.YtkfbailpifmdcaaGreatDoor
end

section
namespace Go.Proofs.YtkfbailpifmdcaaGreatDoor
open Go.RowKit

set_option maxRecDepth 100000 in
set_option maxHeartbeats 2000000 in
theorem TextBack_any (x y f g : Nat) (D S E H : List UInt8) (w : World) (hx : x < 18446744073709551616)
    (hy : y = if classN x = 5 ∨ classN x = 6 then 9221120237041090560 else x)
    (hD : ∀ w, TabW w → TabP w → Calls Tryz.prog 13 #[.int .u64 ((x : Nat) : Int), .int .i64 17] w fun en w' => en = .returned (.tuple #[.string ⟨D.toArray⟩, .int .i64 0]) ∧ Below w.heap.size w w')
    (hS : ∀ w, TabW w → TabP w → Calls Tryz.prog 15 #[.int .u64 ((x : Nat) : Int)] w fun en w' => en = .returned (.string ⟨S.toArray⟩) ∧ Below w.heap.size w w')
    (hE : ∀ w, TabW w → TabP w → Calls Tryz.prog 16 #[.int .u64 ((x : Nat) : Int)] w fun en w' => en = .returned (.string ⟨E.toArray⟩) ∧ Below w.heap.size w w')
    (hH : ∀ w, TabW w → TabP w → Calls Tryz.prog 17 #[.int .u64 ((x : Nat) : Int)] w fun en w' => en = .returned (.string ⟨H.toArray⟩) ∧ Below w.heap.size w w')
    (pD : parseP D = ((y, f), 0)) (pS : parseP S = ((y, g), 0)) (pE : parseP E = ((y, 0), 0)) (pH : parseP H = ((y, 0), 0)) (hT : TabW w) (hP : TabP w) :
    Calls Tryz.prog 4 #[.int .u64 ((x : Nat) : Int)] w fun en w' => en = .returned (.bool true) ∧ Below w.heap.size w w' := by
  have HD := Lib.hid hD
  have HS := Lib.hid hS
  have HE := Lib.hid hE
  have HH := Lib.hid hH
  have rD := fun w hT => read_true D y f false w pD (fun h => absurd h (by decide)) hT
  have rS := fun w hT => read_true S y g false w pS (fun h => absurd h (by decide)) hT
  have rE := fun w hT => read_true E y 0 true w pE (fun _ => rfl) hT
  have rH := fun w hT => read_true H y 0 true w pH (fun _ => rfl) hT
  have RD := Lib.hid rD
  have RS := Lib.hid rS
  have RE := Lib.hid rE
  have RH := Lib.hid rH
  have HCL := Lib.hid (fun w => Class_any x w hx)
  clear hD hS hE hH rD rS rE rH pD pS pE pH
  generalize hk : classN x = k at *
  clear hk
  obtain ⟨q, hqd⟩ : ∃ q, decide (k = 5 ∨ k = 6) = q := ⟨_, rfl⟩
  have hy2 : y = if q = true then 9221120237041090560 else x := by
    rw [hy, ← hqd]
    simp only [decide_eq_true_eq]
  have HQD := Lib.hid hqd
  clear hqd hy
  go_enter Tryz.func4, Tryz.ntmps4
  generalize hZ : (9221120237041090560 : Int) = Z
  go_wp2_with fail
  refine (begins_any w hT hP).mono ?_
  rintro e w1 ⟨rfl, hb1⟩
  go_upto_region 4 with fail
  go_cut [2, 3, 16] (fun u2 u3 u16 wx => u2 = .bool false ∧ u3 = .int .u64 ((x : Nat) : Int) ∧ u16 = .bool q ∧ Below w1.heap.size w1 wx)
  case first =>
    go_wp2_with fail
    refine (HCL.out w1).mono ?_
    rintro e w2 ⟨rfl, hb2⟩
    by_cases h5 : k = 5
    · have hb3 : (k == 5) = true := by simp [h5]
      have hd : q = true := by rw [← HQD.out]; simp [h5]
      subst hd
      clear hy2 h5 HQD
      go_wp2_with fail
      go_meet
      exact ⟨rfl, rfl, rfl, hb2⟩
    · have hb3 : (k == 5) = false := by simp [h5]
      have hd : (k == 6) = q := by
        rw [← HQD.out]
        by_cases h6 : k = 6 <;> simp [h5, h6]
      clear hy2 h5 HQD
      go_wp2_with fail
      refine (HCL.out w2).mono ?_
      rintro e w3 ⟨rfl, hb3⟩
      have hb23 := hb2.trans (hb3.mono hb2.size)
      go_wp2_with fail
      go_meet
      exact ⟨rfl, rfl, by first | rfl | rw [hd], hb23⟩
  case rest =>
    obtain ⟨rfl, rfl, rfl, hbr⟩ := hcut
    have hb1c := hb1.trans (hbr.mono hb1.size)
    clear HQD
    cases q
    all_goals first
      | (rw [if_pos rfl] at hy2; have HYI := Lib.hid (show Z = ((y : Nat) : Int) by omega); clear hy2)
      | (rw [if_neg (by decide)] at hy2; subst hy2)
    all_goals
      clear hb1 hbr hZ
      go_wp2_with fail
      try rw [HYI.out]
      refine (HD.out _ (hT.call hb1c) (hP.call hb1c)).mono ?_
      rintro e w2 ⟨rfl, hb2⟩
      have hb3 := hb1c.trans (hb2.mono hb1c.size)
      clear hb1c hb2
      go_wp2_with fail
      refine (RD.out _ (hT.call hb3)).mono ?_
      rintro e w4 ⟨rfl, hb4⟩
      have hb5 := hb3.trans (hb4.mono hb3.size)
      clear hb3 hb4
      go_wp2_with fail
      refine (HS.out _ (hT.call hb5) (hP.call hb5)).mono ?_
      rintro e w6 ⟨rfl, hb6⟩
      have hb7 := hb5.trans (hb6.mono hb5.size)
      clear hb5 hb6
      go_wp2_with fail
      refine (RS.out _ (hT.call hb7)).mono ?_
      rintro e w8 ⟨rfl, hb8⟩
      have hb9 := hb7.trans (hb8.mono hb7.size)
      clear hb7 hb8
      go_wp2_with fail
      refine (HE.out _ (hT.call hb9) (hP.call hb9)).mono ?_
      rintro e w10 ⟨rfl, hb10⟩
      have hb11 := hb9.trans (hb10.mono hb9.size)
      clear hb9 hb10
      go_wp2_with fail
      refine (RE.out _ (hT.call hb11)).mono ?_
      rintro e w12 ⟨rfl, hb12⟩
      have hb13 := hb11.trans (hb12.mono hb11.size)
      clear hb11 hb12
      go_wp2_with fail
      refine (HH.out _ (hT.call hb13) (hP.call hb13)).mono ?_
      rintro e w14 ⟨rfl, hb14⟩
      have hb15 := hb13.trans (hb14.mono hb13.size)
      clear hb13 hb14
      go_wp2_with fail
      refine (RH.out _ (hT.call hb15)).mono ?_
      rintro e w16 ⟨rfl, hb16⟩
      have hb17 := hb15.trans (hb16.mono hb15.size)
      clear hb15 hb16
      go_wp2_with fail
      go_ret
      exact ⟨rfl, hb17⟩

theorem class_nan (x : Nat) : (classN x = 5 ∨ classN x = 6) ↔ 9218868437227405312 < absN x := by
  unfold classN absN
  have he : expN x = x / 4503599627370496 % 2048 := rfl
  generalize expN x = E at *
  split
  · split
    · omega
    · split <;> omega
  · split
    · omega
    · split <;> omega
theorem Calls.below {f : FuncId} {args : Array Value} {w : World} {v : Value} (h : Calls Tryz.prog f args w fun en w' => en = .returned v ∧ w = w') : Calls Tryz.prog f args w fun en w' => en = .returned v ∧ Below w.heap.size w w' := by
  refine h.mono ?_
  rintro e w' ⟨rfl, hw⟩
  subst hw
  exact ⟨rfl, Below.refl _ _⟩
theorem TextBack_true (x : Nat) (w : World) (hx : x < 18446744073709551616) (hT : TabW w) (hP : TabP w) :
    Calls Tryz.prog 4 #[.int .u64 ((x : Nat) : Int)] w fun en w' => en = .returned (.bool true) ∧ Below w.heap.size w w' := by
  cases hpl : (plainP x [48]).2 with
  | true =>
    have hpl2 : (plainP x [48, 120, 48, 112, 48]).2 = true := by
      cases h : (plainP x [48, 120, 48, 112, 48]).2 with
      | true => rfl
      | false => rw [(plain_fin h).2.2 [48]] at hpl; cases hpl
    have hd : digitsP x 17 0 = ((plainP x [48]).1, 0) := by
      unfold digitsP
      rw [if_neg (by decide), hpl, if_pos rfl]
    have hD := fun w hT hP => Digits_any x 17 0 w hx (by decide) (by decide) (fun h => by rw [hpl] at h; cases h) (by decide) (by decide) hT hP
    simp only [hd] at hD
    have p1 := plain_bits hx (Or.inl rfl) hpl
    have p2 := plain_bits hx (Or.inr rfl) hpl2
    exact TextBack_any x _ 0 0 (plainP x [48]).1 (plainP x [48]).1 (plainP x [48]).1 (plainP x [48, 120, 48, 112, 48]).1 w hx (by simp only [class_nan x]; rfl) hD (fun w _ _ => Calls.below (Shortest_plain x w hx hpl)) (fun w _ _ => Calls.below (Exact_plain x w hx hpl)) (fun w _ _ => Calls.below (Hex_plain x w hx hpl2)) p1 p1 p1 p2 hT hP
  | false =>
    obtain ⟨hfin, hm, hall⟩ := plain_fin hpl
    obtain ⟨t, t1, t2, t3⟩ := top_num x
    have hn := nM_ne hm
    have ht := t3 hn
    obtain ⟨n, hn17, hsh⟩ := short_exists hfin hm ht
    have hnan : ¬ 9218868437227405312 < absN x := by unfold INFb at hfin; omega
    have hD := fun w hT hP => Digits_any x 17 t w hx (by decide) (by decide) (fun _ => ht) t1 t2 hT hP
    obtain ⟨d1, d2, d3⟩ := digits17_bits hx hfin hm hpl ht t1 t2
    obtain ⟨s1, s2⟩ := short_bits hx hsh t1 t2
    simp only [d1] at hD
    have pD : parseP (digitsP x 17 t).1 = ((x, (parseP (digitsP x 17 t).1).1.2), 0) := Prod.ext (Prod.ext d3 rfl) d2
    have pS : parseP (shortL x n t) = ((x, (parseP (shortL x n t)).1.2), 0) := Prod.ext (Prod.ext s2 rfl) s1
    exact TextBack_any x x _ _ _ _ _ _ w hx (by rw [if_neg (fun h => hnan ((class_nan x).1 h))]) hD (fun w hT hP => Shortest_any x n t w hx hpl hsh t1 t2 hT hP) (fun w hT hP => Exact_any x w hx hpl hT hP) (fun w hT hP => Hex_any x w hx (hall _) hn hT hP) pD pS (exact_bits hx hfin hm) (hex_bits hx hfin hm) hT hP
end Go.Proofs.YtkfbailpifmdcaaGreatDoor
end
