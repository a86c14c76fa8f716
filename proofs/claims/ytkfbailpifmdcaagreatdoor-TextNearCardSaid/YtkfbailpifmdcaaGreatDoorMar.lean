/- LawE LawF PlnD PlnE PlnF PlnG -/
import Derived.Test.YtkfbailpifmdcaaGreatDoorMap
import Derived.Test.YtkfbailpifmdcaaGreatDoorMaq
section
namespace Go.Proofs.YtkfbailpifmdcaaGreatDoor
open Go.RowKit

def natOf : Value → Nat
  | .int _ n => n.toNat
  | _ => 0
theorem one_digit : ∀ d, d < 10 → (⟨#[48, 49, 50, 51, 52, 53, 54, 55, 56, 57]⟩ : ByteArray).extract d (d + 1) = ⟨[dgB d].toArray⟩ := by decide

set_option maxRecDepth 100000 in
set_option maxHeartbeats 2000000 in
theorem number28_any (a : Nat) (w : World) (ha : a < 18446744073709551616) :
    Calls Tryz.prog 24 #[.int .u64 ((a : Nat) : Int)] w fun e w' => e = .returned (.string ⟨(Lib.decDigits a).toArray⟩) ∧ w = w' := by
  have hlen : (Lib.decDigits a).length ≤ 20 := dec_len_le 20 a (by decide) (by omega)
  obtain ⟨R, hR⟩ : ∃ R, Lib.decDigits a = R := ⟨_, rfl⟩
  rw [hR] at hlen ⊢
  have HR := Lib.hid hR
  clear hR
  go_enter Tryz.func24, Tryz.ntmps24
  go_wp2_with fail
  go_loop [0, 3] (fun u0 u3 => ∃ (n : Nat) (l : List UInt8), u0 = .int .u64 ((n : Nat) : Int) ∧ n < 18446744073709551616 ∧ u3 = .string ⟨l.toArray⟩ ∧ l.length ≤ 20 ∧ Hid (Lib.decDigits n ++ l = R)) (fun u0 _ => natOf u0)
  case atStart => exact ⟨a, [], rfl, ha, rfl, by simp, by show _ = _; rw [List.append_nil]; exact HR.out⟩
  case round =>
    obtain ⟨n, l, rfl, hn, rfl, hl, HL⟩ := hrel
    obtain ⟨d, hd⟩ : ∃ d, n % 10 = d := ⟨_, rfl⟩
    obtain ⟨q, hq⟩ : ∃ q, n / 10 = q := ⟨_, rfl⟩
    have hd10 : d < 10 := by omega
    have he := one_digit d hd10
    have hcat : (⟨#[dgB d]⟩ : ByteArray) ++ ⟨l.toArray⟩ = ⟨(dgB d :: l).toArray⟩ := by
      apply ByteArray.ext
      simp
    by_cases hq0 : q = 0
    · have hb : (((n : Nat) : Int) / 10 == 0) = true := by rw [beq_iff_eq]; omega
      have hr := HL.out
      rw [dec_small (show n < 10 by omega), show n = d by omega] at hr
      subst hr
      clear HL
      go_wp2_with fail
      go_ret
      exact ⟨rfl, rfl⟩
    · have hb : (((n : Nat) : Int) / 10 == 0) = false := by rw [beq_eq_false_iff_ne]; omega
      have hr := HL.out
      rw [dec_step (show ¬ n < 10 by omega), hq, hd, List.append_assoc] at hr
      have HR2 := Lib.hid hr
      have hll : (dgB d :: l).length ≤ 20 := by
        rw [← HL.out] at hlen
        have := dec_len_pos n
        rw [List.length_append] at hlen
        have h1 : (dgB d :: l).length + (Lib.decDigits q).length = l.length + (Lib.decDigits n).length := by
          rw [dec_step (u := n) (show ¬ n < 10 by omega), hq]
          simp only [List.length_append, List.length_cons, List.length_nil]
          omega
        have := dec_len_pos q
        omega
      clear HL hr
      go_wp2_with fail
      refine ⟨⟨q, dgB d :: l, by rw [show ((n : Nat) : Int) / 10 = ((q : Nat) : Int) by omega], by omega, rfl, hll, HR2.out⟩, ?_⟩
      simp [natOf]
      omega
end Go.Proofs.YtkfbailpifmdcaaGreatDoor
end

section
namespace Go.Proofs.YtkfbailpifmdcaaGreatDoor
open Go.RowKit

theorem absN_small {x : Nat} (hx : x ≤ INFb) : absN x = x ∧ sgnB x = false := by
  unfold INFb at hx
  unfold absN sgnB
  exact ⟨by omega, decide_eq_false (by omega)⟩
theorem amount_any (x : Nat) (w : World) (hx : x < 18446744073709551616) :
    Calls Tryz.prog 101 #[.int .u64 ((x : Nat) : Int)] w fun e w' => e = .returned (.int .u64 ((absN x : Nat) : Int)) ∧ w = w' := by
  have h := andNot_sign hx
  go_enter Tryz.func101, Tryz.ntmps101
  go_wp2_with fail
  go_ret
  exact ⟨rfl, rfl⟩
theorem numberB_any (x : Nat) (w : World) (hx : x ≤ INFb) :
    Calls Tryz.prog 59 #[.int .u64 ((x : Nat) : Int)] w fun e w' => e = .returned (.bool true) ∧ w = w' := by
  have h0 := (absN_small hx).1
  unfold INFb at hx
  have ham := fun w => amount_any x w (by omega)
  rw [h0] at ham
  have hd : decide (((x : Nat) : Int) ≤ 9218868437227405312) = true := decide_eq_true (by omega)
  go_enter Tryz.func59, Tryz.ntmps59
  go_wp2_with fail
  refine (ham _).mono ?_
  rintro e w' ⟨rfl, hw⟩
  subst hw
  go_wp2_with fail
  go_ret
  exact ⟨rfl, rfl⟩
theorem place_any (x : Nat) (w : World) (hx : x ≤ INFb) :
    Calls Tryz.prog 60 #[.int .u64 ((x : Nat) : Int)] w fun e w' => e = .returned (.int .i64 ((x : Nat) : Int)) ∧ w = w' := by
  have h0 := (absN_small hx).2
  unfold INFb at hx
  have hand : bits BinOp.and IntKind.u64 ((x : Nat) : Int) 9223372036854775808 = ((x &&& 9223372036854775808 : Nat) : Int) := bits_and_u64_nat x 9223372036854775808 (by omega) (by decide)
  rw [and_sign (by omega), h0, if_neg (by decide)] at hand
  have hw : IntKind.i64.wrap ((x : Nat) : Int) = ((x : Nat) : Int) := wi64 (by omega) (by omega)
  go_enter Tryz.func60, Tryz.ntmps60
  go_wp2_with fail
  go_ret
  exact ⟨rfl, rfl⟩
theorem Less_any (x y : Nat) (w : World) (hx : x ≤ INFb) (hy : y ≤ INFb) :
    Calls Tryz.prog 25 #[.int .u64 ((x : Nat) : Int), .int .u64 ((y : Nat) : Int)] w fun e w' => e = .returned (.bool (decide (x < y))) ∧ w = w' := by
  have hd : decide (((x : Nat) : Int) < ((y : Nat) : Int)) = decide (x < y) := by rw [decide_eq_decide]; omega
  have HD := Lib.hid hd
  clear hd
  go_enter Tryz.func25, Tryz.ntmps25
  go_wp2_with fail
  refine (numberB_any x _ hx).mono ?_
  rintro e w' ⟨rfl, hw⟩
  subst hw
  go_wp2_with fail
  refine (numberB_any y _ hy).mono ?_
  rintro e w' ⟨rfl, hw⟩
  subst hw
  go_wp2_with fail
  refine (place_any x _ hx).mono ?_
  rintro e w' ⟨rfl, hw⟩
  subst hw
  go_wp2_with fail
  refine (place_any y _ hy).mono ?_
  rintro e w' ⟨rfl, hw⟩
  subst hw
  go_wp2_with fail
  go_ret
  exact ⟨rfl, rfl⟩
end Go.Proofs.YtkfbailpifmdcaaGreatDoor
end

section
namespace Go.Proofs.YtkfbailpifmdcaaGreatDoor

/-- What digits say, one by one. -/
def vals (l : List UInt8) : List Nat := l.map decV
theorem decR_digit {c : UInt8} (h : isD c) : decR (c.toNat : Int) = (c.toNat : Int) - 48 := by
  unfold isD at h
  unfold decR
  rw [if_pos (by omega)]
theorem decV_dg {d : Nat} (h : d < 10) : decV (dgB d) = d := by
  unfold decV
  rw [decR_digit (dgB_isD h), dgB_nat h]
  omega
theorem vals_len (l : List UInt8) : (vals l).length = l.length := by simp [vals]
theorem vals_app (l m : List UInt8) : vals (l ++ m) = vals l ++ vals m := by simp [vals]
theorem vals_lt (l : List UInt8) : ∀ d ∈ vals l, d < 10 := by
  intro d hd
  obtain ⟨c, _, rfl⟩ := List.mem_map.1 hd
  exact decV_lt c
theorem scan_digits (pt : Bool) (r : List UInt8) : ∀ (l : List UInt8), (∀ c ∈ l, isD c) → scanL false pt (l ++ r) = (vals l ++ (scanL false pt r).1, (scanL false pt r).2.1 + (if pt then l.length else 0), (scanL false pt r).2.2)
  | [], _ => by simp [vals]
  | c :: t, h => by
    have hc := h c (by simp)
    have hd := decR_digit hc
    have h1 := scan_digits pt r t fun c hc => h c (by simp [hc])
    unfold isD at hc
    rw [List.cons_append, scanL]
    simp only [digB, Bool.false_eq_true, if_false]
    rw [if_pos (by omega), h1]
    cases pt
    · simp [vals, decV]
    · simp [vals, decV, Nat.add_assoc]
theorem scan_point (r : List UInt8) : scanL false false (46 :: r) = scanL false true r := by
  rw [scanL]
  rw [if_neg (by decide), if_pos (by decide)]
theorem scan_stop (hex pt : Bool) (c : UInt8) (r : List UInt8) (h1 : digB hex c < 0) (h2 : c ≠ 46) : scanL hex pt (c :: r) = ([], 0, c :: r) := by
  rw [scanL, if_neg (by omega), if_neg (fun h => h2 h.1)]
theorem scan_nil (hex pt : Bool) : scanL hex pt [] = ([], 0, []) := by rw [scanL]

theorem natL_from (b : Nat) : ∀ (m : List Nat) (n : Nat), m.foldl (fun n d => n * b + d) n = n * b ^ m.length + natL b m
  | [], n => by simp [natL]
  | d :: t, n => by
    have h1 := natL_from b t (n * b + d)
    have h2 := natL_from b t (0 * b + d)
    unfold natL at *
    rw [List.foldl_cons, List.foldl_cons, h1, h2, List.length_cons, Nat.pow_succ, Nat.add_mul, Nat.zero_mul, Nat.zero_add, Nat.mul_assoc, Nat.mul_comm b, Nat.add_assoc]
theorem natL_app (b : Nat) (l m : List Nat) : natL b (l ++ m) = natL b l * b ^ m.length + natL b m := by
  have h := natL_from b m (natL b l)
  rw [← h]
  unfold natL
  rw [List.foldl_append]
theorem natL_cons (b d : Nat) (t : List Nat) : natL b (d :: t) = d * b ^ t.length + natL b t := by
  have h := natL_app b [d] t
  simpa [natL] using h
theorem natL_dec (u : Nat) : natL 10 (vals (Lib.decDigits u)) = u := by
  induction u using Nat.strongRecOn with
  | ind u ih =>
    by_cases h : u < 10
    · rw [dec_small h]
      simp [vals, natL, decV_dg h]
    · rw [dec_step h, vals_app, natL_app, ih (u / 10) (by omega)]
      have e : natL 10 (vals [dgB (u % 10)]) = u % 10 := by simp [vals, natL, decV_dg (show u % 10 < 10 by omega)]
      rw [e]
      simp [vals]
      omega
theorem natL_pad : ∀ (k r : Nat), r < 10 ^ k → natL 10 (vals (padL k r)) = r
  | 0, r, h => by
    have : r = 0 := by simpa using h
    subst this
    rfl
  | k + 1, r, h => by
    rw [Nat.pow_succ] at h
    rw [padL, vals_app, natL_app, natL_pad k (r / 10) (by omega)]
    have e : natL 10 (vals [dgB (r % 10)]) = r % 10 := by simp [vals, natL, decV_dg (show r % 10 < 10 by omega)]
    rw [e]
    simp [vals]
    omega
theorem vals_zeros (k : Nat) : vals (List.replicate k 48) = List.replicate k 0 := by
  rw [vals, List.map_replicate]
  rfl
theorem natL_zeros (b k : Nat) : natL b (List.replicate k 0) = 0 := by
  induction k with
  | zero => rfl
  | succ k ih => rw [List.replicate_succ, natL_cons, ih]; simp
theorem natL_zerosL (b : Nat) : ∀ l : List Nat, natL b (zerosL l) = natL b l
  | [] => rfl
  | d :: t => by
    rw [zerosL]
    split
    · rename_i h
      rw [natL_zerosL b t, natL_cons, h]
      simp
    · rfl
theorem zerosL_big : ∀ l : List Nat, natL 10 l ≠ 0 → 10 ^ ((zerosL l).length - 1) ≤ natL 10 l
  | [], h => absurd rfl h
  | d :: t, h => by
    rw [zerosL]
    split
    · rename_i h0
      rw [natL_cons, h0, Nat.zero_mul, Nat.zero_add] at h ⊢
      exact zerosL_big t h
    · rename_i h0
      rw [natL_cons, List.length_cons, Nat.add_sub_cancel]
      have : 1 * 10 ^ t.length ≤ d * 10 ^ t.length := Nat.mul_le_mul_right _ (by omega)
      omega
/-- A list of digits read is the value rounded. -/
theorem tens_list {neg : Bool} {l : List Nat} {k : Int} (hl : ∀ d ∈ l, d < 10) (h0 : natL 10 l ≠ 0) : ResOf neg (tA (natL 10 l) k) (tB k) (tensP neg (natL 10 (zerosL l)) (zerosL l).length k) := by
  have h1 := zerosL_big l h0
  have h2 := natL_lt (zerosL l) fun d hd => hl d (zerosL_mem l d hd)
  rw [natL_zerosL] at h2 ⊢
  exact tens_res h0 h1 h2
theorem tens_nought {neg : Bool} {l : List Nat} {k : Int} (h0 : natL 10 l = 0) : tensP neg (natL 10 (zerosL l)) (zerosL l).length k = (if neg then 9223372036854775808 else 0, 0) := by
  rw [natL_zerosL, h0]
  unfold tensP
  rw [if_pos rfl]
  cases neg <;> decide +kernel

/- Texts of numbers. -/
theorem not_hex {c x : UInt8} {r : List UInt8} (h : x ≠ 120) : Lib.hasPrefix (c :: x :: r) [48, 120] = false := by
  have : (120 == x) = false := by simpa using fun e => h e.symm
  simp [Lib.hasPrefix, List.isPrefixOf, this]
theorem not_hex1 (c : UInt8) : Lib.hasPrefix [c] [48, 120] = false := by simp [Lib.hasPrefix, List.isPrefixOf]
theorem trim_not {s p : List UInt8} (h : Lib.hasPrefix s p = false) : Lib.trimPrefix s p = s := by
  unfold Lib.trimPrefix
  rw [h]
  rfl
theorem isD_ne {c x : UInt8} (h : isD c) (hx : ¬ (48 ≤ x.toNat ∧ x.toNat ≤ 57)) : c ≠ x := fun e => hx (e ▸ h)

theorem expG_dec : ∀ (u : Nat), u ≤ 1048576 → expG 0 (Lib.decDigits u) = some u := by
  have app : ∀ (l : List UInt8) (n k : Nat) (c : UInt8), expG n l = some k → isD c → expG n (l ++ [c]) = some (min (k * 10 + decV c) 1048576) := by
    intro l
    induction l with
    | nil =>
      intro n k c h hc
      simp only [expG, Option.some.injEq] at h
      subst h
      have hd := decR_digit hc
      unfold isD at hc
      rw [List.nil_append, expG, if_pos (by omega), expG, decV]
    | cons a t ih =>
      intro n k c h hc
      rw [expG] at h
      split at h
      · rename_i h1
        rw [List.cons_append, expG, if_pos h1]
        exact ih _ _ _ h hc
      · cases h
  intro u
  induction u using Nat.strongRecOn with
  | ind u ih =>
    intro hu
    by_cases h : u < 10
    · have e := app [] 0 0 (dgB u) rfl (dgB_isD h)
      rw [dec_small h]
      rw [List.nil_append] at e
      rw [e, decV_dg h]
      congr 1
      omega
    · rw [dec_step h, app _ _ _ _ (ih (u / 10) (by omega) (by omega)) (dgB_isD (by omega)), decV_dg (by omega)]
      congr 1
      omega
theorem expP_itoa {e : Int} (h1 : -1048576 ≤ e) (h2 : e ≤ 1048576) : expP (Lib.itoa e) = (e, true) := by
  by_cases h : e < 0
  · obtain ⟨u, rfl⟩ : ∃ u : Nat, e = -(u : Int) := ⟨(-e).toNat, by omega⟩
    rw [Lib.itoa_neg u (by omega)]
    have hp : Lib.hasPrefix (45 :: Lib.decDigits u) [45] = true := by simp [Lib.hasPrefix, List.isPrefixOf]
    have ht : expT (45 :: Lib.decDigits u) = Lib.decDigits u := by
      unfold expT
      rw [hp]
      rfl
    have hne : (Lib.decDigits u).isEmpty = false := by
      cases hq : Lib.decDigits u with
      | nil =>
        have := dec_len_pos u
        rw [hq] at this
        exact absurd this (by decide)
      | cons => rfl
    unfold expP
    rw [ht, expG_dec u (by omega), hp, hne]
    rfl
  · obtain ⟨u, rfl⟩ : ∃ u : Nat, e = (u : Int) := ⟨e.toNat, by omega⟩
    rw [Lib.itoa_nonneg u]
    obtain ⟨c, t, hq⟩ : ∃ c t, Lib.decDigits u = c :: t := by
      cases hq : Lib.decDigits u with
      | nil =>
        have := dec_len_pos u
        rw [hq] at this
        exact absurd this (by decide)
      | cons c t => exact ⟨c, t, rfl⟩
    have hc : isD c := dec_isD u c (by rw [hq]; simp)
    have hp1 : Lib.hasPrefix (Lib.decDigits u) [45] = false := by
      rw [hq]
      have : (45 == c) = false := by simpa using fun e => isD_ne hc (x := 45) (by decide) e.symm
      simp [Lib.hasPrefix, List.isPrefixOf, this]
    have hp2 : Lib.hasPrefix (Lib.decDigits u) [43] = false := by
      rw [hq]
      have : (43 == c) = false := by simpa using fun e => isD_ne hc (x := 43) (by decide) e.symm
      simp [Lib.hasPrefix, List.isPrefixOf, this]
    have ht : expT (Lib.decDigits u) = Lib.decDigits u := by
      unfold expT
      rw [hp1, hp2]
      rfl
    have hne : (Lib.decDigits u).isEmpty = false := by rw [hq]; rfl
    unfold expP
    rw [ht, expG_dec u (by omega), hp1, hne]
    rfl

theorem number_sci (neg : Bool) {d : List UInt8} {e : Int} (hd : ∀ c ∈ d, isD c) (h0 : d ≠ []) (h1 : -1048576 ≤ e) (h2 : e ≤ 1048576) :
    numberP neg (pointL d ++ 101 :: Lib.itoa e) = some (tensP neg (natL 10 (zerosL (vals d))) (zerosL (vals d)).length (e - ((d.length - 1 : Nat) : Int))) := by
  have hs : ∀ pt, scanL false pt (101 :: Lib.itoa e) = ([], 0, 101 :: Lib.itoa e) := fun pt => scan_stop false pt 101 _ (by decide) (by decide)
  have hx : Lib.hasPrefix (pointL d ++ 101 :: Lib.itoa e) [48, 120] = false ∧ scanL false false (pointL d ++ 101 :: Lib.itoa e) = (vals d, d.length - 1, 101 :: Lib.itoa e) := by
    cases d with
    | nil => exact absurd rfl h0
    | cons c t =>
      cases t with
      | nil =>
        refine ⟨not_hex (by decide), ?_⟩
        have h := scan_digits false (101 :: Lib.itoa e) [c] hd
        rw [hs] at h
        simpa [pointL] using h
      | cons x t =>
        have e1 : pointL (c :: x :: t) ++ 101 :: Lib.itoa e = [c] ++ 46 :: (x :: t ++ 101 :: Lib.itoa e) := by simp [pointL]
        rw [e1]
        refine ⟨not_hex (by decide), ?_⟩
        rw [scan_digits false _ [c] (fun y hy => hd y (by simp at hy; simp [hy])), scan_point, scan_digits true _ (x :: t) (fun y hy => hd y (List.mem_cons_of_mem _ hy)), hs]
        simp [vals]
  unfold numberP
  simp only [hx.1, trim_not hx.1, hx.2]
  rw [if_neg (by intro h; apply h0; simpa [vals] using h)]
  have he : endP false (101 :: Lib.itoa e) = (e, true) := by
    rw [endP, if_pos (show (101 : UInt8) = endB false from rfl), expP_itoa h1 h2]
  rw [he, if_neg (by simp), if_neg (by decide)]

theorem number_whole (neg : Bool) {d : List UInt8} (hd : ∀ c ∈ d, isD c) (h0 : d ≠ []) :
    numberP neg d = some (tensP neg (natL 10 (zerosL (vals d))) (zerosL (vals d)).length 0) := by
  have hx : Lib.hasPrefix d [48, 120] = false ∧ scanL false false d = (vals d, 0, []) := by
    have h := scan_digits false [] d hd
    rw [scan_nil] at h
    refine ⟨?_, by simpa using h⟩
    cases d with
    | nil => exact absurd rfl h0
    | cons c t =>
      cases t with
      | nil => exact not_hex1 c
      | cons x t => exact not_hex (isD_ne (hd x (by simp)) (by decide))
  unfold numberP
  simp only [hx.1, trim_not hx.1, hx.2]
  rw [if_neg (by intro h; apply h0; simpa [vals] using h)]
  rw [endP, if_neg (by simp), if_neg (by decide)]
  rfl
theorem number_point (neg : Bool) {d f : List UInt8} (hd : ∀ c ∈ d, isD c) (hf : ∀ c ∈ f, isD c) (h0 : d ≠ []) :
    numberP neg (d ++ 46 :: f) = some (tensP neg (natL 10 (zerosL (vals (d ++ f)))) (zerosL (vals (d ++ f))).length (-((f.length : Nat) : Int))) := by
  have hx : Lib.hasPrefix (d ++ 46 :: f) [48, 120] = false ∧ scanL false false (d ++ 46 :: f) = (vals (d ++ f), f.length, []) := by
    have h := scan_digits true [] f hf
    rw [scan_nil, List.append_nil] at h
    have h2 := scan_digits false (46 :: f) d hd
    rw [scan_point, h] at h2
    refine ⟨?_, by simpa [vals] using h2⟩
    cases d with
    | nil => exact absurd rfl h0
    | cons c t =>
      cases t with
      | nil => exact not_hex (by decide)
      | cons x t => exact not_hex (isD_ne (hd x (by simp)) (by decide))
  unfold numberP
  simp only [hx.1, trim_not hx.1, hx.2]
  rw [if_neg (by intro h; apply h0; have := congrArg List.length h; rw [vals_len, List.length_append, List.length_nil] at this; exact List.length_eq_zero_iff.1 (by omega))]
  rw [endP, if_neg (by simp), if_neg (by decide)]
  simp

/- Signs and letters. -/
def isLow (c : UInt8) : Prop := ¬ (65 ≤ c.toNat ∧ c.toNat ≤ 90)
theorem small_id {l : List UInt8} (h : ∀ c ∈ l, isLow c) : smallL l = l := by
  unfold smallL
  induction l with
  | nil => rfl
  | cons c t ih =>
    rw [List.map_cons, ih fun c hc => h c (by simp [hc])]
    unfold lowB
    rw [if_neg (h c (by simp))]
theorem parse_signed {x : Nat} {c : UInt8} {s : List UInt8} (hl : (c :: s).length < 4096) (hlow : ∀ z ∈ c :: s, isLow z) (hc : isD c) :
    parseP (signL x (c :: s)) = ((numberP (sgnB x) (c :: s)).getD (0, 0), if (numberP (sgnB x) (c :: s)).isSome then 0 else 280) := by
  have h1 : (45 == c) = false := by simpa using fun e => isD_ne hc (x := 45) (by decide) e.symm
  have h2 : (43 == c) = false := by simpa using fun e => isD_ne hc (x := 43) (by decide) e.symm
  have hb : parseB (sgnB x) (c :: s) = ((numberP (sgnB x) (c :: s)).getD (0, 0), if (numberP (sgnB x) (c :: s)).isSome then 0 else 280) := by
    unfold parseB
    rw [if_neg (by unfold nanL; intro e; injection e with e1 _; exact isD_ne hc (x := 110) (by decide) e1),
      if_neg (by unfold infL infinityL; rintro (e | e) <;> (injection e with e1 _; exact isD_ne hc (x := 105) (by decide) e1))]
  rw [← hb]
  unfold parseP signL
  cases hs : sgnB x with
  | true =>
    simp only [if_true]
    rw [if_neg (by simp only [List.length_cons] at hl ⊢; omega), small_id (by
      intro z hz
      rcases List.mem_cons.1 hz with rfl | hz
      · unfold isLow; decide
      · exact hlow z hz)]
    simp [bodyL, Lib.hasPrefix, Lib.trimPrefix, List.isPrefixOf]
  | false =>
    simp only [Bool.false_eq_true, if_false]
    rw [if_neg (by omega), small_id hlow]
    simp [bodyL, Lib.hasPrefix, Lib.trimPrefix, List.isPrefixOf, h1, h2]
theorem isD_low {c : UInt8} (h : isD c) : isLow c := by unfold isD at h; unfold isLow; omega
end Go.Proofs.YtkfbailpifmdcaaGreatDoor
end

section
namespace Go.Proofs.YtkfbailpifmdcaaGreatDoor

theorem isDec_dec (u : Nat) : (Lib.decDigits u).all isDec = true := by
  rw [List.all_eq_true]
  intro c hc
  have h := dec_isD u c hc
  unfold isDec
  rw [decR_digit h]
  unfold isD at h
  exact decide_eq_true (by omega)
theorem near_dec {a : Nat} {exp : Int} (ha : a < 18446744073709551616) : nearTP false (Lib.decDigits a) exp = if exp < -8192 ∨ 8192 < exp then ((0, 0), 2) else (tensP false (natL 10 (zerosL (vals (Lib.decDigits a)))) (zerosL (vals (Lib.decDigits a))).length exp, 0) := by
  have hl : (Lib.decDigits a).length ≤ 20 := dec_len_le 20 a (by decide) (by omega)
  have hp := dec_len_pos a
  unfold nearTP
  rw [if_neg (by omega), isDec_dec, if_neg (by decide), if_neg (by intro e; rw [e] at hp; exact absurd hp (by decide))]
  rfl
/-- A whole number times a power of 10, read: the value rounded. -/
def readsAs (a : Nat) (k : Int) (r : Nat × Nat) : Prop := ResOf false (tA a k) (tB k) r
theorem list_reads {l : List Nat} {k : Int} (hl : ∀ d ∈ l, d < 10) : readsAs (natL 10 l) k (tensP false (natL 10 (zerosL l)) (zerosL l).length k) := by
  by_cases h0 : natL 10 l = 0
  · rw [tens_nought h0, h0]
    have h := res_zero false (tB_pos k)
    unfold readsAs
    have e : tA 0 k = 0 := by unfold tA; exact Nat.zero_mul _
    rw [e]
    exact h
  · exact tens_list hl h0
theorem reads_le {a b : Nat} {k : Int} {r s : Nat × Nat} (h : a ≤ b) (h1 : readsAs a k r) (h2 : readsAs b k s) : r.1 ≤ s.1 :=
  res_mono (tB_pos k) (tB_pos k) (Nat.mul_le_mul_right _ (Nat.mul_le_mul_right _ h)) h1 h2
theorem reads_inf {a : Nat} {k : Int} {r : Nat × Nat} (h : readsAs a k r) : r.1 ≤ INFb := by
  obtain ⟨b, b1, b2, _⟩ := h
  rw [b2]
  exact b1.1

theorem rises_law {a b : Nat} {exp : Int} (ha : a < 18446744073709551616) (hb : b < 18446744073709551616) :
    (nearTP false (Lib.decDigits a) exp).2 = (nearTP false (Lib.decDigits b) exp).2 ∧ (nearTP false (Lib.decDigits a) exp).1.1 ≤ INFb ∧ (nearTP false (Lib.decDigits b) exp).1.1 ≤ INFb ∧
    ((nearTP false (Lib.decDigits a) exp).2 = 0 → a ≤ b → (nearTP false (Lib.decDigits a) exp).1.1 ≤ (nearTP false (Lib.decDigits b) exp).1.1) ∧
    ((nearTP false (Lib.decDigits a) exp).2 = 0 → b ≤ a → (nearTP false (Lib.decDigits b) exp).1.1 ≤ (nearTP false (Lib.decDigits a) exp).1.1) := by
  rw [near_dec ha, near_dec hb]
  have h1 := list_reads (l := vals (Lib.decDigits a)) (k := exp) (vals_lt _)
  have h2 := list_reads (l := vals (Lib.decDigits b)) (k := exp) (vals_lt _)
  rw [natL_dec] at h1 h2
  split
  · exact ⟨rfl, Nat.zero_le _, Nat.zero_le _, fun h => absurd h (by decide), fun h => absurd h (by decide)⟩
  · exact ⟨rfl, reads_inf h1, reads_inf h2, fun _ h => reads_le h h1 h2, fun _ h => reads_le h h2 h1⟩
theorem noughts_law {a many : Nat} (ha : a < 18446744073709551616) (hm : many < 256) :
    (nearTP false (Lib.decDigits a) 0).2 = 0 ∧ (parseP (Lib.decDigits a ++ 46 :: List.replicate many 48)).2 = 0 ∧ (parseP (Lib.decDigits a ++ 46 :: List.replicate many 48)).1 = (nearTP false (Lib.decDigits a) 0).1 := by
  have hl : (Lib.decDigits a).length ≤ 20 := dec_len_le 20 a (by decide) (by omega)
  have hp := dec_len_pos a
  have hD := dec_isD a
  have hz : ∀ c ∈ List.replicate many (48 : UInt8), isD c := fun c hc => by
    rw [(List.mem_replicate.1 hc).2]
    unfold isD
    decide
  rw [near_dec ha, if_neg (by decide)]
  have h1 := list_reads (l := vals (Lib.decDigits a)) (k := 0) (vals_lt _)
  rw [natL_dec] at h1
  obtain ⟨c, t, e⟩ : ∃ c t, Lib.decDigits a = c :: t := by
    cases hq : Lib.decDigits a with
    | nil => rw [hq] at hp; exact absurd hp (by decide)
    | cons c t => exact ⟨c, t, rfl⟩
  have hne : Lib.decDigits a ≠ [] := by rw [e]; simp
  have hnum := number_point false (d := Lib.decDigits a) (f := List.replicate many 48) hD hz hne
  have hall : ∀ z ∈ Lib.decDigits a ++ 46 :: List.replicate many 48, isLow z := by
    intro z hz2
    rcases List.mem_append.1 hz2 with h | h
    · exact isD_low (hD z h)
    · rcases List.mem_cons.1 h with rfl | h
      · unfold isLow; decide
      · exact isD_low (hz z h)
  have hpar : parseP (Lib.decDigits a ++ 46 :: List.replicate many 48) = ((numberP false (Lib.decDigits a ++ 46 :: List.replicate many 48)).getD (0, 0), if (numberP false (Lib.decDigits a ++ 46 :: List.replicate many 48)).isSome then 0 else 280) := by
    have hlen : (Lib.decDigits a ++ 46 :: List.replicate many 48).length < 4096 := by
      rw [List.length_append, List.length_cons, List.length_replicate]
      omega
    rw [e, List.cons_append] at hall hlen ⊢
    exact parse_signed (x := 0) hlen hall (hD c (by rw [e]; simp))
  rw [hpar, hnum]
  refine ⟨rfl, rfl, ?_⟩
  have h2 := list_reads (l := vals (Lib.decDigits a ++ List.replicate many 48)) (k := -((List.replicate many (48 : UInt8)).length : Nat)) (vals_lt _)
  rw [vals_app, natL_app, natL_dec, vals_zeros, natL_zeros, List.length_replicate, Nat.add_zero] at h2
  show tensP _ _ _ _ = _
  rw [vals_app, vals_zeros]
  refine res_value (tB_pos _) (tB_pos 0) ?_ h2 h1
  unfold tA tB
  rw [List.length_replicate]
  simp
end Go.Proofs.YtkfbailpifmdcaaGreatDoor
end

section
namespace Go.Proofs.YtkfbailpifmdcaaGreatDoor

/- A number's value, in units of the least. -/
theorem vM_sg (x : Nat) : vM x = sgF (absN x) := by
  unfold vM sgF absN expN
  split <;> split <;> omega
theorem vE_gb (x : Nat) : vE x + 1074 = ((gbF (absN x) : Nat) : Int) := by
  unfold vE gbF absN expN
  split <;> omega
theorem value_eq {x : Nat} (h : vM x ≠ 0) : 2 ^ e74 * pA (nM x) (nE x) = vN (absN x) * pB (nE x) := by
  obtain ⟨_, h2⟩ := form_val (x := vE x) h
  have h3 : 2 ^ e74 * pA (vM x) (vE x) = vN (absN x) * pB (vE x) := by
    have hg := vE_gb x
    unfold vN pA pB
    rw [vM_sg]
    generalize gbF (absN x) = g at *
    generalize vE x = e at *
    have e1 : 1074 + e.toNat = g + (-e).toNat := by omega
    rw [Nat.mul_left_comm, ← Nat.pow_add, Nat.mul_assoc, ← Nat.pow_add]
    unfold e74
    rw [e1]
  have hP := pB_pos (vE x)
  refine Nat.eq_of_mul_eq_mul_right hP ?_
  show 2 ^ e74 * pA (fAbs (vM x)) (fExp (vM x) (vE x)) * pB (vE x) = vN (absN x) * pB (fExp (vM x) (vE x)) * pB (vE x)
  rw [Nat.mul_assoc, h2, ← Nat.mul_assoc, h3]
  ac_rfl

theorem e75_two (A : Nat) : 2 ^ e75 * A = 2 * (2 ^ e74 * A) := by
  rw [show e75 = e74 + 1 from rfl, Nat.pow_succ, Nat.mul_comm (2 ^ e74) 2, Nat.mul_assoc]
theorem vN_ulp (b : Nat) : vN (b + 1) ≤ 9007199254740992 * 2 ^ gbF b ∧ vN b ≤ 9007199254740992 * 2 ^ gbF b := by
  have h1 := sgF_lt b
  rw [vN_succ]
  unfold vN
  have h2 : (sgF b + 1) * 2 ^ gbF b ≤ 9007199254740992 * 2 ^ gbF b := Nat.mul_le_mul_right _ h1
  rw [Nat.add_mul, Nat.one_mul] at h2
  omega
theorem exact_rn {A B y : Nat} (hB0 : 0 < B) (hy : y < INFb) (h : 2 ^ e74 * A = vN y * B) : IsRN A B y := by
  refine ⟨Nat.le_of_lt hy, ?_, Or.inr ?_⟩
  · by_cases h0 : y = 0
    · exact Or.inl h0
    · right
      obtain ⟨z, rfl⟩ : ∃ z, y = z + 1 := ⟨y - 1, by omega⟩
      rw [Nat.add_sub_cancel]
      apply gt_of_lt
      rw [e75_two, h, hB_eq, ← Nat.mul_assoc]
      refine Nat.mul_lt_mul_of_pos_right ?_ hB0
      have := vN_lt_succ z
      omega
  · intro hg
    have h1 := gt_le hg
    rw [e75_two, h, hB_eq, ← Nat.mul_assoc] at h1
    have h2 := Nat.le_of_mul_le_mul_right h1 hB0
    have := vN_lt_succ y
    omega
/-- What lies within 2^-54 of a number, of that, is rounded to it. -/
theorem close_rn {A B y : Nat} (hy : y < INFb) (hy0 : y ≠ 0) (h1 : 18014398509481984 * (2 ^ e74 * A) < 18014398509481985 * (vN y * B)) (h2 : 18014398509481983 * (vN y * B) < 18014398509481984 * (2 ^ e74 * A)) : IsRN A B y := by
  refine ⟨Nat.le_of_lt hy, Or.inr ?_, Or.inr ?_⟩
  · obtain ⟨z, rfl⟩ : ∃ z, y = z + 1 := ⟨y - 1, by omega⟩
    rw [Nat.add_sub_cancel]
    apply gt_of_lt
    rw [e75_two]
    have h3 := (vN_ulp z).1
    have h4 : vN (z + 1) * B ≤ 9007199254740992 * (2 ^ gbF z * B) := by rw [← Nat.mul_assoc]; exact Nat.mul_le_mul_right _ h3
    have h5 : hB z * B + 2 ^ gbF z * B = 2 * (vN (z + 1) * B) := by
      rw [hB_eq, ← Nat.add_mul, ← Nat.mul_assoc]
      congr 1
      have := vN_succ z
      omega
    omega
  · intro hg
    have h6 := gt_le hg
    rw [e75_two] at h6
    have h3 := (vN_ulp y).2
    have h4 : vN y * B ≤ 9007199254740992 * (2 ^ gbF y * B) := by rw [← Nat.mul_assoc]; exact Nat.mul_le_mul_right _ h3
    have h5 : hB y * B = 2 * (vN y * B) + 2 ^ gbF y * B := by
      rw [hB_eq, vN_succ, ← Nat.mul_assoc, ← Nat.add_mul]
      congr 1
      omega
    omega

theorem rndQ_near (N D : Nat) (hD : 0 < D) : 2 * (rndQ N D * D) ≤ 2 * N + D ∧ 2 * N ≤ 2 * (rndQ N D * D) + D := by
  have e1 := Nat.div_add_mod N D
  have e2 := Nat.mod_lt N hD
  unfold rndQ upP cmpN
  rw [Nat.mul_comm D] at e1
  generalize N / D = Q at *
  generalize N % D = r at *
  by_cases h1 : r * 2 < D
  · rw [if_pos h1, if_neg (by simp)]
    omega
  · rw [if_neg h1]
    by_cases h2 : D < r * 2
    · rw [if_pos h2, if_pos (by simp), Nat.add_mul, Nat.one_mul]
      omega
    · rw [if_neg h2]
      split
      · rw [Nat.add_mul, Nat.one_mul]; omega
      · omega

/-- Seventeen digits tell a number. -/
theorem near17 {x : Nat} {t : Int} (hx : absN x < INFb) (hm : vM x ≠ 0) (ht : geT (nM x) (nE x) t) :
    IsRN (tA (rndQ (scN (nM x) (nE x) (16 - t)) (scD (nE x) (16 - t))) (t - 16)) (tB (t - 16)) (absN x) := by
  have hv := value_eq hm
  have hq := q_ge ht 16
  rw [show (((16 : Nat) : Int) - t) = 16 - t from rfl] at hq
  have hD := scD_pos (nE x) (16 - t)
  obtain ⟨r1, r2⟩ := rndQ_near (scN (nM x) (nE x) (16 - t)) (scD (nE x) (16 - t)) hD
  rw [Nat.le_div_iff_mul_le hD] at hq
  have hy0 : absN x ≠ 0 := by
    intro h0
    apply hm
    rw [vM_sg, h0]
    rfl
  have eN : scN (nM x) (nE x) (16 - t) = pA (nM x) (nE x) * tB (t - 16) := by
    unfold scN pA tB
    rw [show (-(t - 16)).toNat = (16 - t).toNat by congr 1; omega]
  have eD : scD (nE x) (16 - t) = pB (nE x) * 10 ^ (t - 16).toNat := by
    unfold scD pB
    rw [show (-(16 - t)).toNat = (t - 16).toNat by congr 1; omega]
  have hP := pB_pos (nE x)
  have hZ := Nat.two_pow_pos e74
  unfold tA
  generalize rndQ (scN (nM x) (nE x) (16 - t)) (scD (nE x) (16 - t)) = q at *
  rw [eN, eD] at r1 r2 hq
  rw [eD] at hD
  generalize tB (t - 16) = T at *
  generalize 10 ^ (t - 16).toNat = U at *
  generalize pA (nM x) (nE x) = Ap at *
  generalize pB (nE x) = P at *
  generalize hZZ : 2 ^ e74 = Z at *
  clear eN eD ht
  have k1 : Z * (q * U) * P = Z * (q * (P * U)) := by ac_rfl
  have k2 : vN (absN x) * T * P = Z * (Ap * T) := by
    calc vN (absN x) * T * P = vN (absN x) * P * T := by ac_rfl
      _ = Z * Ap * T := by rw [hv]
      _ = Z * (Ap * T) := by ac_rfl
  have hN : 10000000000000000 * (P * U) ≤ Ap * T := hq
  generalize hNN : Ap * T = N at *
  generalize hDD : P * U = D at *
  have s1 : 18014398509481984 * (q * D) < 18014398509481985 * N := by omega
  have s2 : 18014398509481983 * N < 18014398509481984 * (q * D) := by omega
  refine close_rn hx hy0 ?_ ?_ <;> rw [hZZ]
  · refine Nat.lt_of_mul_lt_mul_right (a := P) ?_
    rw [Nat.mul_assoc, k1, Nat.mul_assoc, k2]
    have := Nat.mul_lt_mul_of_pos_left s1 hZ
    calc 18014398509481984 * (Z * (q * D)) = Z * (18014398509481984 * (q * D)) := by ac_rfl
      _ < Z * (18014398509481985 * N) := this
      _ = 18014398509481985 * (Z * N) := by ac_rfl
  · refine Nat.lt_of_mul_lt_mul_right (a := P) ?_
    rw [Nat.mul_assoc, k2, Nat.mul_assoc, k1]
    have := Nat.mul_lt_mul_of_pos_left s2 hZ
    calc 18014398509481983 * (Z * N) = Z * (18014398509481983 * N) := by ac_rfl
      _ < Z * (18014398509481984 * (q * D)) := this
      _ = 18014398509481984 * (Z * (q * D)) := by ac_rfl

theorem dec_len_lo {n : Nat} (h : n ≠ 0) : 10 ^ ((Lib.decDigits n).length - 1) ≤ n := by
  apply Nat.le_of_not_lt
  intro h1
  have h2 := dec_len_pos n
  by_cases h3 : (Lib.decDigits n).length - 1 = 0
  · rw [h3] at h1
    omega
  · have := dec_len_le _ n (by omega) h1
    omega
theorem reads_iff {x n : Nat} {k : Int} (h : n ≠ 0) : readsP x n k = true ↔ IsRN (tA n k) (tB k) (absN x) := by
  obtain ⟨b, b1, b2, _⟩ := tens_res (neg := false) (k := k) h (dec_len_lo h) (dec_lt n)
  have b2' : (tensP false n (Lib.decDigits n).length k).1 = b := by simpa using b2
  unfold readsP
  rw [b2', beq_iff_eq]
  constructor
  · intro e
    rw [← e]
    exact b1
  · intro h2
    exact rn_unique (tB_pos k) (tB_pos k) rfl b1 h2

theorem least_of (p : Nat → Bool) : ∀ N : Nat, 1 ≤ N → p N = true → ∃ n, 1 ≤ n ∧ n ≤ N ∧ p n = true ∧ ∀ j, 1 ≤ j → j < n → p j = false := by
  intro N
  induction N using Nat.strongRecOn with
  | ind N ih =>
    intro h1 h2
    by_cases h : ∃ j, 1 ≤ j ∧ j < N ∧ p j = true
    · obtain ⟨j, a, b, c⟩ := h
      obtain ⟨n, n1, n2, n3, n4⟩ := ih j b a c
      exact ⟨n, n1, by omega, n3, n4⟩
    · exact ⟨N, h1, Nat.le_refl _, h2, fun j a b => by
        cases hc : p j with
        | false => rfl
        | true => exact absurd ⟨j, a, b, hc⟩ h⟩
theorem ok17 {x : Nat} {t : Int} (hx : absN x < INFb) (hm : vM x ≠ 0) (ht : geT (nM x) (nE x) t) : (shortAt (nM x) (nE x) t 17).ok x (t - (17 : Nat) + 1) = true := by
  have h := near17 hx hm ht
  have hq := q_ge ht 16
  rw [show (((16 : Nat) : Int) - t) = 16 - t from rfl] at hq
  have hD := scD_pos (nE x) (16 - t)
  have e : t - ((17 : Nat) : Int) + 1 = t - 16 := by omega
  have e2 : ((17 : Nat) : Int) - 1 - t = 16 - t := by omega
  rw [e]
  unfold ShortStep.ok ShortStep.down ShortStep.up shortAt
  simp only [e2]
  generalize scN (nM x) (nE x) (16 - t) = N at *
  generalize scD (nE x) (16 - t) = D at *
  have hlo : N / D ≠ 0 := by
    intro e3
    rw [e3] at hq
    exact absurd hq (by decide)
  by_cases hr : rndQ N D = N / D
  · rw [hr] at h
    rw [(reads_iff hlo).2 h]
    simp [hlo]
  · have hr2 := (rndQ_or N D).resolve_left hr
    have hmod : N % D ≠ 0 := fun e3 => hr (rndQ_zero e3 hD)
    rw [hr2] at h
    rw [(reads_iff (by omega)).2 h]
    simp [hmod]
theorem short_exists {x : Nat} {t : Int} (hx : absN x < INFb) (hm : vM x ≠ 0) (ht : IsTop (nM x) (nE x) t) : ∃ n, n ≤ 17 ∧ ShortIs x n t := by
  obtain ⟨n, h1, h2, h3, h4⟩ := least_of (fun n => (shortAt (nM x) (nE x) t n).ok x (t - n + 1)) 17 (by decide) (ok17 hx hm ht.1)
  exact ⟨n, h2, h1, by omega, ht, h3, h4⟩
end Go.Proofs.YtkfbailpifmdcaaGreatDoor
end

section
namespace Go.Proofs.YtkfbailpifmdcaaGreatDoor

/- Texts read. -/
theorem itoa_low (e : Int) : ∀ z ∈ Lib.itoa e, isLow z := by
  intro z hz
  unfold Lib.itoa at hz
  split at hz
  · rcases List.mem_cons.1 hz with rfl | h
    · unfold isLow; decide
    · exact isD_low (dec_isD _ z h)
  · exact isD_low (dec_isD _ z hz)
theorem point_low {d : List UInt8} (hd : ∀ c ∈ d, isD c) : ∀ z ∈ pointL d, isLow z := by
  intro z hz
  unfold pointL at hz
  split at hz
  · rcases List.mem_append.1 hz with h | h
    · exact isD_low (hd z (List.mem_of_mem_take h))
    · rcases List.mem_cons.1 h with rfl | h
      · unfold isLow; decide
      · exact isD_low (hd z (List.mem_of_mem_drop h))
  · exact isD_low (hd z hz)
theorem point_head {c : UInt8} {t : List UInt8} : ∃ r, pointL (c :: t) = c :: r ∧ r.length ≤ t.length + 1 := by
  unfold pointL
  split
  · exact ⟨46 :: t, by simp, by simp⟩
  · exact ⟨t, rfl, by omega⟩
theorem sci_read {x : Nat} {d : List UInt8} {e : Int} (hd : ∀ c ∈ d, isD c) (h0 : d ≠ []) (hl : d.length ≤ 2000) (h1 : -1048576 ≤ e) (h2 : e ≤ 1048576) :
    parseP (sciL x d e) = (tensP (sgnB x) (natL 10 (zerosL (vals d))) (zerosL (vals d)).length (e - ((d.length - 1 : Nat) : Int)), 0) := by
  have hnum := number_sci (sgnB x) hd h0 h1 h2
  have hil := itoa_len (e := e) (by omega) (by omega)
  obtain ⟨c, t, rfl⟩ : ∃ c t, d = c :: t := by
    cases d with
    | nil => exact absurd rfl h0
    | cons c t => exact ⟨c, t, rfl⟩
  obtain ⟨r, hr, hrl⟩ := point_head (c := c) (t := t)
  have hlow : ∀ z ∈ pointL (c :: t) ++ 101 :: Lib.itoa e, isLow z := by
    intro z hz
    rcases List.mem_append.1 hz with h | h
    · exact point_low hd z h
    · rcases List.mem_cons.1 h with rfl | h
      · unfold isLow; decide
      · exact itoa_low e z h
  unfold sciL
  rw [hr, List.cons_append] at hlow hnum ⊢
  simp only [List.length_cons] at hl
  rw [parse_signed (by simp only [List.length_cons, List.length_append]; omega) hlow (hd c (by simp)), hnum]
  rfl

theorem ten_shift {n z : Nat} {k k' : Int} (h : k' = k + (z : Int)) : tA (n * 10 ^ z) k * tB k' = tA n k' * tB k := by
  unfold tA tB
  have e : z + k.toNat + (-k').toNat = k'.toNat + (-k).toNat := by omega
  calc n * 10 ^ z * 10 ^ k.toNat * 10 ^ (-k').toNat = n * 10 ^ (z + k.toNat + (-k').toNat) := by rw [Nat.pow_add, Nat.pow_add]; ac_rfl
    _ = n * 10 ^ k'.toNat * 10 ^ (-k).toNat := by rw [e, Nat.pow_add]; ac_rfl
/-- The bits of a reading are those of the number that the value is rounded to. -/
theorem read_bits {x y : Nat} {A B : Nat} {r : Nat × Nat} (hB0 : 0 < B) (hx : x < 18446744073709551616) (hy : y = absN x) (h1 : ResOf (sgnB x) A B r) (h2 : IsRN A B y) : r.1 = x := by
  obtain ⟨b, b1, b2, _⟩ := h1
  have e := rn_unique hB0 hB0 rfl b1 h2
  rw [b2, e, hy]
  unfold absN sgnB
  by_cases h : 9223372036854775808 ≤ x
  · rw [if_pos (decide_eq_true h)]; omega
  · rw [if_neg (by simpa using h)]; omega

/-- Digits with an exponent, whose value is q * 10 ^ k. -/
theorem sci_bits {x q z : Nat} {d : List UInt8} {e k : Int} (hd : ∀ c ∈ d, isD c) (h0 : d ≠ []) (hl : d.length ≤ 2000) (h1 : -1048576 ≤ e) (h2 : e ≤ 1048576)
    (hq : q ≠ 0) (hv : q = natL 10 (vals d) * 10 ^ z) (hk : e - ((d.length - 1 : Nat) : Int) = k + (z : Int)) :
    (parseP (sciL x d e)).2 = 0 ∧ ∀ y, IsRN (tA q k) (tB k) y → (parseP (sciL x d e)).1.1 = (if sgnB x then y + 9223372036854775808 else y) := by
  rw [sci_read hd h0 hl h1 h2]
  refine ⟨rfl, fun y hy => ?_⟩
  have hn : natL 10 (vals d) ≠ 0 := by
    intro h
    rw [h, Nat.zero_mul] at hv
    exact hq hv
  have hr := tens_list (neg := sgnB x) (k := e - ((d.length - 1 : Nat) : Int)) (vals_lt d) hn
  rw [hk] at hr ⊢
  have e1 := ten_shift (n := natL 10 (vals d)) (z := z) (k := k) (k' := k + z) rfl
  rw [← hv] at e1
  obtain ⟨b, b1, b2, _⟩ := hr
  have e2 := rn_unique (tB_pos _) (tB_pos _) e1.symm b1 hy
  rw [b2, e2]

theorem digS_val {q n : Nat} {t : Int} (hn : 1 ≤ n) (h1 : 10 ^ (n - 1) ≤ q) (h2 : q ≤ 10 ^ n) :
    (∀ c ∈ (digS q n t).1, isD c) ∧ (digS q n t).1.length = n ∧ ∃ z : Nat, q = natL 10 (vals (digS q n t).1) * 10 ^ z ∧ (digS q n t).2 = t + (z : Int) ∧ z ≤ 1 := by
  have hD := dec_isD q
  have hp : 0 < 10 ^ (n - 1) := Nat.pow_pos (by decide)
  have hlo := dec_len_ge (n - 1) q h1
  unfold digS
  by_cases h : n < (Lib.decDigits q).length
  · rw [if_pos h]
    have h3 : (Lib.decDigits q).length ≤ n + 1 := dec_len_le (n + 1) q (by omega) (by rw [Nat.pow_succ]; omega)
    have hq10 : ¬ q < 10 := by
      intro h4
      rw [dec_small h4] at h
      simp at h
      omega
    have h5 : q = 10 ^ n := by
      rcases Nat.lt_or_ge q (10 ^ n) with h4 | h4
      · have := dec_len_le n q (by omega) h4
        omega
      · omega
    have e := dec_step hq10
    have hl : (Lib.decDigits (q / 10)).length = n := by
      have := congrArg List.length e
      rw [List.length_append, List.length_singleton] at this
      omega
    have et : (Lib.decDigits q).take n = Lib.decDigits (q / 10) := by
      rw [e, List.take_append_of_le_length (by omega), List.take_of_length_le (by omega)]
    refine ⟨fun c hc => hD c (List.mem_of_mem_take hc), by rw [et, hl], 1, ?_, rfl, Nat.le_refl _⟩
    rw [et, natL_dec]
    have h6 : 10 ^ n = 10 ^ (n - 1) * 10 := by rw [← Nat.pow_succ]; congr 1; omega
    rw [h5, h6]
    omega
  · rw [if_neg h]
    refine ⟨hD, ?_, 0, by rw [natL_dec]; simp, by simp, by decide⟩
    simp only
    omega

/-- What stands beside the first n digits of a number. -/
theorem rnd_bounds {m : Nat} {e t : Int} {n : Nat} (hn : 1 ≤ n) (ht : IsTop m e t) : 10 ^ (n - 1) ≤ scN m e (n - 1 - t) / scD e (n - 1 - t) ∧ scN m e (n - 1 - t) / scD e (n - 1 - t) < 10 ^ n := by
  have h1 := q_ge ht.1 (n - 1)
  rw [show (((n - 1 : Nat) : Int) - t) = n - 1 - t by omega] at h1
  exact ⟨h1, q_lt ht.2 n⟩
theorem digits_bits {x n : Nat} {t : Int} (hn : 1 ≤ n) (hn2 : n ≤ 1024) (hpl : (plainP x [48]).2 = false) (ht : IsTop (nM x) (nE x) t) (ht1 : -2000 ≤ t) (ht2 : t ≤ 2000) :
    (digitsP x n t).2 = 0 ∧ (parseP (digitsP x n t).1).2 = 0 ∧
    ∀ y, IsRN (tA (rndQ (scN (nM x) (nE x) (n - 1 - t)) (scD (nE x) (n - 1 - t))) (t - n + 1)) (tB (t - n + 1)) y → (parseP (digitsP x n t).1).1.1 = (if sgnB x then y + 9223372036854775808 else y) := by
  obtain ⟨b1, b2⟩ := rnd_bounds hn ht
  have hor := rndQ_or (scN (nM x) (nE x) (n - 1 - t)) (scD (nE x) (n - 1 - t))
  have hp : 0 < 10 ^ (n - 1) := Nat.pow_pos (by decide)
  have e : digitsP x n t = (sciL x (digS (rndQ (scN (nM x) (nE x) (n - 1 - t)) (scD (nE x) (n - 1 - t))) n t).1 (digS (rndQ (scN (nM x) (nE x) (n - 1 - t)) (scD (nE x) (n - 1 - t))) n t).2, 0) := by
    unfold digitsP
    rw [if_neg (by omega), hpl, if_neg (by decide), Int.toNat_natCast]
  rw [e]
  generalize rndQ (scN (nM x) (nE x) (n - 1 - t)) (scD (nE x) (n - 1 - t)) = q at *
  obtain ⟨d1, d2, z, d3, d4, d5⟩ := digS_val (q := q) (t := t) hn (by omega) (by omega)
  generalize digS q n t = g at *
  obtain ⟨g1, g2⟩ := g
  simp only at *
  obtain ⟨r1, r2⟩ := sci_bits (x := x) (q := q) (z := z) (e := g2) (k := t - n + 1) d1 (by intro h; rw [h] at d2; simp at d2; omega) (by omega) (by omega) (by omega) (by omega) d3 (by rw [d2]; omega)
  exact ⟨trivial, r1, r2⟩

theorem trimL_isD {l : List UInt8} (h : ∀ c ∈ l, isD c) : ∀ c ∈ trimL l, isD c := by
  obtain ⟨k, hk⟩ := trimL_form l
  intro c hc
  exact h c (by rw [hk]; exact List.mem_append_left _ hc)
theorem pick_of {x n : Nat} {t : Int} (hs : ShortIs x n t) : (shortAt (nM x) (nE x) t n).pick x (t - n + 1) ≠ 0 ∧ (shortAt (nM x) (nE x) t n).pick x (t - n + 1) ≤ 10 ^ n ∧ readsP x ((shortAt (nM x) (nE x) t n).pick x (t - n + 1)) (t - n + 1) = true := by
  obtain ⟨h1, h2, ht, h4, h5⟩ := hs
  obtain ⟨b1, b2⟩ := rnd_bounds h1 ht
  have hp : 0 < 10 ^ (n - 1) := Nat.pow_pos (by decide)
  have hlo : (shortAt (nM x) (nE x) t n).lo = scN (nM x) (nE x) (n - 1 - t) / scD (nE x) (n - 1 - t) := rfl
  rw [← hlo] at b1 b2
  generalize shortAt (nM x) (nE x) t n = s at *
  unfold ShortStep.pick
  have hu : ∀ k, s.up x k = true → readsP x (s.lo + 1) k = true := fun k h => by
    unfold ShortStep.up at h
    exact (Bool.and_eq_true_iff.1 h).2
  have hd : ∀ k, s.down x k = true → readsP x s.lo k = true := fun k h => by
    unfold ShortStep.down at h
    exact (Bool.and_eq_true_iff.1 h).2
  unfold ShortStep.ok at h4
  have hu := hu (t - n + 1)
  have hd := hd (t - n + 1)
  cases hdd : s.down x (t - n + 1) with
  | false =>
    rw [hdd, Bool.false_or] at h4
    rw [h4]
    exact ⟨Nat.succ_ne_zero _, b2, hu h4⟩
  | true =>
    rw [Bool.not_true, Bool.false_or]
    split
    · rename_i h
      have h6 := (Bool.and_eq_true_iff.1 h).1
      exact ⟨Nat.succ_ne_zero _, b2, hu h6⟩
    · exact ⟨by omega, by omega, hd hdd⟩
theorem short_bits {x n : Nat} {t : Int} (hx : x < 18446744073709551616) (hs : ShortIs x n t) (ht1 : -2000 ≤ t) (ht2 : t ≤ 2000) : (parseP (shortL x n t)).2 = 0 ∧ (parseP (shortL x n t)).1.1 = x := by
  obtain ⟨p1, p2, p3⟩ := pick_of hs
  obtain ⟨n1, n2, _⟩ := hs
  have hrn := (reads_iff p1).1 p3
  unfold shortL
  simp only
  generalize (shortAt (nM x) (nE x) t n).pick x (t - n + 1) = p at *
  have hD := dec_isD p
  obtain ⟨c, r, hcr, hc⟩ := dec_head p1
  obtain ⟨k, hk⟩ := trimL_form (Lib.decDigits p)
  have hne : trimL (Lib.decDigits p) ≠ [] := by rw [hcr]; exact trimL_ne hc
  have hlen : (Lib.decDigits p).length ≤ n + 1 := dec_len_le (n + 1) p (by omega) (by rw [Nat.pow_succ]; have : 0 < 10 ^ n := Nat.pow_pos (by decide); omega)
  have hv : p = natL 10 (vals (trimL (Lib.decDigits p))) * 10 ^ k := by
    have e := natL_dec p
    rw [hk, vals_app, natL_app, vals_zeros, natL_zeros, List.length_replicate, Nat.add_zero] at e
    exact e.symm
  have hkl : (Lib.decDigits p).length = (trimL (Lib.decDigits p)).length + k := by
    have := congrArg List.length hk
    rw [List.length_append, List.length_replicate] at this
    exact this
  have hpos := List.length_pos_iff.2 hne
  have hb := sci_bits (x := x) (q := p) (z := k) (k := t - n + 1) (e := t - n + 1 + ((Lib.decDigits p).length : Nat) - 1) (d := trimL (Lib.decDigits p)) (trimL_isD hD) hne (by omega) (by omega) (by omega) p1 hv (by omega)
  refine ⟨hb.1, ?_⟩
  have e := hb.2 _ hrn
  refine e.trans ?_
  unfold absN sgnB
  by_cases h : 9223372036854775808 ≤ x
  · rw [if_pos (decide_eq_true h)]; omega
  · rw [if_neg (by simpa using h)]; omega

/- How many digits are counted. -/
theorem signed_abs (x : Nat) (hx : x < 18446744073709551616) : (if sgnB x then absN x + 9223372036854775808 else absN x) = x := by
  unfold absN sgnB
  by_cases h : 9223372036854775808 ≤ x
  · rw [if_pos (decide_eq_true h)]; omega
  · rw [if_neg (by simpa using h)]; omega
theorem digits17_bits {x : Nat} {t : Int} (hx : x < 18446744073709551616) (hfin : absN x < INFb) (hm : vM x ≠ 0) (hpl : (plainP x [48]).2 = false) (ht : IsTop (nM x) (nE x) t) (ht1 : -2000 ≤ t) (ht2 : t ≤ 2000) :
    (digitsP x 17 t).2 = 0 ∧ (parseP (digitsP x 17 t).1).2 = 0 ∧ (parseP (digitsP x 17 t).1).1.1 = x := by
  obtain ⟨h1, h2, h3⟩ := digits_bits (n := 17) (by decide) (by decide) hpl ht ht1 ht2
  refine ⟨h1, h2, ?_⟩
  have h4 := near17 hfin hm ht.1
  have e1 : ((17 : Nat) : Int) - 1 - t = 16 - t := by omega
  have e2 : t - ((17 : Nat) : Int) + 1 = t - 16 := by omega
  rw [e1, e2] at h3
  exact (h3 _ h4).trans (signed_abs x hx)

/-- No text of fewer digits is read back. -/
theorem fewer_bits {x n j : Nat} {t : Int} (hx : x < 18446744073709551616) (hs : ShortIs x n t) (hj : 1 ≤ j) (hjn : j < n) (hpl : (plainP x [48]).2 = false) (ht1 : -2000 ≤ t) (ht2 : t ≤ 2000) :
    (digitsP x j t).2 = 0 ∧ (parseP (digitsP x j t).1).2 = 0 ∧ (parseP (digitsP x j t).1).1.1 ≠ x := by
  obtain ⟨n1, n2, ht, h4, h5⟩ := hs
  obtain ⟨d1, d2, d3⟩ := digits_bits (n := j) hj (by omega) hpl ht ht1 ht2
  refine ⟨d1, d2, fun he => ?_⟩
  have hno := h5 j hj hjn
  obtain ⟨b1, b2⟩ := rnd_bounds hj ht
  have hp : 0 < 10 ^ (j - 1) := Nat.pow_pos (by decide)
  have hD := scD_pos (nE x) (j - 1 - t)
  have hor := rndQ_or (scN (nM x) (nE x) (j - 1 - t)) (scD (nE x) (j - 1 - t))
  have hz := @rndQ_zero (scN (nM x) (nE x) (j - 1 - t)) (scD (nE x) (j - 1 - t))
  unfold ShortStep.ok ShortStep.down ShortStep.up shortAt at hno
  simp only at hno
  generalize scN (nM x) (nE x) (j - 1 - t) = N at *
  generalize scD (nE x) (j - 1 - t) = D at *
  have hq0 : rndQ N D ≠ 0 := by omega
  obtain ⟨b, c1, c2, _⟩ := tens_res (neg := false) (k := t - j + 1) hq0 (dec_len_lo hq0) (dec_lt _)
  have e1 := d3 b c1
  rw [he] at e1
  have hb : b = absN x := by
    have hinf := c1.1
    unfold INFb at hinf
    unfold absN
    unfold sgnB at e1
    by_cases h : 9223372036854775808 ≤ x
    · rw [if_pos (decide_eq_true h)] at e1; omega
    · rw [if_neg (by simpa using h)] at e1; omega
  rw [hb] at c1
  have hread := (reads_iff (x := x) hq0).2 c1
  rcases hor with h | h
  · rw [h] at hread
    rw [hread] at hno
    have : N / D ≠ 0 := by omega
    simp [this] at hno
  · have hmod : N % D ≠ 0 := fun e3 => by have := hz e3 hD; omega
    rw [h] at hread
    rw [hread] at hno
    simp [hmod] at hno
end Go.Proofs.YtkfbailpifmdcaaGreatDoor
end
