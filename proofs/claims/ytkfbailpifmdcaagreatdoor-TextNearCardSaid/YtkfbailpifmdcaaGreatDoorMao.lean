/- LawA LawB LawC LawD PlnA -/
import Derived.Test.YtkfbailpifmdcaaGreatDoorMan
import Derived.Laws.BytesArg
section
namespace Go.Proofs.YtkfbailpifmdcaaGreatDoor
open Go.RowKit

set_option maxRecDepth 100000 in
set_option maxHeartbeats 2000000 in
theorem Split_any (x : Nat) (w : World) (hx : x < 18446744073709551616) :
    Calls Tryz.prog 33 #[.int .u64 ((x : Nat) : Int)] w fun e w' => e = .returned (.agg #[.bool (sgnB x), .int .i64 ((expN x : Nat) : Int), .int .u64 ((x % 4503599627370496 : Nat) : Int)]) ∧ Below w.heap.size w w' := by
  have h11 := and_low (x := x / 4503599627370496) (k := 11) (by decide) (by omega)
  have h52 := and_low (x := x) (k := 52) (by decide) hx
  rw [show (2 : Nat) ^ 11 = 2048 from rfl, show x / 4503599627370496 % 2048 = expN x from rfl] at h11
  rw [show (2 : Nat) ^ 52 = 4503599627370496 from rfl] at h52
  have hshr : ((x : Nat) : Int) / 4503599627370496 = ((x / 4503599627370496 : Nat) : Int) := by omega
  have hel : expN x < 2048 := Nat.mod_lt _ (by decide)
  have hsg : (bits BinOp.and IntKind.u64 ((x : Nat) : Int) 9223372036854775808 != 0) = sgnB x := by
    have hand : bits BinOp.and IntKind.u64 ((x : Nat) : Int) 9223372036854775808 = ((x &&& 9223372036854775808 : Nat) : Int) := bits_and_u64_nat x 9223372036854775808 hx (by decide)
    rw [hand, and_sign hx]
    cases sgnB x <;> rfl
  generalize sgnB x = sg at *
  generalize x % 4503599627370496 = f at *
  generalize expN x = e at *
  generalize x / 4503599627370496 = d at *
  have h11' : bits BinOp.and IntKind.u64 ((d : Nat) : Int) 2047 = ((e : Nat) : Int) := h11
  have h52' : bits BinOp.and IntKind.u64 ((x : Nat) : Int) 4503599627370495 = ((f : Nat) : Int) := h52
  have hwe : IntKind.i64.wrap ((e : Nat) : Int) = ((e : Nat) : Int) := wi64 (by omega) (by omega)
  clear h11 h52
  go_enter Tryz.func33, Tryz.ntmps33
  have hb1 := (Below.refl w.heap.size w).alloc (Nat.le_refl _) (.cells #[.bool false, .int .i64 0, .int .u64 0] 58)
  have hk1 := Blk.new w #[.bool false, .int .i64 0, .int .u64 0] 58
  go_wp2_with fail
  have hk2 := Blk.new w #[.bool sg, .int .i64 ((e : Nat) : Int), .int .u64 ((f : Nat) : Int)] 58
  have o0 := hk2.cell 0 _ rfl
  have o1 := hk2.cell 1 _ rfl
  have o2 := hk2.cell 2 _ rfl
  exact bodyPost_ret (v := .agg #[.bool sg, .int .i64 ((e : Nat) : Int), .int .u64 ((f : Nat) : Int)]) (by simp [results, Tryz.results33, go_sem, o0, o1, o2]; try rfl) rfl ⟨rfl, (Below.refl w.heap.size w).alloc (Nat.le_refl _) _⟩

/-- What a number is: 3 and 2 are the finite ones that are not 0. -/
def classN (x : Nat) : Int :=
  if expN x = 2047 then (if x % 4503599627370496 = 0 then 4 else if (bits BinOp.and IntKind.u64 ((x % 4503599627370496 : Nat) : Int) 2251799813685248 != 0) = true then 5 else 6)
  else if 0 < expN x then 3 else if 0 < x % 4503599627370496 then 2 else 1

set_option maxRecDepth 100000 in
set_option maxHeartbeats 2000000 in
theorem Class_any (x : Nat) (w : World) (hx : x < 18446744073709551616) :
    Calls Tryz.prog 12 #[.int .u64 ((x : Nat) : Int)] w fun e w' => e = .returned (.int .u8 (classN x)) ∧ Below w.heap.size w w' := by
  have hsp := Split_any x w hx
  have hel : expN x < 2048 := Nat.mod_lt _ (by decide)
  have hfl : x % 4503599627370496 < 4503599627370496 := Nat.mod_lt _ (by decide)
  obtain ⟨r, hr⟩ : ∃ r, classN x = r := ⟨_, rfl⟩
  rw [hr]
  unfold classN at hr
  generalize sgnB x = sg at *
  generalize x % 4503599627370496 = f at *
  generalize expN x = e at *
  obtain ⟨q, hq⟩ : ∃ q, (bits BinOp.and IntKind.u64 ((f : Nat) : Int) 2251799813685248 != 0) = q := ⟨_, rfl⟩
  rw [hq] at hr
  have HR := Lib.hid hr
  clear hr
  go_enter Tryz.func12, Tryz.ntmps12
  go_wp2_with fail
  refine hsp.mono ?_
  rintro en w1 ⟨rfl, hb1⟩
  clear hsp
  have hk1 := Blk.new w1 #[.bool sg, .int .i64 ((e : Nat) : Int), .int .u64 ((f : Nat) : Int)] 58
  have hb2 := hb1.alloc hb1.size (.cells #[.bool sg, .int .i64 ((e : Nat) : Int), .int .u64 ((f : Nat) : Int)] 58)
  by_cases h1 : e = 2047
  · have e1 : (((e : Nat) : Int) == 2047) = true := beq_iff_eq.2 (by omega)
    have hr := HR.out
    rw [if_pos h1] at hr
    by_cases h2 : f = 0
    · rw [if_pos h2] at hr
      have e2 : (((f : Nat) : Int) == 0) = true := beq_iff_eq.2 (by omega)
      clear h1 h2 HR
      go_wp2_with fail
      go_ret
      exact ⟨ret_int hr, hb2⟩
    · rw [if_neg h2] at hr
      have e2 : (((f : Nat) : Int) == 0) = false := beq_eq_false_iff_ne.2 (by omega)
      cases q with
      | true =>
        rw [if_pos rfl] at hr
        clear h1 h2 HR
        go_wp2_with fail
        go_ret
        exact ⟨ret_int hr, hb2⟩
      | false =>
        rw [if_neg (by decide)] at hr
        clear h1 h2 HR
        go_wp2_with fail
        go_ret
        exact ⟨ret_int hr, hb2⟩
  · have e1 : (((e : Nat) : Int) == 2047) = false := beq_eq_false_iff_ne.2 (by omega)
    have hr := HR.out
    rw [if_neg h1] at hr
    clear HR
    by_cases h2 : 0 < e
    · rw [if_pos h2] at hr
      have e2 : decide ((0 : Int) < ((e : Nat) : Int)) = true := decide_eq_true (by omega)
      clear h1
      go_wp2_with fail
      go_ret
      exact ⟨ret_int hr, hb2⟩
    · rw [if_neg h2] at hr
      by_cases h3 : 0 < f
      · rw [if_pos h3] at hr
        clear h1
        go_wp2_with fail
        go_ret
        exact ⟨ret_int hr, hb2⟩
      · rw [if_neg h3] at hr
        clear h1
        go_wp2_with fail
        go_ret
        exact ⟨ret_int hr, hb2⟩

/-- Without the noughts at the end. -/
def trimL (l : List UInt8) : List UInt8 := Lib.trimRightB l 48
theorem trimL_step {l : List UInt8} {a : UInt8} : trimL (l ++ [a]) = if a = 48 then trimL l else l ++ [a] := by
  unfold trimL Lib.trimRightB
  rw [List.reverse_append, List.reverse_singleton, List.singleton_append, List.dropWhile_cons]
  by_cases h : a = 48
  · subst h; simp
  · rw [if_neg (by simpa using h), if_neg h]; simp
theorem trimL_nil : trimL [] = [] := rfl

set_option maxRecDepth 100000 in
set_option maxHeartbeats 2000000 in
theorem trimmed_any (s : ByteArray) (w : World) (hs : s.size ≤ 1000000) :
    Calls Tryz.prog 20 #[.string s] w fun e w' => e = .returned (.string ⟨(trimL s.data.toList).toArray⟩) ∧ w = w' := by
  obtain ⟨R, hR⟩ : ∃ R, trimL s.data.toList = R := ⟨_, rfl⟩
  rw [hR]
  have HR := Lib.hid hR
  clear hR
  go_enter Tryz.func20, Tryz.ntmps20
  go_wp2_with fail
  go_loop [0] (fun u0 => ∃ l : List UInt8, u0 = .string ⟨l.toArray⟩ ∧ l.length ≤ 1000000 ∧ Hid (trimL l = R)) (fun u0 => strLen u0)
  case atStart => exact ⟨s.data.toList, rfl, by simpa using hs, HR.out⟩
  case round =>
    obtain ⟨l, rfl, hl, HL⟩ := hrel
    have hsz : (⟨l.toArray⟩ : ByteArray).size = l.length := by simp [ByteArray.size]
    rcases List.eq_nil_or_concat l with rfl | ⟨t, a, hta⟩
    · have hr := HL.out
      rw [trimL_nil] at hr
      subst hr
      go_wp2_with fail
      go_ret
      exact ⟨rfl, rfl⟩
    · rw [List.concat_eq_append] at hta
      subst hta
      have hr := HL.out
      rw [trimL_step] at hr
      rw [List.length_append, List.length_singleton] at hsz hl
      have h0 : (0 : Int) < (((⟨(t ++ [a]).toArray⟩ : ByteArray).size : Nat) : Int) := by omega
      have hget : ∀ h, (⟨(t ++ [a]).toArray⟩ : ByteArray)[t.length]'h = a := fun h => by
        show (t ++ [a]).toArray[t.length] = a
        simp
      have hext := extract_head ⟨(t ++ [a]).toArray⟩ t.length
      have hsub : (((t.length + 1 : Nat) : Int)) - 1 = ((t.length : Nat) : Int) := by omega
      by_cases ha : a = 48
      · rw [if_pos ha] at hr
        have HR2 := Lib.hid hr
        have hat : ((a.toNat : Nat) : Int) = 48 := by rw [ha]; rfl
        have hext2 : (⟨(t ++ [a]).toArray⟩ : ByteArray).extract 0 t.length = ⟨t.toArray⟩ := by rw [hext]; simp
        have HX := Lib.hid hext2
        clear hr HL ha hext hext2
        go_wp2_with fail
        rw [HX.out]
        exact ⟨⟨t, rfl, by omega, HR2.out⟩, by simp [strLen, ByteArray.size]⟩
      · rw [if_neg ha] at hr
        have HR2 := Lib.hid hr
        have hat : (((a.toNat : Nat) : Int) == 48) = false := beq_eq_false_iff_ne.2 (fun h => ha (UInt8.toNat_inj.1 (by show a.toNat = 48; omega)))
        clear hr HL ha
        go_wp2_with fail
        go_ret
        exact ⟨by rw [← HR2.out]; rfl, rfl⟩
end Go.Proofs.YtkfbailpifmdcaaGreatDoor
end

section
namespace Go.Proofs.YtkfbailpifmdcaaGreatDoor
open Go.RowKit

/-- The digits of a text up to an e, without noughts ahead. -/
def sigL : List UInt8 → List UInt8 → List UInt8
  | acc, [] => acc
  | acc, c :: t => if c = 101 then acc else if (48 ≤ c.toNat ∧ c.toNat ≤ 57) ∧ (acc ≠ [] ∨ c ≠ 48) then sigL (acc ++ [c]) t else sigL acc t
def significantL (s : List UInt8) : List UInt8 := trimL (sigL [] s)

theorem own_string {B n : Nat} {v : Value} {l : List UInt8} {w : World} (h : w.ownsRow B 5 1 v n (Lib.byteCells l)) (hn : n = l.length) :
    (convert 81 9 v).run Tryz.prog w = .ok (.string ⟨l.toArray⟩) w := by
  subst hn
  rcases h.2 with ⟨rfl, h0⟩ | ⟨g, cap, cur, rfl, _⟩
  · obtain rfl : l = [] := List.length_eq_zero_iff.1 h0
    exact run_convert_bytes_nil w 81 5 Tryz.underlying81 Tryz.underlying5 0 0 9 Tryz.underlying9
  · refine run_convert_bytes_back (P := Tryz.prog) w 81 9 5 ⟨g, 0, none⟩ cap l Tryz.underlying81 Tryz.underlying5 Tryz.underlying9 (fun j hj => ?_)
    exact h.cells (g := g) rfl j _ (by simp [Lib.byteCells, hj])
theorem sigL_len : ∀ (s acc : List UInt8), (sigL acc s).length ≤ acc.length + s.length
  | [], acc => by simp [sigL]
  | c :: t, acc => by
    rw [sigL]
    split
    · simp only [List.length_cons]; omega
    · split
      · have := sigL_len t (acc ++ [c]); simp only [List.length_append, List.length_cons, List.length_nil] at *; omega
      · have := sigL_len t acc; simp only [List.length_cons]; omega

set_option maxRecDepth 100000 in
set_option maxHeartbeats 4000000 in
theorem significant_any (s : ByteArray) (w : World) (hs : s.size ≤ 100000) :
    Calls Tryz.prog 19 #[.string s] w fun e w' => e = .returned (.string ⟨(significantL s.data.toList).toArray⟩) ∧ Below w.heap.size w w' := by
  obtain ⟨i0, hi, hz0, hz1, hz2⟩ := info_parts Tryz.infoByte
  obtain ⟨R, hR⟩ : ∃ R, sigL [] s.data.toList = R := ⟨_, rfl⟩
  have hRl : R.length ≤ s.size := by
    have := sigL_len s.data.toList []
    rw [hR] at this
    simpa using this
  unfold significantL
  rw [hR]
  have HR := Lib.hid hR
  clear hR
  go_enter Tryz.func19, Tryz.ntmps19
  go_wp2_with fail
  go_loopw [3, 4] (fun u3 u4 wr => ∃ (i : Nat) (acc : List UInt8), i ≤ s.size ∧ acc.length ≤ i ∧ u4 = .int .i64 ((i : Nat) : Int) ∧ wr.ownsRow w.heap.size 5 1 u3 acc.length (Lib.byteCells acc) ∧ Below w.heap.size w wr ∧ Hid (sigL acc (s.data.toList.drop i) = R)) (fun _ u4 _ => s.size - (intOf u4).toNat)
  case atStart => exact ⟨0, [], Nat.zero_le _, Nat.le_refl _, rfl, World.ownsRow_nil _ _ _ _, Below.refl _ _, HR.out⟩
  case round =>
    obtain ⟨i, acc, hi', hal, rfl, hown, hbw, HS⟩ := hrel
    obtain ⟨x3, c3, rfl⟩ := ownsRow_slice hown
    by_cases hp : i < s.size
    · have hst := HS.out
      rw [drop_at s i hp, sigL] at hst
      have hpi : ((i : Nat) : Int) < ((s.size : Nat) : Int) := by omega
      obtain ⟨c, hc⟩ : ∃ c, s[i]'hp = c := ⟨_, rfl⟩
      have hget : ∀ h, s[i]'h = c := fun _ => hc
      rw [hc] at hst
      clear hc
      by_cases h101 : c = 101
      · rw [if_pos h101] at hst
        have e101 : ((c.toNat : Nat) : Int) = 101 := by rw [h101]; rfl
        have haR : acc = R := hst
        have hcv := own_string hown rfl
        have htr := trimmed_any ⟨acc.toArray⟩ wr (by simp [ByteArray.size]; omega)
        have HTR := Lib.hid htr
        have HAR := Lib.hid haR
        clear hst htr haR h101 HS
        go_wp2_with fail
        refine HTR.out.mono ?_
        rintro en w5 ⟨rfl, hw⟩
        subst hw
        go_wp2_with fail
        go_ret
        exact ⟨by rw [← HAR.out]; rfl, hbw⟩
      · rw [if_neg h101] at hst
        have e101 : (((c.toNat : Nat) : Int) == 101) = false := beq_eq_false_iff_ne.2 (fun h => h101 (UInt8.toNat_inj.1 (by show c.toNat = 101; omega)))
        by_cases htake : (48 ≤ c.toNat ∧ c.toNat ≤ 57) ∧ (acc ≠ [] ∨ c ≠ 48)
        · rw [if_pos htake] at hst
          have HS2 := Lib.hid hst
          obtain ⟨⟨h48, h57⟩, hor⟩ := htake
          have h48i : (48 : Int) ≤ ((c.toNat : Nat) : Int) := by omega
          have h57i : ((c.toNat : Nat) : Int) ≤ 57 := by omega
          by_cases hl0 : 0 < acc.length
          · clear hor h101 hst HS
            go_wp2_with (at_builtin; refine wpList_append1 rfl _ _ 81 rfl w.heap.size 5 i0 (.int .u8 0) 1 Tryz.underlying81 hi hz0 hz1 hz2 rfl _ _ _ rfl hown _ _ rfl rfl (by unfold maxLen; omega) (by omega) hbw.size ?_; intro v' w3 hown3 hg3)
            have hg4 : wr.grownBy w3 (Value.slice x3 acc.length c3).ownBlock := hg3
            have hbw3 := Below.grownB hbw hg4 hbw.size hown
            go_roundw
            case rel =>
              refine ⟨i + 1, acc ++ [c], by omega, by simp; omega, by go_num, ?_, hbw3, HS2.out⟩
              have e5 : Lib.byteCells (acc ++ [c]) = Lib.byteCells acc ++ [.int .u8 ((c.toNat : Nat) : Int)] := by simp [Lib.byteCells]
              rw [List.length_append, List.length_singleton, e5]
              exact hown3
            case measure => simp [intOf]; omega
          · have hc48 : c ≠ 48 := hor.resolve_left (fun h => h (List.length_eq_zero_iff.1 (by omega)))
            have e48 : (((c.toNat : Nat) : Int) == 48) = false := beq_eq_false_iff_ne.2 (fun h => hc48 (UInt8.toNat_inj.1 (by show c.toNat = 48; omega)))
            obtain rfl : acc = [] := List.length_eq_zero_iff.1 (by omega)
            clear hor h101 hst HS hl0 hc48
            go_wp2_with (at_builtin; refine wpList_append1 rfl _ _ 81 rfl w.heap.size 5 i0 (.int .u8 0) 1 Tryz.underlying81 hi hz0 hz1 hz2 rfl _ _ _ rfl hown _ _ rfl rfl (by unfold maxLen; omega) (by omega) hbw.size ?_; intro v' w3 hown3 hg3)
            have hg4 : wr.grownBy w3 (Value.slice x3 ([] : List UInt8).length c3).ownBlock := hg3
            have hbw3 := Below.grownB hbw hg4 hbw.size hown
            go_roundw
            case rel =>
              refine ⟨i + 1, [] ++ [c], by omega, by simp, by go_num, ?_, hbw3, HS2.out⟩
              have e5 : Lib.byteCells ([] ++ [c]) = Lib.byteCells [] ++ [.int .u8 ((c.toNat : Nat) : Int)] := by simp [Lib.byteCells]
              rw [List.length_append, List.length_singleton, e5]
              exact hown3
            case measure => simp [intOf]; omega
        · rw [if_neg htake] at hst
          have HS2 := Lib.hid hst
          by_cases h48 : c.toNat < 48
          · have h48i : ((c.toNat : Nat) : Int) < 48 := by omega
            clear h101 hst HS htake
            go_wp2_with fail
            go_roundw
            case rel => exact ⟨i + 1, acc, by omega, by omega, by go_num, hown, hbw, HS2.out⟩
            case measure => simp [intOf]; omega
          by_cases h57 : 57 < c.toNat
          · have h57i : (57 : Int) < ((c.toNat : Nat) : Int) := by omega
            clear h101 hst HS htake
            go_wp2_with fail
            go_roundw
            case rel => exact ⟨i + 1, acc, by omega, by omega, by go_num, hown, hbw, HS2.out⟩
            case measure => simp [intOf]; omega
          · have hacc : acc = [] := Classical.not_not.1 (fun h => htake ⟨⟨by omega, by omega⟩, Or.inl h⟩)
            have hc48 : c = 48 := Classical.not_not.1 (fun h => htake ⟨⟨by omega, by omega⟩, Or.inr h⟩)
            have h48i : ((c.toNat : Nat) : Int) = 48 := by rw [hc48]; rfl
            subst hacc
            clear h101 hst HS htake hc48 h48 h57
            go_wp2_with fail
            go_roundw
            case rel => exact ⟨i + 1, [], by omega, by simp, by go_num, hown, hbw, HS2.out⟩
            case measure => simp [intOf]; omega
    · have hst := HS.out
      have hdn : s.data.toList.drop i = [] := List.drop_eq_nil_of_le (by simp; omega)
      rw [hdn, sigL] at hst
      have haR : acc = R := hst
      have hcv := own_string hown rfl
      have htr := trimmed_any ⟨acc.toArray⟩ wr (by simp [ByteArray.size]; omega)
      have HTR := Lib.hid htr
      have HAR := Lib.hid haR
      clear hst htr haR HS hdn
      go_wp2_with fail
      refine HTR.out.mono ?_
      rintro en w5 ⟨rfl, hw⟩
      subst hw
      go_wp2_with fail
      go_ret
      exact ⟨by rw [← HAR.out]; rfl, hbw⟩
end Go.Proofs.YtkfbailpifmdcaaGreatDoor
end

section
namespace Go.Proofs.YtkfbailpifmdcaaGreatDoor
open Go.RowKit

def nextR : List UInt8 → List UInt8
  | [] => [49]
  | c :: t => if c.toNat < 57 then (c + 1) :: t else 48 :: nextR t
/-- Digits, and one in the last place. -/
def nextL (s : List UInt8) : List UInt8 := (nextR s.reverse).reverse
theorem nextL_nil : nextL [] = [49] := rfl
theorem nextL_snoc (t : List UInt8) (c : UInt8) : nextL (t ++ [c]) = if c.toNat < 57 then t ++ [c + 1] else nextL t ++ [48] := by
  unfold nextL
  rw [List.reverse_append, List.reverse_singleton, List.singleton_append, nextR]
  split
  · simp
  · simp

theorem bytes_back {w : World} {g n cap : Nat} {f : Nat → UInt8} {l : List UInt8} (h : BytesAt w g n f) (hl : l.length = n) (hf : ∀ j (hj : j < l.length), l[j] = f j) :
    (convert 81 9 (.slice (some ⟨g, 0, none⟩) n cap)).run Tryz.prog w = .ok (.string ⟨l.toArray⟩) w := by
  have hb := run_convert_bytes_back (P := Tryz.prog) w 81 9 5 ⟨g, 0, none⟩ cap l Tryz.underlying81 Tryz.underlying5 Tryz.underlying9 (fun j hj => by
    have e1 : (⟨g, 0, none⟩ : Addr).add j = ⟨g, j, none⟩ := by by_cases h0 : j = 0 <;> simp [Addr.add, h0]
    rw [e1, (h j (by omega)).1, hf j hj])
  rwa [hl] at hb

theorem mid_get {s : ByteArray} {j m : Nat} {x : UInt8} (hj : j < s.size) (k : Nat) (hk : k < ((s.data.toList.take j ++ [x]) ++ List.replicate m 48).length) :
    ((s.data.toList.take j ++ [x]) ++ List.replicate m 48)[k] = if k < j then byteAt s k else if k = j then x else 48 := by
  have hl : s.data.toList.length = s.size := by simp
  have ht : (s.data.toList.take j).length = j := by rw [List.length_take]; omega
  by_cases h1 : k < j
  · rw [if_pos h1, List.getElem_append_left (by rw [List.length_append, ht]; omega), List.getElem_append_left (by omega), List.getElem_take]
    have h2 : k < s.data.toList.length := by omega
    simp [byteAt, List.getD, List.getElem?_eq_getElem h2]
  · rw [if_neg h1]
    by_cases h2 : k = j
    · rw [if_pos h2, List.getElem_append_left (by rw [List.length_append, ht, List.length_singleton]; omega), List.getElem_append_right (by omega)]
      simp
    · rw [if_neg h2, List.getElem_append_right (by rw [List.length_append, ht, List.length_singleton]; omega), List.getElem_replicate]

set_option maxRecDepth 100000 in
set_option maxHeartbeats 4000000 in
theorem next_any (s : ByteArray) (w : World) (hs : s.size ≤ 100000) :
    Calls Tryz.prog 21 #[.string s] w fun e w' => e = .returned (.string ⟨(nextL s.data.toList).toArray⟩) ∧ Below w.heap.size w w' := by
  obtain ⟨W1, cap, hconv0, hby, hbw, hlt, hcap⟩ := bytes_new w s
  have hconv := hconv0 9 81 Tryz.underlying9 Tryz.underlying81
  have hcap := Lib.hid hcap
  have hsl : s.data.toList.length = s.size := by simp
  obtain ⟨R, hR⟩ : ∃ R, nextL s.data.toList = R := ⟨_, rfl⟩
  rw [hR]
  have HR := Lib.hid hR
  clear hconv0 hR
  have hn1 : -9223372036854775808 ≤ ((s.size : Nat) : Int) - 1 := by omega
  go_enter Tryz.func21, Tryz.ntmps21
  go_wp2_with fail
  go_loopw [4] (fun u4 wr => ∃ i : Nat, i ≤ s.size ∧ u4 = .int .i64 (((i : Nat) : Int) - 1) ∧ BytesAt wr w.heap.size s.size (fun j => if j < i then byteAt s j else 48) ∧ Below w.heap.size w wr ∧ Hid (nextL (s.data.toList.take i) ++ List.replicate (s.size - i) 48 = R)) (fun u4 _ => (intOf u4 + 1).toNat)
  case atStart =>
    refine ⟨s.size, Nat.le_refl _, rfl, ?_, hbw, ?_⟩
    · intro j hj
      simp only [if_pos hj]
      exact hby j hj
    · show _ = R
      rw [← HR.out, Nat.sub_self, ← hsl, List.take_length]
      simp
  case round =>
    clear hby hbw hconv
    obtain ⟨i, hi, rfl, hby, hbw, HN⟩ := hrel
    by_cases hi0 : i = 0
    · subst hi0
      have hback := bytes_back (cap := cap) hby (l := List.replicate s.size 48) List.length_replicate (fun j hj => by rw [List.getElem_replicate]; simp only [Nat.not_lt_zero, if_false])
      have hn := HN.out
      rw [List.take_zero, nextL_nil, Nat.sub_zero] at hn
      have HN2 := Lib.hid hn
      have hs1 : (⟨#[49]⟩ : ByteArray).size = 1 := rfl
      have hs2 : (⟨(List.replicate s.size (48 : UInt8)).toArray⟩ : ByteArray).size = s.size := by show (List.replicate s.size (48 : UInt8)).toArray.size = _; rw [List.size_toArray, List.length_replicate]
      have hcat : (⟨#[49]⟩ : ByteArray) ++ ⟨(List.replicate s.size (48 : UInt8)).toArray⟩ = ⟨R.toArray⟩ := by rw [← hn]; exact ByteArray.ext (Array.ext' (by simp))
      clear hn HN hby
      generalize (⟨(List.replicate s.size (48 : UInt8)).toArray⟩ : ByteArray) = B at *
      go_wp2_with fail
      go_ret
      exact ⟨rfl, hbw⟩
    · obtain ⟨j, rfl⟩ : ∃ j, i = j + 1 := ⟨i - 1, by omega⟩
      have hcast : (((j + 1 : Nat) : Int) - 1) = ((j : Nat) : Int) := by omega
      obtain ⟨hc, hf⟩ := hby j (by omega)
      simp only [if_pos (Nat.lt_succ_self j)] at hc
      have hn := HN.out
      rw [take_at s j (by omega), nextL_snoc] at hn
      have hbj : byteAt s j = s[j]'(by omega) := by
        have h2 : j < s.data.toList.length := by omega
        simp [byteAt, List.getD, List.getElem?_eq_getElem h2]
        rfl
      rw [← hbj] at hn
      rw [hcast]
      have hji : ((j : Nat) : Int) < ((s.size : Nat) : Int) := by omega
      by_cases h57 : (byteAt s j).toNat < 57
      · rw [if_pos h57] at hn
        have HN2 := Lib.hid hn
        have h57i : (((byteAt s j).toNat : Nat) : Int) < 57 := by omega
        have hby2 := hby.set (i := j) (f' := fun k => if k < j then byteAt s k else if k = j then byteAt s j + 1 else 48) (x := ((byteAt s j).toNat : Int) + 1) (by omega) (by
          simp only [Nat.lt_irrefl, if_false, if_true]
          rw [UInt8.toNat_add]
          have : (1 : UInt8).toNat = 1 := rfl
          omega) (fun k hk => by
            by_cases hkj : k < j
            · simp only [if_pos hkj, if_pos (show k < j + 1 by omega)]
            · simp only [if_neg hkj, if_neg hk, if_neg (show ¬ k < j + 1 by omega)])
        have hback := bytes_back (cap := cap) hby2 (l := R) (by
          rw [← hn]
          simp only [List.length_append, List.length_take, List.length_replicate, List.length_singleton]
          omega) (fun k hk => by
            have hk2 : k < s.size := by
              rw [← hn] at hk
              simp only [List.length_append, List.length_take, List.length_replicate, List.length_singleton] at hk
              omega
            subst hn
            exact mid_get (by omega) k hk)
        clear hn HN hby hbj
        go_wp2_with fail
        go_ret
        exact ⟨rfl, hbw.setCell (Nat.le_refl _) _⟩
      · rw [if_neg h57] at hn
        have h57i : (57 : Int) ≤ (((byteAt s j).toNat : Nat) : Int) := by omega
        have hby2 := hby.set (i := j) (f' := fun k => if k < j then byteAt s k else 48) (x := 48) (by omega) (by
          simp only [Nat.lt_irrefl, if_false]; rfl) (fun k hk => by
            by_cases hkj : k < j
            · simp only [if_pos hkj, if_pos (show k < j + 1 by omega)]
            · simp only [if_neg hkj, if_neg (show ¬ k < j + 1 by omega)])
        have hn2 : nextL (s.data.toList.take j) ++ List.replicate (s.size - j) 48 = R := by
          rw [← hn, List.append_assoc, List.singleton_append, ← List.replicate_succ]
          congr 2
          omega
        have HN2 := Lib.hid hn2
        have HB2 := Lib.hid hby2
        clear hn HN hby hbj hn2 hby2
        go_wp2_with fail
        go_roundw
        case rel => exact ⟨j, by omega, rfl, HB2.out, hbw.setCell (Nat.le_refl _) _, HN2.out⟩
        case measure => simp [intOf]
end Go.Proofs.YtkfbailpifmdcaaGreatDoor
end

section
namespace Go.Proofs.YtkfbailpifmdcaaGreatDoor
open Go.RowKit

/-- What the law asks of two lists of digits. -/
def DigLaw (all got : List UInt8) (n : Int) : Prop :=
  (got.length : Int) ≤ n ∧ all ≠ [] ∧ got ≠ [] ∧ ((all.length : Int) ≤ n → got = all) ∧ (n < (all.length : Int) → got = trimL (all.take n.toNat) ∨ got = trimL (nextL (all.take n.toNat)))
theorem take_bytes (A : List UInt8) (k : Nat) : (⟨A.toArray⟩ : ByteArray).extract 0 k = ⟨(A.take k).toArray⟩ := by
  apply ByteArray.ext
  simp
theorem nextL_len (l : List UInt8) : (nextL l).length ≤ l.length + 1 := by
  have h : ∀ l : List UInt8, (nextR l).length ≤ l.length + 1 := by
    intro l
    induction l with
    | nil => simp [nextR]
    | cons c t ih =>
      rw [nextR]
      split
      · simp
      · simp only [List.length_cons]; omega
  have := h l.reverse
  unfold nextL
  simpa using this
def finB (x : Nat) : Prop := classN x = 3 ∨ classN x = 2
theorem str_ne {a b : List UInt8} (h : a ≠ b) : ((⟨a.toArray⟩ : ByteArray).toList == (⟨b.toArray⟩ : ByteArray).toList) = false := by
  rw [ByteArray.toList_eq, ByteArray.toList_eq]
  exact beq_eq_false_iff_ne.2 h

set_option maxRecDepth 100000 in
set_option maxHeartbeats 8000000 in
theorem TextDigits_other (x : Nat) (n : Int) (w : World) (hx : x < 18446744073709551616)
    (hfin : ¬ finB x) (hT : TabW w) (hP : TabP w) :
    Calls Tryz.prog 6 #[.int .u64 ((x : Nat) : Int), .int .i64 n] w fun en w' => en = .returned (.bool true) ∧ Below w.heap.size w w' := by
  unfold finB at hfin
  have h3 : (classN x != 3) = true := by simp; omega
  have h2 : (classN x != 2) = true := by simp; omega
  clear hfin
  go_enter Tryz.func6, Tryz.ntmps6
  go_wp2_with fail
  refine (begins_any w hT hP).mono ?_
  rintro e w1 ⟨rfl, hb1⟩
  go_wp2_with fail
  refine (Class_any x w1 hx).mono ?_
  rintro e w2 ⟨rfl, hb2⟩
  have hb12 := hb1.trans (hb2.mono hb1.size)
  go_wp2_with fail
  refine (Class_any x w2 hx).mono ?_
  rintro e w3 ⟨rfl, hb3⟩
  have hb13 := hb12.trans (hb3.mono hb12.size)
  go_wp2_with fail
  go_ret
  exact ⟨rfl, hb13⟩

theorem trimL_len (l : List UInt8) : (trimL l).length ≤ l.length := by
  have h := (List.dropWhile_sublist (· == (48 : UInt8)) (l := l.reverse)).length_le
  rw [List.length_reverse] at h
  unfold trimL Lib.trimRightB
  rw [List.length_reverse]
  exact h

set_option maxRecDepth 100000 in
set_option maxHeartbeats 8000000 in
theorem TextDigits_any (x : Nat) (n t : Int) (w : World) (hx : x < 18446744073709551616) (hn1 : -9223372036854775808 ≤ n) (hn2 : n ≤ 9223372036854775807)
    (hfin : finB x) (hpl : (plainP x [48]).2 = false) (htop : IsTop (nM x) (nE x) t) (hlaw : (digitsP x n t).2 = 0 → DigLaw (significantL (exactL x)) (significantL (digitsP x n t).1) n) (hbad : (digitsP x n t).2 ≠ 0 → digitsP x n t = ([], 2)) (hl1 : (exactL x).length ≤ 100000) (hl2 : (digitsP x n t).1.length ≤ 100000)
    (ht1 : -2000 ≤ t) (ht2 : t ≤ 2000) (hT : TabW w) (hP : TabP w) :
    Calls Tryz.prog 6 #[.int .u64 ((x : Nat) : Int), .int .i64 n] w fun en w' => en = .returned (.bool true) ∧ Below w.heap.size w w' := by
  have hdig := fun w hT hP => Digits_any x n t w hx hn1 hn2 (fun _ => htop) ht1 ht2 hT hP
  have hex := fun w hT hP => Exact_any x w hx hpl hT hP
  have hs1 : (significantL (exactL x)).length ≤ 100000 := by
    have h1 := sigL_len (exactL x) []
    have h2 := trimL_len (sigL [] (exactL x))
    unfold significantL
    simp at h1
    omega
  have hsig1 := fun w => significant_any ⟨(exactL x).toArray⟩ w (by simpa [ByteArray.size] using hl1)
  have hsig2 := fun w => significant_any ⟨(digitsP x n t).1.toArray⟩ w (by simpa [ByteArray.size] using hl2)
  simp only at hsig1 hsig2
  generalize hA : significantL (exactL x) = A at *
  generalize hG : significantL (digitsP x n t).1 = G at *
  generalize hE : exactL x = E at *
  generalize hDD : digitsP x n t = D at *
  obtain ⟨D1, D2⟩ := D
  simp only at *
  clear hA hE hDD htop hpl
  have HDIG := Lib.hid hdig
  have HEX := Lib.hid hex
  have HS1 := Lib.hid hsig1
  have HS2 := Lib.hid hsig2
  have HLAW := Lib.hid hlaw
  have HBAD := Lib.hid hbad
  clear hdig hex hsig1 hsig2 hlaw hbad hG
  unfold finB at hfin
  go_enter Tryz.func6, Tryz.ntmps6
  go_wp2_with fail
  refine (begins_any w hT hP).mono ?_
  rintro e w1 ⟨rfl, hb1⟩
  go_upto_region 3 with fail
  go_cut [4, 19] (fun u4 u19 wx => u4 = .bool false ∧ u19 = .bool false ∧ Below w1.heap.size w1 wx)
  case first =>
    go_wp2_with fail
    refine (Class_any x w1 hx).mono ?_
    rintro e w2 ⟨rfl, hb2⟩
    by_cases h3 : classN x = 3
    · have hb3 : (classN x != 3) = false := by simp [h3]
      clear hfin h3
      go_wp2_with fail
      go_meet
      exact ⟨rfl, rfl, hb2⟩
    · have hb3 : (classN x != 3) = true := by simp [h3]
      have hb4 : (classN x != 2) = false := by simp; omega
      clear hfin h3
      go_wp2_with fail
      refine (Class_any x w2 hx).mono ?_
      rintro e w3 ⟨rfl, hb3⟩
      have hb23 := hb2.trans (hb3.mono hb2.size)
      go_wp2_with fail
      go_meet
      exact ⟨rfl, rfl, hb23⟩
  case rest =>
    clear hfin
    obtain ⟨rfl, rfl, hbr⟩ := hcut
    have hb1c := hb1.trans (hbr.mono hb1.size)
    have hm1 : (((D1.length : Nat) : Int)) = (D1.length : Int) := rfl
    go_wp2_with fail
    refine (HDIG.out _ (hT.call hb1c) (hP.call hb1c)).mono ?_
    rintro e w2 ⟨rfl, hb2⟩
    have hb12 := hb1c.trans (hb2.mono hb1c.size)
    by_cases h0 : D2 = 0
    · have hz : (((D2 : Nat) : Int) != 0) = false := by simp [h0]
      obtain ⟨l1, l2, l3, l4, l5⟩ := HLAW.out h0
      have ha0 : ¬ A.length = 0 := by cases A <;> simp_all
      have hg0 : ¬ G.length = 0 := by cases G <;> simp_all
      have ha1 : ((A.length : Int) == 0) = false := by simpa using ha0
      have hg1 : ((G.length : Int) == 0) = false := by simpa using hg0
      have d1 : decide (n < (G.length : Int)) = false := decide_eq_false (by omega)
      have HL := Lib.hid (And.intro l4 l5)
      clear l4 l5 l2 l3 HLAW HBAD h0 hm1
      go_wp2_with fail
      refine (HEX.out _ (hT.call hb12) (hP.call hb12)).mono ?_
      rintro e w3 ⟨rfl, hb3⟩
      have hb13 := hb12.trans (hb3.mono hb12.size)
      go_wp2_with fail
      refine (HS1.out _).mono ?_
      rintro e w4 ⟨rfl, hb4⟩
      have hb14 := hb13.trans (hb4.mono hb13.size)
      go_wp2_with fail
      refine (HS2.out _).mono ?_
      rintro e w5 ⟨rfl, hb5⟩
      have hb15 := hb14.trans (hb5.mono hb14.size)
      go_upto_region 12 with fail
      by_cases hle : (A.length : Int) ≤ n
      · have e := HL.out.1 hle
        have d2 : decide ((A.length : Int) ≤ n) = true := decide_eq_true hle
        subst e
        have hgg : (G == G) = true := by simp
        go_wp2_with fail
        go_ret
        exact ⟨rfl, hb15⟩
      · have e := HL.out.2 (by omega)
        obtain ⟨k, rfl⟩ : ∃ k : Nat, n = (k : Int) := ⟨n.toNat, by omega⟩
        rw [Int.toNat_natCast] at e
        have HL2 := Lib.hid e
        have d2 : decide ((A.length : Int) ≤ ((k : Nat) : Int)) = false := decide_eq_false hle
        clear HL e
        go_wp2_with fail
        rw [take_bytes A k]
        have htk : (⟨(A.take k).toArray⟩ : ByteArray).size ≤ 100000 := by
          have := List.length_take_le k A
          simp only [ByteArray.size, List.size_toArray]
          omega
        have ht := fun w => trimmed_any ⟨(A.take k).toArray⟩ w (by omega)
        have hnx := fun w => next_any ⟨(A.take k).toArray⟩ w htk
        have hnl := nextL_len (A.take k)
        have ht2 := fun w => trimmed_any ⟨(nextL (A.take k)).toArray⟩ w (by simp only [ByteArray.size, List.size_toArray] at htk ⊢; omega)
        simp only at ht hnx ht2
        generalize trimL (A.take k) = B1 at *
        generalize hC : A.take k = C at *
        generalize nextL C = C2 at *
        generalize trimL C2 = B2 at *
        have HT2 := Lib.hid ht2
        have HNX := Lib.hid hnx
        have HTK := Lib.hid hC
        have HT := Lib.hid ht
        clear ht2 hnx hC ht hnl htk hl1 hl2 hs1
        refine (HT.out _).mono ?_
        rintro e w6 ⟨rfl, hw⟩
        subst hw
        by_cases hg : G = B1
        · subst hg
          have hgg : (G == G) = true := by simp
          go_wp2_with fail
          go_ret
          exact ⟨rfl, hb15⟩
        · have hgg : (G == B1) = false := beq_eq_false_iff_ne.2 hg
          have e := HL2.out.resolve_left hg
          subst e
          have hg2 : (G == G) = true := by simp
          go_wp2_with fail
          rw [take_bytes A k, HTK.out]
          refine (HNX.out _).mono ?_
          rintro e w6 ⟨rfl, hb6⟩
          have hb16 := hb15.trans (hb6.mono hb15.size)
          go_wp2_with fail
          refine (HT2.out _).mono ?_
          rintro e w7 ⟨rfl, hw⟩
          subst hw
          go_wp2_with fail
          go_ret
          exact ⟨rfl, hb16⟩
    · have hz : (((D2 : Nat) : Int) != 0) = true := by simp; omega
      have e := HBAD.out h0
      injection e with e1 e2
      subst e1 e2
      clear HLAW HBAD h0 hz hm1
      go_wp2_with fail
      go_ret
      exact ⟨rfl, hb12⟩
end Go.Proofs.YtkfbailpifmdcaaGreatDoor
end

section
namespace Go.Proofs.YtkfbailpifmdcaaGreatDoor
open Go.RowKit

def isD (c : UInt8) : Prop := 48 ≤ c.toNat ∧ c.toNat ≤ 57
theorem dgB_nat {d : Nat} (h : d < 10) : (dgB d).toNat = 48 + d := by
  unfold dgB
  rw [UInt8.toNat_ofNat']
  omega
theorem dgB_isD {d : Nat} (h : d < 10) : isD (dgB d) := by
  unfold isD
  rw [dgB_nat h]
  omega
theorem dec_isD (u : Nat) : ∀ c ∈ Lib.decDigits u, isD c := by
  induction u using Nat.strongRecOn with
  | ind u ih =>
    intro c hc
    by_cases h : u < 10
    · rw [dec_small h] at hc
      rw [List.mem_singleton] at hc
      rw [hc]
      exact dgB_isD h
    · rw [dec_step h] at hc
      rcases List.mem_append.1 hc with h1 | h1
      · exact ih (u / 10) (by omega) c h1
      · rw [List.mem_singleton] at h1
        rw [h1]
        exact dgB_isD (by omega)
theorem padL_isD : ∀ (k r : Nat), ∀ c ∈ padL k r, isD c
  | 0, _, c, h => by cases h
  | k + 1, r, c, h => by
    rw [padL] at h
    rcases List.mem_append.1 h with h1 | h1
    · exact padL_isD k _ c h1
    · rw [List.mem_singleton] at h1
      rw [h1]
      exact dgB_isD (by omega)
theorem dec_head {u : Nat} (h : u ≠ 0) : ∃ c t, Lib.decDigits u = c :: t ∧ c ≠ 48 := by
  induction u using Nat.strongRecOn with
  | ind u ih =>
    by_cases h1 : u < 10
    · refine ⟨_, [], dec_small h1, ?_⟩
      intro e
      have := congrArg UInt8.toNat e
      rw [dgB_nat h1] at this
      have h48 : (48 : UInt8).toNat = 48 := rfl
      omega
    · obtain ⟨c, t, e, hc⟩ := ih (u / 10) (by omega) (by omega)
      refine ⟨c, t ++ [dgB (u % 10)], ?_, hc⟩
      rw [dec_step h1, e]
      rfl
theorem dec_len_ge : ∀ (k u : Nat), 10 ^ k ≤ u → k + 1 ≤ (Lib.decDigits u).length
  | 0, u, _ => dec_len_pos u
  | k + 1, u, h => by
    have h1 : 1 ≤ 10 ^ k := Nat.one_le_pow _ _ (by decide)
    rw [Nat.pow_succ] at h
    rw [dec_step (by omega), List.length_append]
    have := dec_len_ge k (u / 10) (by omega)
    simp only [List.length_singleton]
    omega
theorem dec_len_is {k u : Nat} (h1 : 10 ^ k ≤ u) (h2 : u < 10 ^ (k + 1)) : (Lib.decDigits u).length = k + 1 := by
  have h3 := dec_len_ge k u h1
  have h4 := dec_len_le (k + 1) u (by omega) h2
  omega
theorem next_dec (u : Nat) : nextL (Lib.decDigits u) = Lib.decDigits (u + 1) := by
  induction u using Nat.strongRecOn with
  | ind u ih =>
    have hd9 : ∀ d, d < 9 → dgB d + 1 = dgB (d + 1) := by decide
    by_cases h : u < 10
    · rw [dec_small h]
      have e := nextL_snoc [] (dgB u)
      rw [List.nil_append, dgB_nat h] at e
      rw [e]
      by_cases h9 : u < 9
      · rw [if_pos (by omega), dec_small (by omega), hd9 u h9]; rfl
      · have : u = 9 := by omega
        subst this
        rw [if_neg (by decide), nextL_nil, dec_step (by decide), dec_small (by decide)]
        rfl
    · rw [dec_step h, nextL_snoc, dgB_nat (by omega)]
      by_cases h9 : u % 10 < 9
      · rw [if_pos (by omega), dec_step (u := u + 1) (by omega), hd9 _ h9, show (u + 1) / 10 = u / 10 by omega, show (u + 1) % 10 = u % 10 + 1 by omega]
      · rw [if_neg (by omega), ih (u / 10) (by omega), dec_step (u := u + 1) (by omega), show (u + 1) / 10 = u / 10 + 1 by omega, show (u + 1) % 10 = 0 by omega]
        rfl

/- Trimming. -/
theorem trimL_zeros (l : List UInt8) : ∀ k : Nat, trimL (l ++ List.replicate k 48) = trimL l
  | 0 => by simp
  | k + 1 => by
    rw [List.replicate_succ', ← List.append_assoc, trimL_step, if_pos rfl, trimL_zeros l k]
theorem trimL_form (l : List UInt8) : ∃ k, l = trimL l ++ List.replicate k 48 := by
  have h : ∀ r : List UInt8, ∃ k, r.reverse = trimL r.reverse ++ List.replicate k 48 := by
    intro r
    induction r with
    | nil => exact ⟨0, rfl⟩
    | cons a r ih =>
      rw [List.reverse_cons, trimL_step]
      by_cases h : a = 48
      · obtain ⟨k, e⟩ := ih
        refine ⟨k + 1, ?_⟩
        rw [if_pos h, List.replicate_succ', ← List.append_assoc, ← e, h]
      · refine ⟨0, ?_⟩
        rw [if_neg h]; simp
  have := h l.reverse
  rwa [List.reverse_reverse] at this
theorem trimL_ne {c : UInt8} {t : List UInt8} (h : c ≠ 48) : trimL (c :: t) ≠ [] := by
  intro e
  obtain ⟨k, hk⟩ := trimL_form (c :: t)
  rw [e, List.nil_append] at hk
  have := congrArg (fun l => l.head?) hk
  cases k with
  | zero => cases hk
  | succ k =>
    rw [List.replicate_succ] at hk
    injection hk with h1 _
    exact h h1
theorem trimL_take {l : List UInt8} {n : Nat} (h : n ≤ (trimL l).length) : (trimL l).take n = l.take n := by
  obtain ⟨k, hk⟩ := trimL_form l
  conv => rhs; rw [hk]
  rw [List.take_append_of_le_length h]
/-- What is cut off beside a shorter trimmed list is noughts. -/
theorem trimL_short {l : List UInt8} {n : Nat} (h : (trimL l).length ≤ n) : trimL (l.take n) = trimL l := by
  obtain ⟨k, hk⟩ := trimL_form l
  have e : l.take n = trimL l ++ List.replicate (min (n - (trimL l).length) k) 48 := by
    conv => lhs; rw [hk]
    rw [List.take_append, List.take_of_length_le h, List.take_replicate]
  rw [e, trimL_zeros]
  obtain ⟨k2, hk2⟩ := trimL_form (trimL l)
  conv => rhs; rw [hk]
  rw [trimL_zeros]
theorem trimL_zero_tail {l : List UInt8} {n : Nat} (h : (trimL l).length ≤ n) : ∀ c ∈ l.drop n, c = 48 := by
  obtain ⟨k, hk⟩ := trimL_form l
  intro c hc
  rw [hk, List.drop_append, List.drop_of_length_le h, List.nil_append, List.drop_replicate] at hc
  exact (List.mem_replicate.1 hc).2
theorem padL_zero_of : ∀ (k r : Nat), r < 10 ^ k → (∀ c ∈ padL k r, c = 48) → r = 0
  | 0, r, h, _ => by simpa using h
  | k + 1, r, h, hc => by
    rw [padL] at hc
    rw [Nat.pow_succ] at h
    have h1 := padL_zero_of k (r / 10) (by omega) fun c h => hc c (List.mem_append_left _ h)
    have h2 := hc (dgB (r % 10)) (List.mem_append_right _ (by simp))
    have h3 := congrArg UInt8.toNat h2
    rw [dgB_nat (by omega)] at h3
    have h48 : (48 : UInt8).toNat = 48 := rfl
    omega

/- The digits that count. -/
theorem sigL_acc {acc l : List UInt8} (ha : acc ≠ []) (hl : ∀ c ∈ l, isD c) (r : List UInt8) : sigL acc (l ++ r) = sigL (acc ++ l) r := by
  induction l generalizing acc with
  | nil => simp
  | cons c t ih =>
    have hc := hl c (by simp)
    have h101 : c ≠ 101 := by
      intro e; rw [e] at hc; exact absurd hc.2 (by decide)
    rw [List.cons_append, sigL, if_neg h101, if_pos ⟨hc, Or.inl ha⟩, ih (by simp) (fun c h => hl c (by simp [h])), List.append_assoc]
    rfl
theorem sigL_zeros (k : Nat) (r : List UInt8) : sigL [] (List.replicate k 48 ++ r) = sigL [] r := by
  induction k with
  | zero => rfl
  | succ k ih =>
    rw [List.replicate_succ, List.cons_append, sigL, if_neg (by decide), if_neg (by simp), ih]
theorem sigL_first {c : UInt8} {t r : List UInt8} (hc : isD c) (h48 : c ≠ 48) (ht : ∀ c ∈ t, isD c) : sigL [] (c :: t ++ r) = sigL (c :: t) r := by
  have h101 : c ≠ 101 := by
    intro e; rw [e] at hc; exact absurd hc.2 (by decide)
  rw [List.cons_append, sigL, if_neg h101, if_pos ⟨hc, Or.inr h48⟩, sigL_acc (by simp) ht]
  rfl
theorem sigL_skip {acc r : List UInt8} {c : UInt8} (h101 : c ≠ 101) (h : ¬ (48 ≤ c.toNat ∧ c.toNat ≤ 57)) : sigL acc (c :: r) = sigL acc r := by
  rw [sigL, if_neg h101, if_neg (fun q => h q.1)]
theorem sigL_stop (acc r : List UInt8) : sigL acc (101 :: r) = acc := by rw [sigL, if_pos rfl]
theorem sigL_sign (x : Nat) (s : List UInt8) : sigL [] (signL x s) = sigL [] s := by
  unfold signL
  split
  · exact sigL_skip (by decide) (by decide)
  · rfl
theorem sig_sci {x : Nat} {e : Int} {c : UInt8} {t : List UInt8} (hc : isD c) (h48 : c ≠ 48) (ht : ∀ c ∈ t, isD c) : significantL (sciL x (c :: t) e) = trimL (c :: t) := by
  unfold significantL sciL
  rw [sigL_sign]
  congr 1
  unfold pointL
  split
  · have e1 : List.take 1 (c :: t) ++ 46 :: List.drop 1 (c :: t) ++ 101 :: Lib.itoa e = (c :: [] ++ (46 :: (t ++ 101 :: Lib.itoa e))) := by simp
    rw [e1, sigL_first hc h48 (by simp), sigL_skip (by decide) (by decide), sigL_acc (by simp) ht, sigL_stop]
    rfl
  · rw [sigL_first hc h48 ht, sigL_stop]
theorem sig_dec {x u : Nat} (h : u ≠ 0) : significantL (signL x (Lib.decDigits u)) = trimL (Lib.decDigits u) := by
  obtain ⟨c, t, e, hc⟩ := dec_head h
  have hD : ∀ c ∈ Lib.decDigits u, isD c := dec_isD u
  rw [e] at hD
  unfold significantL
  rw [sigL_sign, e]
  have := sigL_first (r := []) (hD c List.mem_cons_self) hc (fun c h => hD c (List.mem_cons_of_mem _ h))
  rw [List.append_nil] at this
  rw [this, sigL]
end Go.Proofs.YtkfbailpifmdcaaGreatDoor
end
