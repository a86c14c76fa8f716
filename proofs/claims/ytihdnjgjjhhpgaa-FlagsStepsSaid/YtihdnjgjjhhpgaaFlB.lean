/- Contracts of package flags' names, Each, Show, Parse. -/
import Derived.Test.YtihdnjgjjhhpgaaFlA
import Derived.Lib.Hide
import Derived.Test.YtihdnjgjjhhpgaaShelf
namespace Go.Proofs.Ytihdnjgjjhhpgaa
open Go.RowKit

def nmInvalid : ByteArray := ⟨#[105, 110, 118, 97, 108, 105, 100]⟩
def nmDiv : ByteArray := ⟨#[100, 105, 118, 98, 121, 122, 101, 114, 111]⟩
def nmOver : ByteArray := ⟨#[111, 118, 101, 114, 102, 108, 111, 119]⟩
def nmUnder : ByteArray := ⟨#[117, 110, 100, 101, 114, 102, 108, 111, 119]⟩
def nmInexact : ByteArray := ⟨#[105, 110, 101, 120, 97, 99, 116]⟩
def nmAgg : Value := .agg #[.string nmInvalid, .string nmDiv, .string nmOver, .string nmUnder, .string nmInexact]

set_option maxHeartbeats 400000 in
theorem names_any (w : World) :
    Calls Try.prog 43 #[] w fun e w' => e = .returned nmAgg ∧ Below w.heap.size w w' := by
  go_enter Try.func43, Try.ntmps43
  go_wp2
  exact bodyPost_ret (v := nmAgg) (by simp [results, Try.results43, go_sem]; rfl) rfl ⟨rfl, (Below.refl _ _).alloc (Nat.le_refl _) _⟩

theorem Try.infoFl : (Try.prog.info? 22).map (fun i => (i.zero, i.size, i.bytes)) = some (some (.int .u8 0), 1, 1) := by kernel_rfl
theorem Try.infoStr : (Try.prog.info? 9).map (fun i => (i.zero, i.size, i.bytes)) = some (some (.string ⟨#[]⟩), 1, 16) := by kernel_rfl

def bitOf (k : Nat) : Int := 2 ^ k % 256
def eachL (a : Int) : Nat → List Int
  | 0 => []
  | k + 1 => if hasB a (bitOf k) = true then eachL a k ++ [bitOf k] else eachL a k
theorem eachL_le (a : Int) (k : Nat) : (eachL a k).length ≤ k := by
  induction k with
  | zero => exact Nat.le_refl _
  | succ k ih =>
    rw [eachL]
    split
    · rw [List.length_append]; exact Nat.add_le_add_right ih 1
    · omega
theorem eachL_hit (a : Int) (k : Nat) (h : hasB a (bitOf k) = true) : eachL a (k + 1) = eachL a k ++ [bitOf k] := by rw [eachL, if_pos h]
theorem eachL_miss (a : Int) (k : Nat) (h : hasB a (bitOf k) = false) : eachL a (k + 1) = eachL a k := by rw [eachL, if_neg (by rw [h]; exact Bool.false_ne_true)]

set_option maxHeartbeats 1000000 in
theorem Each_any (a : Int) (w : World) :
    Calls Try.prog 22 #[.int .u8 a] w fun e w' => ∃ v, e = .returned v ∧ w'.ownsRow w.heap.size 22 1 v (eachL a 5).length ((eachL a 5).map (Value.int .u8)) ∧ Below w.heap.size w w' := by
  obtain ⟨i0, hi, hz0, hz1, hz2⟩ := info_parts Try.infoFl
  go_enter Try.func22, Try.ntmps22
  go_wp2_with (go_at_call 43; refine (names_any _).mono ?_; rintro e w1 ⟨rfl, hb1⟩)
  go_loopw [3, 7] (fun v i wr => ∃ k : Nat, k ≤ 5 ∧ i = .int .i64 k ∧ wr.ownsRow w.heap.size 22 1 v (eachL a k).length ((eachL a k).map (Value.int .u8)) ∧ Below w.heap.size w wr) (fun _ i _ => 5 - (intOf i).toNat)
  case atStart => exact ⟨0, by omega, rfl, World.ownsRow_nil _ _ _ _, hb1⟩
  case round =>
    obtain ⟨k, hk, rfl, hown, hb⟩ := hrel
    have hle := eachL_le a k
    have hsz := hb.size
    by_cases hlt : k < 5
    · cases hh : hasB a (bitOf k)
      · have hm := eachL_miss a k hh
        have hown' : wr.ownsRow w.heap.size 22 1 u3 (eachL a (k + 1)).length ((eachL a (k + 1)).map (Value.int .u8)) := by rw [hm]; exact hown
        have hh' : hasB a (2 ^ k % 256) = false := hh
        clear hm hown hk hh
        go_wp2_with (go_at_call 12; refine (Has_any _ _ _).mono ?_; rintro e w1 ⟨rfl, rfl⟩)
        go_roundw
        case rel => exact ⟨k + 1, by omega, by go_num, hown', hb⟩
        case measure => simp [intOf]; omega
      · have hm := eachL_hit a k hh
        have Hm := Lib.hid hm
        have hh' : hasB a (2 ^ k % 256) = true := hh
        clear hm hh
        go_wp2_with (first | (go_at_call 12; refine (Has_any _ _ _).mono ?_; rintro e w1 ⟨rfl, rfl⟩) | (at_builtin; refine wpList_append1 rfl _ _ 34 rfl w.heap.size 22 i0 (.int .u8 0) 1 Try.underlying34 hi hz0 hz1 hz2 rfl _ _ _ rfl hown _ _ rfl rfl (by unfold maxLen; omega) (by omega) hsz ?_; intro v' w2 hown2 hg2))
        have hb2 := Below.grownB hb hg2 hsz hown
        clear hg2 hown hb
        go_wp2
        go_roundw
        case rel => exact ⟨k + 1, by omega, by go_num, by rw [Hm.out]; simpa [bitOf] using hown2, hb2⟩
        case measure => simp [intOf]; omega
    · obtain rfl : k = 5 := by omega
      go_wp2
      go_ret
      exact ⟨_, rfl, hown, hb⟩

def nmAt (k : Nat) : ByteArray := match k with
  | 0 => nmInvalid | 1 => nmDiv | 2 => nmOver | 3 => nmUnder | _ => nmInexact
def showL (a : Int) : Nat → List ByteArray
  | 0 => []
  | k + 1 => if hasB a (bitOf k) = true then showL a k ++ [nmAt k] else showL a k
theorem showL_le (a : Int) (k : Nat) : (showL a k).length ≤ k := by
  induction k with
  | zero => exact Nat.le_refl _
  | succ k ih =>
    rw [showL]
    split
    · rw [List.length_append]; exact Nat.add_le_add_right ih 1
    · omega
theorem showL_hit (a : Int) (k : Nat) (h : hasB a (bitOf k) = true) : showL a (k + 1) = showL a k ++ [nmAt k] := by rw [showL, if_pos h]
theorem showL_miss (a : Int) (k : Nat) (h : hasB a (bitOf k) = false) : showL a (k + 1) = showL a k := by rw [showL, if_neg (by rw [h]; exact Bool.false_ne_true)]
def joinL (l : List ByteArray) : ByteArray := ⟨(Lib.join (l.map (·.data.toList)) [32]).toArray⟩
def showF (a : Int) : ByteArray := if rightB a = true then (if (a == 0) = true then ⟨#[110, 111, 110, 101]⟩ else joinL (showL a 5)) else ⟨#[]⟩

theorem showL_len (a : Int) : (Lib.join ((showL a 5).map (·.data.toList)) [32]).length ≤ 64 := by
  simp only [showL]
  cases hasB a (bitOf 0) <;> cases hasB a (bitOf 1) <;> cases hasB a (bitOf 2) <;> cases hasB a (bitOf 3) <;> cases hasB a (bitOf 4) <;> decide

theorem Join_own {B : Nat} (v : Value) (xs : List ByteArray) (w : World) (hown : w.ownsRow B 9 1 v xs.length (xs.map Value.string)) (hl : (Lib.join (xs.map (·.data.toList)) [32]).length ≤ 64) (hn : xs.length ≤ 5) :
    Calls Try.prog 44 #[v, .string ⟨#[32]⟩] w fun e w' => e = .returned (.string (joinL xs)) ∧ Below w.heap.size w w' := by
  rcases hown.2 with ⟨rfl, h0⟩ | ⟨g, cap, cur, rfl, hg, hgg, hcap, _⟩
  · obtain rfl : xs = [] := List.length_eq_zero_iff.1 h0
    refine (Try.strings_Join_none none 0 ⟨#[32]⟩ w).mono ?_
    rintro e w' ⟨rfl, rfl⟩
    exact ⟨rfl, Below.refl _ _⟩
  · refine (Try.strings_Join g 0 cap xs ⟨#[32]⟩ w ?_ (Array.getElem?_eq_some_iff.1 hgg).1 (by omega) hcap (by simpa using Nat.le_trans hl (by decide))).mono fun e w' h => h
    intro j x hj
    have hlt : j < xs.length := (List.getElem?_eq_some_iff.1 hj).1
    rw [Nat.zero_add, hown.cellAt j (by omega), List.getElem?_map, hj]
    rfl

set_option maxHeartbeats 1000000 in
theorem Show_any (a : Int) (w : World) :
    Calls Try.prog 24 #[.int .u8 a] w fun e w' => e = .returned (.string (showF a)) ∧ Below w.heap.size w w' := by
  obtain ⟨i0, hi, hz0, hz1, hz2⟩ := info_parts Try.infoStr
  cases hr : rightB a
  · have hfin : showF a = ⟨#[]⟩ := by simp [showF, hr]
    have Hfin := Lib.hid hfin
    clear hfin
    go_enter Try.func24, Try.ntmps24
    go_wp2_with (go_at_call 10; refine (Right_any _ _).mono ?_; rintro e w1 ⟨rfl, rfl⟩)
    go_ret
    exact ⟨by rw [Hfin.out]; rfl, Below.refl _ _⟩
  cases h0 : (a == 0)
  · have hfin : showF a = joinL (showL a 5) := by simp [showF, hr, h0]
    have Hfin := Lib.hid hfin
    clear hfin
    go_enter Try.func24, Try.ntmps24
    go_wp2_with (first | (go_at_call 10; refine (Right_any _ _).mono ?_; rintro e w1 ⟨rfl, rfl⟩) | (go_at_call 43; refine (names_any _).mono ?_; rintro e w1 ⟨rfl, hb1⟩))
    go_loopw [3, 12] (fun v i wr => ∃ k : Nat, k ≤ 5 ∧ i = .int .i64 k ∧ wr.ownsRow w.heap.size 9 1 v (showL a k).length ((showL a k).map Value.string) ∧ Below w.heap.size w wr) (fun _ i _ => 5 - (intOf i).toNat)
    case atStart => exact ⟨0, by omega, rfl, World.ownsRow_nil _ _ _ _, hb1⟩
    case round =>
      obtain ⟨k, hk, rfl, hown, hb⟩ := hrel
      have hle := showL_le a k
      have hsz := hb.size
      by_cases hlt : k < 5
      · have hix : ∀ w, (Instr.index 59 nmAgg (.int .i64 (k : Int))).run Try.prog w = .ok (.string (nmAt k)) w := by
          have hcase : k = 0 ∨ k = 1 ∨ k = 2 ∨ k = 3 ∨ k = 4 := by omega
          rcases hcase with rfl | rfl | rfl | rfl | rfl <;> exact fun _ => by kernel_rfl
        cases hh : hasB a (bitOf k)
        · have hm := showL_miss a k hh
          have hown' : wr.ownsRow w.heap.size 9 1 u3 (showL a (k + 1)).length ((showL a (k + 1)).map Value.string) := by rw [hm]; exact hown
          have hh' : hasB a (2 ^ k % 256) = false := hh
          clear hm hown hk hh
          go_wp2_with (go_at_call 12; refine (Has_any _ _ _).mono ?_; rintro e w1 ⟨rfl, rfl⟩)
          go_roundw
          case rel => exact ⟨k + 1, by omega, by go_num, hown', hb⟩
          case measure => simp [intOf]; omega
        · have hm := showL_hit a k hh
          have Hm := Lib.hid hm
          have hh' : hasB a (2 ^ k % 256) = true := hh
          clear hm hh
          go_wp2_with (first | (go_at_call 12; refine (Has_any _ _ _).mono ?_; rintro e w1 ⟨rfl, rfl⟩) | (at_builtin; refine wpList_append1 rfl _ _ 62 rfl w.heap.size 9 i0 (.string ⟨#[]⟩) 16 Try.underlying62 hi hz0 hz1 hz2 rfl _ _ _ rfl hown _ _ rfl rfl (by unfold maxLen; omega) (by omega) hsz ?_; intro v' w2 hown2 hg2))
          have hb2 := Below.grownB hb hg2 hsz hown
          clear hg2 hown hb
          go_wp2
          go_roundw
          case rel => exact ⟨k + 1, by omega, by go_num, by rw [Hm.out]; simpa using hown2, hb2⟩
          case measure => simp [intOf]; omega
      · obtain rfl : k = 5 := by omega
        have hjl := showL_len a
        go_wp2_with (go_at_call 44; refine (Join_own _ (showL a 5) _ hown hjl hle).mono ?_; rintro e w2 ⟨rfl, hb2⟩)
        go_ret
        exact ⟨by rw [Hfin.out]; rfl, hb.trans (hb2.mono hsz)⟩
  · have hfin : showF a = ⟨#[110, 111, 110, 101]⟩ := by simp [showF, hr, h0]
    have Hfin := Lib.hid hfin
    clear hfin
    go_enter Try.func24, Try.ntmps24
    go_wp2_with (go_at_call 10; refine (Right_any _ _).mono ?_; rintro e w1 ⟨rfl, rfl⟩)
    go_ret
    exact ⟨by rw [Hfin.out]; rfl, Below.refl _ _⟩

def parseGo (s : ByteArray) : Nat → Nat → Int × Int
  | 0, _ => (0, 20)
  | d + 1, k => if ((showF k).toList == s.toList) = true then ((k : Int), 0) else parseGo s d (k + 1)
def parseF (s : ByteArray) : Int × Int := parseGo s 32 0

set_option maxHeartbeats 1000000 in
theorem Parse_any (s : ByteArray) (w : World) :
    Calls Try.prog 19 #[.string s] w fun e w' => e = .returned (.tuple #[.int .u8 (parseF s).1, .int .i64 (parseF s).2]) ∧ Below w.heap.size w w' := by
  go_enter Try.func19, Try.ntmps19
  go_wp2_with fail
  go_loopw [5] (fun i wr => ∃ k : Nat, k ≤ 32 ∧ i = .int .u8 k ∧ Hid (parseF s = parseGo s (32 - k) k) ∧ Below w.heap.size w wr) (fun i _ => 32 - (intOf i).toNat)
  case atStart => exact ⟨0, by omega, rfl, rfl, Below.refl _ _⟩
  case round =>
    obtain ⟨k, hk, rfl, hp, hb⟩ := hrel
    have hsz := hb.size
    by_cases hlt : k < 32
    · obtain ⟨d, hd⟩ : ∃ d, 32 - k = d + 1 := ⟨31 - k, by omega⟩
      cases hh : ((showF k).toList == s.toList)
      · have hp' : Hid (parseF s = parseGo s (32 - (k + 1)) (k + 1)) := by
          unfold Hid; rw [hp.out, hd, parseGo, if_neg (by rw [hh]; exact Bool.false_ne_true), show 32 - (k + 1) = d from by omega]
        clear hp hd
        go_wp2_with (go_at_call 24; refine (Show_any _ _).mono ?_; rintro e w2 ⟨rfl, hb2⟩)
        go_roundw
        case rel => exact ⟨k + 1, by omega, by go_num, hp', hb.trans (hb2.mono hsz)⟩
        case measure => simp [intOf]; omega
      · have hp' : Hid (parseF s = ((k : Int), 0)) := by
          unfold Hid; rw [hp.out, hd, parseGo, if_pos hh]
        clear hp hd
        go_wp2_with (go_at_call 24; refine (Show_any _ _).mono ?_; rintro e w2 ⟨rfl, hb2⟩)
        go_ret2
        exact ⟨by rw [hp'.out]; rfl, hb.trans (hb2.mono hsz)⟩
    · obtain rfl : k = 32 := by omega
      go_wp2
      go_ret2
      exact ⟨by rw [hp.out]; rfl, hb⟩
end Go.Proofs.Ytihdnjgjjhhpgaa
