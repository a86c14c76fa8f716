/- Contracts of the reference's Each, name, Show, Parse, Flags. -/
import Derived.Test.YtihdnjgjjhhpgaaFlB
import Derived.Deep.QuietTactic
import Derived.BigQuiet
namespace Go.Proofs.Ytihdnjgjjhhpgaa
open Go.RowKit

def gOf (k : Nat) : Int := match k with
  | 0 => 1 | 1 => 2 | 2 => 4 | 3 => 8 | 4 => 16 | _ => 32
theorem gOf_small (k : Nat) (h : k < 5) : 1 ≤ gOf k ∧ gOf k ≤ 16 ∧ gOf k * 2 = gOf (k + 1) := by
  have hcase : k = 0 ∨ k = 1 ∨ k = 2 ∨ k = 3 ∨ k = 4 := by omega
  rcases hcase with rfl | rfl | rfl | rfl | rfl <;> decide
def reachL (a : Int) : Nat → List Int
  | 0 => []
  | k + 1 => if (andF a (gOf k) != 0) = true then reachL a k ++ [gOf k] else reachL a k
theorem reachL_le (a : Int) (k : Nat) : (reachL a k).length ≤ k := by
  induction k with
  | zero => exact Nat.le_refl _
  | succ k ih =>
    rw [reachL]
    split
    · rw [List.length_append]; exact Nat.add_le_add_right ih 1
    · omega
theorem reachL_hit (a : Int) (k : Nat) (h : (andF a (gOf k) != 0) = true) : reachL a (k + 1) = reachL a k ++ [gOf k] := by rw [reachL, if_pos h]
theorem reachL_miss (a : Int) (k : Nat) (h : (andF a (gOf k) != 0) = false) : reachL a (k + 1) = reachL a k := by rw [reachL, if_neg (by rw [h]; exact Bool.false_ne_true)]

set_option maxHeartbeats 1000000 in
theorem refEach_any (a : Int) (w : World) :
    Calls Try.prog 23 #[.int .u8 a] w fun e w' => ∃ v, e = .returned v ∧ w'.ownsRow w.heap.size 22 1 v (reachL a 5).length ((reachL a 5).map (Value.int .u8)) ∧ Below w.heap.size w w' := by
  obtain ⟨i0, hi, hz0, hz1, hz2⟩ := info_parts Try.infoFl
  go_enter Try.func23, Try.ntmps23
  go_wp2_with fail
  go_loopw [3, 4] (fun v i wr => ∃ k : Nat, k ≤ 5 ∧ i = .int .u8 (gOf k) ∧ wr.ownsRow w.heap.size 22 1 v (reachL a k).length ((reachL a k).map (Value.int .u8)) ∧ Below w.heap.size w wr) (fun _ i _ => 64 - (intOf i).toNat)
  case atStart => exact ⟨0, by omega, rfl, World.ownsRow_nil _ _ _ _, Below.refl _ _⟩
  case round =>
    obtain ⟨k, hk, rfl, hown, hb⟩ := hrel
    have hle := reachL_le a k
    have hsz := hb.size
    by_cases hlt : k < 5
    · obtain ⟨g0, g1, g2⟩ := gOf_small k hlt
      have G2 := Lib.hid g2
      clear g2
      cases hh : (andF a (gOf k) != 0)
      · have hm := reachL_miss a k hh
        have hown' : wr.ownsRow w.heap.size 22 1 u3 (reachL a (k + 1)).length ((reachL a (k + 1)).map (Value.int .u8)) := by rw [hm]; exact hown
        have hh' : (bits .and .u8 a (gOf k) != 0) = false := hh
        have hh2 : (bits .and .u8 a (gOf k) == 0) = true := by simpa using hh'
        clear hm hown hk hh
        go_wp2_with fail
        go_roundw
        case rel => exact ⟨k + 1, by omega, by rw [← G2.out], hown', hb⟩
        case measure => simp [intOf]; omega
      · have hm := reachL_hit a k hh
        have Hm := Lib.hid hm
        have hh' : (bits .and .u8 a (gOf k) != 0) = true := hh
        have hh2 : (bits .and .u8 a (gOf k) == 0) = false := by simpa using hh'
        clear hm hh
        go_wp2_with (at_builtin; refine wpList_append1 rfl _ _ 34 rfl w.heap.size 22 i0 (.int .u8 0) 1 Try.underlying34 hi hz0 hz1 hz2 rfl _ _ _ rfl hown _ _ rfl rfl (by unfold maxLen; omega) (by omega) hsz ?_; intro v' w2 hown2 hg2)
        have hb2 := Below.grownB hb hg2 hsz hown
        clear hg2 hown hb
        go_wp2
        go_roundw
        case rel => exact ⟨k + 1, by omega, by rw [← G2.out], by rw [Hm.out]; simpa using hown2, hb2⟩
        case measure => simp [intOf]; omega
    · obtain rfl : k = 5 := by omega
      have h32 : gOf 5 = 32 := rfl
      rw [h32]
      go_wp2
      go_ret
      exact ⟨_, rfl, hown, hb⟩

def nameF (a : Int) : ByteArray := if (a == 1) = true then nmInvalid else if (a == 2) = true then nmDiv else if (a == 4) = true then nmOver else if (a == 8) = true then nmUnder else nmInexact
set_option maxHeartbeats 1000000 in
theorem name_any (a : Int) (w : World) :
    Calls Try.prog 45 #[.int .u8 a] w fun e w' => e = .returned (.string (nameF a)) ∧ w = w' := by
  go_enter Try.func45, Try.ntmps45
  go_wp2
  all_goals go_ret
  all_goals (refine ⟨?_, rfl⟩; simp_all [nameF, nmInvalid, nmDiv, nmOver, nmUnder, nmInexact])

def rsL (l : List Int) : Nat → ByteArray
  | 0 => ⟨#[]⟩
  | k + 1 => (if 0 < k then rsL l k ++ ⟨#[32]⟩ else rsL l k) ++ nameF (l[k]?.getD 0)
def refShowF (a : Int) : ByteArray := if a ≤ 31 then (if (a == 0) = true then ⟨#[110, 111, 110, 101]⟩ else rsL (reachL a 5) (reachL a 5).length) else ⟨#[]⟩

theorem nameF_size (a : Int) : (nameF a).size ≤ 9 := by
  unfold nameF
  split
  · decide
  split
  · decide
  split
  · decide
  split <;> decide
theorem rsL_size (l : List Int) (k : Nat) : (rsL l k).size ≤ 10 * k := by
  induction k with
  | zero => exact Nat.le_refl _
  | succ k ih =>
    rw [rsL]
    have := nameF_size (l[k]?.getD 0)
    split <;> simp only [ByteArray.size_append] <;> (try have : (⟨#[32]⟩ : ByteArray).size = 1 := rfl) <;> omega
theorem cell_of_own {w : World} {B : Nat} {e : TypeId} {g cap n : Nat} {xs : List Value} (h : w.ownsRow B e 1 (.slice (some ⟨g, 0, none⟩) n cap) n xs) (j : Nat) (x : Value) (hj : xs[j]? = some x) : w.cell? ⟨g, j, none⟩ = some x := by
  have hlt := (List.getElem?_eq_some_iff.1 hj).1
  have hn := h.1
  rw [h.cellAt j (by omega), hj]

set_option maxHeartbeats 1000000 in
theorem refShow_any (a : Int) (w : World) :
    Calls Try.prog 25 #[.int .u8 a] w fun e w' => e = .returned (.string (refShowF a)) ∧ Below w.heap.size w w' := by
  by_cases hr : a ≤ 31
  · cases h0 : (a == 0)
    · have hfin : refShowF a = rsL (reachL a 5) (reachL a 5).length := by simp [refShowF, hr, h0]
      have Hfin := Lib.hid hfin
      clear hfin
      go_enter Try.func25, Try.ntmps25
      go_wp2_with (first | (go_at_call 11; refine (refRight_any _ _).mono ?_; rintro e w1 ⟨rfl, rfl⟩) | (go_at_call 23; refine (refEach_any _ _).mono ?_; rintro e w1 ⟨v, rfl, hown, hb1⟩))
      have hle := reachL_le a 5
      generalize reachL a 5 = l at *
      obtain ⟨a0, cp, rfl, hcell⟩ : ∃ a0 cp, v = .slice a0 l.length cp ∧ ∀ j, j < l.length → ∃ g, a0 = some ⟨g, 0, none⟩ ∧ w1.cell? ⟨g, j, none⟩ = some (.int .u8 (l[j]?.getD 0)) := by
        rcases hown.2 with ⟨rfl, hn⟩ | ⟨g, cap, cur, rfl, hg, hgg, hcap, _⟩
        · exact ⟨none, 0, by rw [hn], fun j hj => by omega⟩
        · exact ⟨_, _, rfl, fun j hj => ⟨g, rfl, cell_of_own hown j _ (by simp [hj])⟩⟩
      clear hown
      go_loopw [3, 5] (fun s i wr => ∃ k : Nat, k ≤ l.length ∧ i = .int .i64 k ∧ s = .string (rsL l k) ∧ Below w.heap.size w wr ∧ wr = w1) (fun _ i _ => l.length - (intOf i).toNat)
      case atStart => exact ⟨0, by omega, rfl, rfl, hb1, rfl⟩
      case round =>
        obtain ⟨k, hk, rfl, rfl, hb, rfl⟩ := hrel
        by_cases hlt : k < l.length
        · obtain ⟨g, rfl, hc⟩ := hcell k hlt
          clear hcell
          have hs1 := rsL_size l k
          have hs2 := nameF_size (l[k])
          by_cases hk0 : 0 < k
          · go_wp2_with (go_at_call 45; refine (name_any _ _).mono ?_; rintro e w1 ⟨rfl, rfl⟩)
            go_roundw
            case rel => exact ⟨k + 1, by omega, by go_num, by simp [rsL, hk0, hlt], hb, trivial⟩
            case measure => simp [intOf]; omega
          · obtain rfl : k = 0 := by omega
            go_wp2_with (go_at_call 45; refine (name_any _ _).mono ?_; rintro e w1 ⟨rfl, rfl⟩)
            go_roundw
            case rel => exact ⟨0 + 1, by omega, by go_num, by simp [rsL, hlt], hb, trivial⟩
            case measure => simp [intOf]; omega
        · obtain rfl : k = l.length := by omega
          go_wp2
          go_ret
          exact ⟨by rw [Hfin.out]; rfl, hb⟩
    · have hfin : refShowF a = ⟨#[110, 111, 110, 101]⟩ := by simp [refShowF, hr, h0]
      have Hfin := Lib.hid hfin
      clear hfin
      go_enter Try.func25, Try.ntmps25
      go_wp2_with (go_at_call 11; refine (refRight_any _ _).mono ?_; rintro e w1 ⟨rfl, rfl⟩)
      go_ret
      exact ⟨by rw [Hfin.out]; rfl, Below.refl _ _⟩
  · have hfin : refShowF a = ⟨#[]⟩ := by simp [refShowF, hr]
    have hd : decide (a ≤ 31) = false := by simpa using hr
    have Hfin := Lib.hid hfin
    clear hfin
    go_enter Try.func25, Try.ntmps25
    go_wp2_with (go_at_call 11; refine (refRight_any _ _).mono ?_; rintro e w1 ⟨rfl, rfl⟩)
    go_ret
    exact ⟨by rw [Hfin.out]; rfl, Below.refl _ _⟩

def refParseGo (s : ByteArray) : Nat → Nat → Int × Int
  | 0, _ => (0, 20)
  | d + 1, k => if ((refShowF k).toList == s.toList) = true then ((k : Int), 0) else refParseGo s d (k + 1)
def refParseF (s : ByteArray) : Int × Int := refParseGo s 32 0

set_option maxHeartbeats 1000000 in
theorem refParse_any (s : ByteArray) (w : World) :
    Calls Try.prog 20 #[.string s] w fun e w' => e = .returned (.tuple #[.int .u8 (refParseF s).1, .int .i64 (refParseF s).2]) ∧ Below w.heap.size w w' := by
  go_enter Try.func20, Try.ntmps20
  go_wp2_with fail
  go_loopw [4] (fun i wr => ∃ k : Nat, k ≤ 32 ∧ i = .int .u8 k ∧ Hid (refParseF s = refParseGo s (32 - k) k) ∧ Below w.heap.size w wr) (fun i _ => 32 - (intOf i).toNat)
  case atStart => exact ⟨0, by omega, rfl, rfl, Below.refl _ _⟩
  case round =>
    obtain ⟨k, hk, rfl, hp, hb⟩ := hrel
    have hsz := hb.size
    by_cases hlt : k < 32
    · obtain ⟨d, hd⟩ : ∃ d, 32 - k = d + 1 := ⟨31 - k, by omega⟩
      have hlt2 : (k : Int) ≤ 31 := by omega
      cases hh : ((refShowF k).toList == s.toList)
      · have hp' : Hid (refParseF s = refParseGo s (32 - (k + 1)) (k + 1)) := by
          unfold Hid; rw [hp.out, hd, refParseGo, if_neg (by rw [hh]; exact Bool.false_ne_true), show 32 - (k + 1) = d from by omega]
        clear hp hd
        go_wp2_with (go_at_call 25; refine (refShow_any _ _).mono ?_; rintro e w2 ⟨rfl, hb2⟩)
        go_roundw
        case rel => exact ⟨k + 1, by omega, by go_num, hp', hb.trans (hb2.mono hsz)⟩
        case measure => simp [intOf]; omega
      · have hp' : Hid (refParseF s = ((k : Int), 0)) := by
          unfold Hid; rw [hp.out, hd, refParseGo, if_pos hh]
        clear hp hd
        go_wp2_with (go_at_call 25; refine (refShow_any _ _).mono ?_; rintro e w2 ⟨rfl, hb2⟩)
        go_ret2
        exact ⟨by rw [hp'.out]; rfl, hb.trans (hb2.mono hsz)⟩
    · obtain rfl : k = 32 := by omega
      go_wp2
      go_ret2
      exact ⟨by rw [hp.out]; rfl, hb⟩

set_option maxHeartbeats 1000000 in
theorem refFlags_same {B1 B2 : Nat} (v1 v2 : Value) (l : List Int) (w : World) (h1 : w.ownsRow B1 22 1 v1 l.length (l.map (Value.int .u8))) (h2 : w.ownsRow B2 22 1 v2 l.length (l.map (Value.int .u8)))
    (hl : l.length ≤ 100) :
    Calls Try.prog 21 #[v1, v2] w fun e w' => e = .returned (.bool true) ∧ Below w.heap.size w w' := by
  have key : ∀ {B : Nat} {v : Value}, w.ownsRow B 22 1 v l.length (l.map (Value.int .u8)) → ∃ a0 cp, v = .slice a0 l.length cp ∧ ∀ j, j < l.length → ∃ g, a0 = some ⟨g, 0, none⟩ ∧ w.cell? ⟨g, j, none⟩ = some (.int .u8 (l[j]?.getD 0)) := by
    intro B v hown
    rcases hown.2 with ⟨rfl, hn⟩ | ⟨g, cap, cur, rfl, hg, hgg, hcap, _⟩
    · exact ⟨none, 0, by rw [hn], fun j hj => by omega⟩
    · exact ⟨_, _, rfl, fun j hj => ⟨g, rfl, cell_of_own hown j _ (by simp [hj])⟩⟩
  obtain ⟨a1, c1, rfl, k1⟩ := key h1
  obtain ⟨a2, c2, rfl, k2⟩ := key h2
  clear key h1 h2
  go_enter Try.func21, Try.ntmps21
  go_wp2_with fail
  go_loopw [5] (fun i wr => ∃ k : Nat, k ≤ l.length ∧ i = .int .i64 k ∧ ∃ n, wr = w.drewN n) (fun i _ => l.length - (intOf i).toNat)
  case atStart => exact ⟨0, by omega, rfl, 0, rfl⟩
  case round =>
    obtain ⟨k, hk, rfl, n, rfl⟩ := hrel
    by_cases hlt : k < l.length
    · obtain ⟨g1, rfl, hc1⟩ := k1 k hlt
      obtain ⟨g2, rfl, hc2⟩ := k2 k hlt
      have hlt' : (k : Int) < l.length := by omega
      go_wp2
      go_quiet (fail)
      clear k1 k2
      go_wp2
      go_roundw
      case rel => exact ⟨k + 1, by omega, by go_num, n + nq, rfl⟩
      case measure => simp [intOf]; omega
    · obtain rfl : k = l.length := by omega
      go_wp2
      go_ret
      exact ⟨rfl, below_drewN _ _ _⟩
end Go.Proofs.Ytihdnjgjjhhpgaa
