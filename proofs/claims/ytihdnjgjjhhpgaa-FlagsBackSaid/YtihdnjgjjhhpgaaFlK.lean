/- The walk of the law FlagsBack. -/
import Derived.Test.YtihdnjgjjhhpgaaFlJ
namespace Go.Proofs.Ytihdnjgjjhhpgaa
open Go.RowKit

def allF (a : Int) : Nat → Int
  | 0 => 0
  | k + 1 => orF (allF a k) ((eachL a 5)[k]?.getD 0)
def backOk (a : Int) : Bool :=
  (List.range (eachL a 5).length).all (fun k => (bits .and .u8 ((eachL a 5)[k]?.getD 0) (allF a k) != 0) == false && (((eachL a 5)[k]?.getD 0) == 0) == false &&
    (bits .and .u8 ((eachL a 5)[k]?.getD 0) (((eachL a 5)[k]?.getD 0) - 1) != 0) == false && decide (1 ≤ (eachL a 5)[k]?.getD 0) && decide ((eachL a 5)[k]?.getD 0 ≤ 16)) &&
  (allF a (eachL a 5).length != andF a 31) == false &&
  (rightB a != ((parseF (showF a)).2 == 0)) == false && (((parseF (showF a)).2 == 0) == false || ((parseF (showF a)).1 != a) == false)
theorem backOk_u8 (a : Int) (h0 : 0 ≤ a) (h1 : a < 256) : backOk a = true :=
  u8_all (p := fun a => backOk a = true) (by decide +kernel) a h0 h1

theorem parseGo_tells (s : ByteArray) : ∀ d k : Nat, ((parseGo s d k).2 = 0 ∧ ((showF (parseGo s d k).1).toList == s.toList) = true) ∨ ((parseGo s d k).2 = 20 ∧ (parseGo s d k).1 = 0) := by
  intro d
  induction d with
  | zero => intro k; exact .inr ⟨rfl, rfl⟩
  | succ d ih =>
    intro k
    rw [parseGo]
    split
    · rename_i h; exact .inl ⟨rfl, h⟩
    · exact ih (k + 1)

set_option maxRecDepth 100000 in
set_option maxHeartbeats 2000000 in
theorem Back_law (a : Int) (s : ByteArray) (w : World) (a0 : 0 ≤ a) (a1 : a < 256) :
    Calls Try.prog 6 #[.int .u8 a, .string s] w (SamePost w) := by
  have hB := backOk_u8 a a0 a1
  simp only [backOk, Bool.and_eq_true] at hB
  obtain ⟨⟨⟨hL, hA⟩, hR⟩, hP⟩ := hB
  have hR' : (rightB a != ((parseF (showF a)).2 == 0)) = false := by simpa using hR
  have hP' : ((parseF (showF a)).2 == 0) = false ∨ ((parseF (showF a)).1 != a) = false := by simpa using hP
  have hA' : (allF a (eachL a 5).length != andF a 31) = false := by simpa using hA
  have HL := Lib.hid hL
  have HA := Lib.hid hA'
  have hps := parseGo_tells s 32 0
  have HPS : Hid ((∃ x : Int, parseF s = (x, 0) ∧ ((showF x).toList == s.toList) = true) ∨ parseF s = (0, 20)) := by
    rcases hps with ⟨h1, h2⟩ | ⟨h1, h2⟩
    · exact .inl ⟨(parseF s).1, Prod.ext rfl h1, h2⟩
    · exact .inr (Prod.ext h2 h1)
  have hl := eachL_le a 5
  clear hL hA hR hP hA' hps
  go_enter Try.func6, Try.ntmps6
  go_wp2_with fail
  refine (begins_any _).mono ?_
  rintro e w1 ⟨rfl, hb1⟩
  go_wp2_with fail
  refine (Show_any a _).mono ?_
  rintro e w2 ⟨rfl, hb2⟩
  have hb3 := hb1.trans (hb2.mono hb1.size)
  clear hb1 hb2
  go_wp2_with fail
  refine (Parse_any (showF a) _).mono ?_
  rintro e w3 ⟨rfl, hb4⟩
  have hb5 := hb3.trans (hb4.mono hb3.size)
  clear hb3 hb4
  generalize parseF (showF a) = g at *
  have hcases : (rightB a = false ∧ (g.2 == 0) = false) ∨ (rightB a = true ∧ (g.2 == 0) = true ∧ (g.1 != a) = false) := by
    cases hr : rightB a <;> cases hg : (g.2 == 0) <;> simp_all
  clear hR' hP'
  have H1 : ∀ (v : Value) (w0 w4 : World), w4.ownsRow w0.heap.size 22 1 v (eachL a 5).length ((eachL a 5).map (Value.int .u8)) → ∃ a0 cp, v = .slice a0 (eachL a 5).length cp ∧ ∀ j, j < (eachL a 5).length → ∃ g, a0 = some ⟨g, 0, none⟩ ∧ w4.cell? ⟨g, j, none⟩ = some (.int .u8 ((eachL a 5)[j]?.getD 0)) := by
    intro v w0 w4 hown
    rcases hown.2 with ⟨rfl, hn⟩ | ⟨g, cap, cur, rfl, hg, hgg, hcap, _⟩
    · exact ⟨none, 0, by rw [hn], fun j hj => by omega⟩
    · exact ⟨_, _, rfl, fun j hj => ⟨g, rfl, cell_of_own hown j _ (by simp [hj])⟩⟩
  have H2 := Lib.hid H1
  clear H1
  rcases hcases with ⟨hr, hg⟩ | ⟨hr, hg, hga⟩
  all_goals
    go_wp2_with (first
      | (go_at_call 10; refine (Right_any _ _).mono ?_; rintro e w1 ⟨rfl, rfl⟩)
      | (go_at_call 22; refine (Each_any a _).mono ?_; rintro e w4 ⟨v, rfl, hown, hb6⟩))
    obtain ⟨a0, cp, rfl, hcell⟩ := H2.out v w3 w4 hown
    have hb7 := hb5.trans (hb6.mono hb5.size)
    clear hown H2 hb5 hb6
    generalize hll : eachL a 5 = l at *
    have HLL := Lib.hid hll
    clear hll
    go_loopw [8, 10] (fun x i wr => ∃ k : Nat, k ≤ l.length ∧ i = .int .i64 k ∧ x = .int .u8 (allF a k) ∧ ∃ n, wr = w4.drewN n) (fun _ i _ => l.length - (intOf i).toNat)
    case atStart => exact ⟨0, by omega, rfl, rfl, 0, rfl⟩
    case round =>
      obtain ⟨k, hk, rfl, rfl, n, rfl⟩ := hrel
      by_cases hlt : k < l.length
      · obtain ⟨g1, rfl, hc1⟩ := hcell k hlt
        have hlt' : (k : Int) < l.length := by omega
        have hk2 := List.all_eq_true.1 HL.out k (List.mem_range.2 hlt)
        simp only [Bool.and_eq_true, decide_eq_true_eq, beq_iff_eq] at hk2
        obtain ⟨⟨⟨⟨q1, q2⟩, q3⟩, q4⟩, q5⟩ := hk2
        have hx : allF a (k + 1) = orF (allF a k) (l[k]?.getD 0) := by rw [allF, HLL.out]
        have HX := Lib.hid hx
        clear hcell hx
        have hget : l[k]?.getD 0 = l[k] := by simp [hlt]
        rw [hget] at q1 q2 q3 q4 q5
        clear hget
        go_wp2
        go_quiet (fail)
        go_wp2_with (go_at_call 13; refine (Join_any _ _ _).mono ?_; rintro e w1 ⟨rfl, rfl⟩)
        go_roundw
        case rel => exact ⟨k + 1, by omega, by go_num, by rw [HX.out]; simp [hlt], n + nq, rfl⟩
        case measure => simp [intOf]; omega
      · obtain rfl : k = l.length := by omega
        clear hcell
        have hA := HA.out
        have hb8 : Below w.heap.size w (w4.drewN n) := hb7.trans (below_drewN _ _ _)
        rcases HPS.out with ⟨x, p1, p2⟩ | p1
        all_goals
          have P1 := Lib.hid p1
          clear p1
          go_wp2_with (first
            | (go_at_call 14; refine (Meet_any _ _ _).mono ?_; rintro e w1 ⟨rfl, rfl⟩)
            | (go_at_call 19; refine (Parse_any s _).mono ?_; rintro e w5 ⟨rfl, hb9⟩; rw [P1.out])
            | (go_at_call 24; refine (Show_any _ _).mono ?_; rintro e w6 ⟨rfl, hb10⟩))
          go_ret
          first
            | exact ⟨rfl, (hb8.trans (hb9.mono hb8.size)).trans (hb10.mono (hb8.trans (hb9.mono hb8.size)).size)⟩
            | exact ⟨rfl, hb8.trans (hb9.mono hb8.size)⟩

theorem Back_walk (a : Int) (s : ByteArray) (w : World) (ha : 0 ≤ a ∧ a ≤ 255) (_ : s.size ≤ maxLen) : Calls Try.prog 6 #[.int .u8 a, .string s] w (SamePost w) :=
  Back_law a s w ha.1 (by omega)
end Go.Proofs.Ytihdnjgjjhhpgaa
