/- The walks of the laws on texts of flags. -/
import Derived.Test.YtihdnjgjjhhpgaaFlH
namespace Go.Proofs.Ytihdnjgjjhhpgaa
open Go.RowKit

theorem ownsRow_below {w w' : World} {B : Nat} {e : TypeId} {s : Nat} {v : Value} {n : Nat} {xs : List Value} (h : w.ownsRow B e s v n xs) (hb : Below w.heap.size w w') : w'.ownsRow B e s v n xs :=
  h.kept (gb_below hb none) (by cases v.ownBlock <;> simp)

theorem each_same (a : Int) (h0 : 0 ≤ a) (h1 : a < 256) : eachL a 5 = reachL a 5 :=
  u8_all (p := fun a => eachL a 5 = reachL a 5) (by decide +kernel) a h0 h1
theorem show_same (a : Int) (h0 : 0 ≤ a) (h1 : a < 256) : showF a = refShowF a :=
  u8_all (p := fun a => showF a = refShowF a) (by decide +kernel) a h0 h1
theorem parse_same (s : ByteArray) : refParseF s = parseF s := by
  have key : ∀ d k : Nat, d + k ≤ 32 → refParseGo s d k = parseGo s d k := by
    intro d
    induction d with
    | zero => intro k _; rfl
    | succ d ih =>
      intro k hk
      rw [refParseGo, parseGo, ← show_same k (by omega) (by omega), ih (k + 1) (by omega)]
  exact key 32 0 (by omega)

theorem show_eq_self (a : Int) : ((showF a).toList == (showF a).toList) = true := by simp

set_option maxRecDepth 100000 in
set_option maxHeartbeats 2000000 in
theorem Texts_law (a : Int) (s : ByteArray) (w : World) (a0 : 0 ≤ a) (a1 : a < 256) :
    Calls Try.prog 5 #[.int .u8 a, .string s] w (SamePost w) := by
  have k1 := each_same a a0 a1
  have k2 := show_same a a0 a1
  have k3 := parse_same s
  have K1 := Lib.hid k1
  have K2 := Lib.hid k2
  have K3 := Lib.hid k3
  have hl := eachL_le a 5
  clear k1 k2 k3 a0 a1
  go_enter Try.func5, Try.ntmps5
  go_wp2_with fail
  refine (Parse_any s _).mono ?_
  rintro e w1 ⟨rfl, hb1⟩
  go_wp2_with fail
  refine (refParse_any s _).mono ?_
  rintro e w2 ⟨rfl, hb2⟩
  rw [K3.out]
  have hb3 := hb1.trans (hb2.mono hb1.size)
  clear hb1 hb2
  generalize parseF s = g
  go_wp2_with fail
  refine (Each_any a _).mono ?_
  rintro e w3 ⟨v1, rfl, ho1, hb4⟩
  have hb5 := hb3.trans (hb4.mono hb3.size)
  clear hb3 hb4
  go_wp2_with fail
  refine (refEach_any a _).mono ?_
  rintro e w4 ⟨v2, rfl, ho2, hb6⟩
  rw [← K1.out] at ho2
  have ho3 := ownsRow_below ho1 hb6
  have hb7 := hb5.trans (hb6.mono hb5.size)
  clear hb5 hb6 ho1
  go_wp2_with fail
  refine (refFlags_same v1 v2 (eachL a 5) _ ho3 ho2 (by omega)).mono ?_
  rintro e w5 ⟨rfl, hb8⟩
  have hb9 := hb7.trans (hb8.mono hb7.size)
  clear hb7 hb8 ho2 ho3
  go_wp2_with fail
  refine (Show_any a _).mono ?_
  rintro e w6 ⟨rfl, hb10⟩
  have hb11 := hb9.trans (hb10.mono hb9.size)
  clear hb9 hb10
  go_wp2_with fail
  refine (refShow_any a _).mono ?_
  rintro e w7 ⟨rfl, hb12⟩
  have hb13 := hb11.trans (hb12.mono hb11.size)
  clear hb11 hb12
  rw [← K2.out]
  have ks := show_eq_self a
  go_wp2_with (go_at_call 18; refine (begins_any _).mono ?_; rintro e w8 ⟨rfl, hb14⟩)
  go_ret
  exact ⟨rfl, hb13.trans (hb14.mono hb13.size)⟩

theorem Texts_walk (a : Int) (s : ByteArray) (w : World) (ha : 0 ≤ a ∧ a ≤ 255) (_ : s.size ≤ maxLen) : Calls Try.prog 5 #[.int .u8 a, .string s] w (SamePost w) :=
  Texts_law a s w ha.1 (by omega)
end Go.Proofs.Ytihdnjgjjhhpgaa
