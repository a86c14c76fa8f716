/- Contracts of the environment's methods. An environment lies in block b: its flags at 0, its errno at 1. -/
import Derived.Test.YtihdnjgjjhhpgaaFlC
namespace Go.Proofs.Ytihdnjgjjhhpgaa
open Go.RowKit

/-- An environment in a block of its own. -/
def EnvAt (w : World) (b : Nat) (f m : Int) : Prop := w.heap[b]? = some (.cells #[.int .u8 f, .int .u8 m] 65 (0, 0))
theorem EnvAt.c0 {w : World} {b : Nat} {f m : Int} (h : EnvAt w b f m) : w.cell? ⟨b, 0, none⟩ = some (.int .u8 f) := by
  unfold EnvAt at h; simp [World.cell?, h]
theorem EnvAt.c1 {w : World} {b : Nat} {f m : Int} (h : EnvAt w b f m) : w.cell? ⟨b, 1, none⟩ = some (.int .u8 m) := by
  unfold EnvAt at h; simp [World.cell?, h]
theorem EnvAt.f0 {w : World} {b : Nat} {f m : Int} (h : EnvAt w b f m) (o : Nat) : w.frozen? ⟨b, o, none⟩ = false := by
  unfold EnvAt at h; simp [World.frozen?, h]
theorem EnvAt.lt {w : World} {b : Nat} {f m : Int} (h : EnvAt w b f m) : b < w.heap.size := (Array.getElem?_eq_some_iff.1 h).1
theorem EnvAt.below {w w' : World} {B b : Nat} {f m : Int} (h : EnvAt w b f m) (hb : Below B w w') (hlt : b < B) : EnvAt w' b f m := by
  unfold EnvAt; rw [hb.block b hlt]; exact h

theorem heap_setCell_at {w : World} {b : Nat} {cur : Array Value} {e : TypeId} {fz : Nat × Nat} (h : w.heap[b]? = some (.cells cur e fz)) (o : Nat) (v : Value) :
    (w.setCell ⟨b, o, none⟩ v).heap[b]? = some (.cells (cur.setIfInBounds o v) e fz) := by
  simp [World.setCell, Array.getElem?_modify, h]
theorem EnvAt.s0 {w : World} {b : Nat} {f m : Int} (h : EnvAt w b f m) (f' : Int) : EnvAt (w.setCell ⟨b, 0, none⟩ (.int .u8 f')) b f' m := by
  unfold EnvAt at *; rw [heap_setCell_at h]; rfl
theorem EnvAt.s1 {w : World} {b : Nat} {f m : Int} (h : EnvAt w b f m) (m' : Int) : EnvAt (w.setCell ⟨b, 1, none⟩ (.int .u8 m')) b f m' := by
  unfold EnvAt at *; rw [heap_setCell_at h]; rfl
theorem EnvAt.drewN {w : World} {b : Nat} {f m : Int} (h : EnvAt w b f m) (n : Nat) : EnvAt (w.drewN n) b f m := h
theorem EnvAt.gb {w w' : World} {b r : Nat} {f m : Int} (h : EnvAt w b f m) (hg : w.grownBy w' (some r)) (hne : b ≠ r) : EnvAt w' b f m := by
  unfold EnvAt; rw [hg.block b h.lt (fun e => hne (by injection e))]; exact h

set_option maxHeartbeats 400000 in
theorem New_any (w : World) :
    Calls Try.prog 26 #[] w fun e w' => e = .returned (.pointer (some ⟨w.heap.size, 0, none⟩)) ∧ EnvAt w' w.heap.size 0 0 ∧ Below w.heap.size w w' := by
  go_enter Try.func26, Try.ntmps26
  go_wp2
  go_ret
  exact ⟨rfl, heap_alloc_new w _, (Below.refl _ _).alloc (Nat.le_refl _) _⟩

set_option maxHeartbeats 400000 in
theorem wrong_any (b : Nat) (a : Int) (w : World) :
    Calls Try.prog 46 #[.pointer (some ⟨b, 0, none⟩), .int .u8 a] w fun e w' => e = .returned (.int .i64 (if rightB a = true then 0 else 20)) ∧ w = w' := by
  cases h : rightB a
  all_goals
    go_enter Try.func46, Try.ntmps46
    go_wp2_with (go_at_call 10; refine (Right_any _ _).mono ?_; rintro e w1 ⟨rfl, rfl⟩)
    go_ret
    exact ⟨rfl, rfl⟩

def okSel (a : Int) (x y : Int) : Int := if rightB a = true then x else y
theorem okSel_t {a : Int} (h : rightB a = true) (x y : Int) : okSel a x y = x := by rw [okSel, if_pos h]
theorem okSel_f {a : Int} (h : rightB a = false) (x y : Int) : okSel a x y = y := by rw [okSel, if_neg (by rw [h]; exact Bool.false_ne_true)]
def raiseM (a m : Int) : Int := if (mathF a == 0) = true then m else mathF a
theorem raiseM_t {a : Int} (h : (mathF a == 0) = true) (m : Int) : raiseM a m = m := by rw [raiseM, if_pos h]
theorem raiseM_f {a : Int} (h : (mathF a == 0) = false) (m : Int) : raiseM a m = mathF a := by rw [raiseM, if_neg (by rw [h]; exact Bool.false_ne_true)]
/-- What a method that answers an error leaves. -/
def RaisePost (b : Nat) (f m a : Int) (w : World) (e : Ending) (w' : World) : Prop :=
  e = .returned (.int .i64 (okSel a 0 20)) ∧ EnvAt w' b (okSel a (orF f a) f) (okSel a (raiseM a m) m) ∧ w.grownBy w' (some b)

set_option maxHeartbeats 1000000 in
theorem Raise_any (b : Nat) (f m a : Int) (w : World) (he : EnvAt w b f m) :
    Calls Try.prog 27 #[.pointer (some ⟨b, 0, none⟩), .int .u8 a] w (RaisePost b f m a w) := by
  have c0 := he.c0
  have c1 := he.c1
  have f0 := he.f0 0
  have f1 := he.f0 1
  cases hr : rightB a
  · go_enter Try.func27, Try.ntmps27
    go_wp2_with (go_at_call 46; refine (wrong_any _ _ _).mono ?_; rintro e w1 ⟨rfl, rfl⟩; rw [if_neg (by rw [hr]; exact Bool.false_ne_true)])
    go_ret
    exact ⟨by rw [okSel_f hr]; rfl, by simp only [okSel_f hr]; exact he, gb_refl _ _⟩
  cases hm : (mathF a == 0)
  · have hm' : (mathF a != 0) = true := by simpa using hm
    go_enter Try.func27, Try.ntmps27
    go_wp2_with (first
      | (go_at_call 46; refine (wrong_any _ _ _).mono ?_; rintro e w1 ⟨rfl, rfl⟩; rw [if_pos hr])
      | (go_at_call 13; refine (Join_any _ _ _).mono ?_; rintro e w1 ⟨rfl, rfl⟩)
      | (go_at_call 16; refine (Math_any _ _).mono ?_; rintro e w1 ⟨rfl, rfl⟩))
    go_ret
    exact ⟨by rw [okSel_t hr]; rfl, by simp only [okSel_t hr, raiseM_f hm]; exact (he.s0 _).s1 _, gb_trans (gb_set _ _ _ _ _) (gb_set _ _ _ _ _)⟩
  · have hm' : (mathF a != 0) = false := by simpa using hm
    go_enter Try.func27, Try.ntmps27
    go_wp2_with (first
      | (go_at_call 46; refine (wrong_any _ _ _).mono ?_; rintro e w1 ⟨rfl, rfl⟩; rw [if_pos hr])
      | (go_at_call 13; refine (Join_any _ _ _).mono ?_; rintro e w1 ⟨rfl, rfl⟩)
      | (go_at_call 16; refine (Math_any _ _).mono ?_; rintro e w1 ⟨rfl, rfl⟩))
    go_ret
    exact ⟨by rw [okSel_t hr]; rfl, by simp only [okSel_t hr, raiseM_t hm]; exact he.s0 _, gb_set _ _ _ _ _⟩

def ClearPost (g : Int) (b : Nat) (f m a : Int) (w : World) (e : Ending) (w' : World) : Prop :=
  e = .returned (.int .i64 (okSel a 0 20)) ∧ EnvAt w' b (okSel a g f) m ∧ w.grownBy w' (some b)

set_option maxHeartbeats 1000000 in
theorem Clear_any (b : Nat) (f m a : Int) (w : World) (he : EnvAt w b f m) :
    Calls Try.prog 28 #[.pointer (some ⟨b, 0, none⟩), .int .u8 a] w (ClearPost (takeF f a) b f m a w) := by
  have c0 := he.c0
  have f0 := he.f0 0
  cases hr : rightB a
  · go_enter Try.func28, Try.ntmps28
    go_wp2_with (go_at_call 46; refine (wrong_any _ _ _).mono ?_; rintro e w1 ⟨rfl, rfl⟩; rw [if_neg (by rw [hr]; exact Bool.false_ne_true)])
    go_ret
    exact ⟨by rw [okSel_f hr]; rfl, by simp only [okSel_f hr]; exact he, gb_refl _ _⟩
  · go_enter Try.func28, Try.ntmps28
    go_wp2_with (first
      | (go_at_call 46; refine (wrong_any _ _ _).mono ?_; rintro e w1 ⟨rfl, rfl⟩; rw [if_pos hr])
      | (go_at_call 15; refine (Take_any _ _ _).mono ?_; rintro e w1 ⟨rfl, rfl⟩))
    go_ret
    exact ⟨by rw [okSel_t hr]; rfl, by simp only [okSel_t hr]; exact he.s0 _, gb_set _ _ _ _ _⟩

set_option maxHeartbeats 1000000 in
theorem Set_any (b : Nat) (f m a : Int) (w : World) (he : EnvAt w b f m) :
    Calls Try.prog 50 #[.pointer (some ⟨b, 0, none⟩), .int .u8 a] w (ClearPost a b f m a w) := by
  have c0 := he.c0
  have f0 := he.f0 0
  cases hr : rightB a
  · go_enter Try.func50, Try.ntmps50
    go_wp2_with (go_at_call 46; refine (wrong_any _ _ _).mono ?_; rintro e w1 ⟨rfl, rfl⟩; rw [if_neg (by rw [hr]; exact Bool.false_ne_true)])
    go_ret
    exact ⟨by rw [okSel_f hr]; rfl, by simp only [okSel_f hr]; exact he, gb_refl _ _⟩
  · go_enter Try.func50, Try.ntmps50
    go_wp2_with (go_at_call 46; refine (wrong_any _ _ _).mono ?_; rintro e w1 ⟨rfl, rfl⟩; rw [if_pos hr])
    go_ret
    exact ⟨by rw [okSel_t hr]; rfl, by simp only [okSel_t hr]; exact he.s0 _, gb_set _ _ _ _ _⟩

set_option maxHeartbeats 1000000 in
theorem Update_any (b : Nat) (f m a : Int) (w : World) (he : EnvAt w b f m) :
    Calls Try.prog 31 #[.pointer (some ⟨b, 0, none⟩), .int .u8 a] w (ClearPost (orF f a) b f m a w) := by
  have c0 := he.c0
  have f0 := he.f0 0
  cases hr : rightB a
  · go_enter Try.func31, Try.ntmps31
    go_wp2_with (go_at_call 46; refine (wrong_any _ _ _).mono ?_; rintro e w1 ⟨rfl, rfl⟩; rw [if_neg (by rw [hr]; exact Bool.false_ne_true)])
    go_ret
    exact ⟨by rw [okSel_f hr]; rfl, by simp only [okSel_f hr]; exact he, gb_refl _ _⟩
  · go_enter Try.func31, Try.ntmps31
    go_wp2_with (first
      | (go_at_call 46; refine (wrong_any _ _ _).mono ?_; rintro e w1 ⟨rfl, rfl⟩; rw [if_pos hr])
      | (go_at_call 13; refine (Join_any _ _ _).mono ?_; rintro e w1 ⟨rfl, rfl⟩))
    go_ret
    exact ⟨by rw [okSel_t hr]; rfl, by simp only [okSel_t hr]; exact he.s0 _, gb_set _ _ _ _ _⟩

def TestPost (f a : Int) (w : World) (e : Ending) (w' : World) : Prop :=
  e = .returned (.tuple #[.int .u8 (okSel a (andF f a) 0), .int .i64 (okSel a 0 20)]) ∧ w = w'

set_option maxHeartbeats 1000000 in
theorem Test_any (b : Nat) (f m a : Int) (w : World) (he : EnvAt w b f m) :
    Calls Try.prog 29 #[.pointer (some ⟨b, 0, none⟩), .int .u8 a] w (TestPost f a w) := by
  have c0 := he.c0
  cases hr : rightB a
  · go_enter Try.func29, Try.ntmps29
    go_wp2_with (go_at_call 46; refine (wrong_any _ _ _).mono ?_; rintro e w1 ⟨rfl, rfl⟩; rw [if_neg (by rw [hr]; exact Bool.false_ne_true)])
    go_ret2
    exact ⟨by rw [okSel_f hr, okSel_f hr]; rfl, rfl⟩
  · go_enter Try.func29, Try.ntmps29
    go_wp2_with (first
      | (go_at_call 46; refine (wrong_any _ _ _).mono ?_; rintro e w1 ⟨rfl, rfl⟩; rw [if_pos hr])
      | (go_at_call 14; refine (Meet_any _ _ _).mono ?_; rintro e w1 ⟨rfl, rfl⟩))
    go_ret2
    exact ⟨by rw [okSel_t hr, okSel_t hr]; rfl, rfl⟩

def HoldPost (b : Nat) (f m : Int) (w : World) (e : Ending) (w' : World) : Prop :=
  e = .returned (.tuple #[.int .u8 f, .int .i64 0]) ∧ EnvAt w' b 0 m ∧ w.grownBy w' (some b)

set_option maxHeartbeats 1000000 in
theorem Hold_any (b : Nat) (f m : Int) (w : World) (he : EnvAt w b f m) :
    Calls Try.prog 30 #[.pointer (some ⟨b, 0, none⟩)] w (HoldPost b f m w) := by
  have c0 := he.c0
  have f0 := he.f0 0
  go_enter Try.func30, Try.ntmps30
  go_wp2
  go_ret2
  exact ⟨rfl, he.s0 _, gb_set _ _ _ _ _⟩

set_option maxHeartbeats 1000000 in
theorem EnvMath_any (b : Nat) (f m : Int) (w : World) (he : EnvAt w b f m) :
    Calls Try.prog 42 #[.pointer (some ⟨b, 0, none⟩)] w fun e w' => e = .returned (.int .u8 m) ∧ w = w' := by
  have c1 := he.c1
  go_enter Try.func42, Try.ntmps42
  go_wp2
  go_ret
  exact ⟨rfl, rfl⟩

def ForgetPost (b : Nat) (f : Int) (w : World) (e : Ending) (w' : World) : Prop :=
  e = .returned (.tuple #[]) ∧ EnvAt w' b f 0 ∧ w.grownBy w' (some b)
set_option maxHeartbeats 1000000 in
theorem Forget_any (b : Nat) (f m : Int) (w : World) (he : EnvAt w b f m) :
    Calls Try.prog 51 #[.pointer (some ⟨b, 0, none⟩)] w (ForgetPost b f w) := by
  have c1 := he.c1
  have f1 := he.f0 1
  go_enter Try.func51, Try.ntmps51
  go_wp2
  go_end0
  exact ⟨rfl, he.s1 _, gb_set _ _ _ _ _⟩

def CopyPost (f m : Int) (w : World) (e : Ending) (w' : World) : Prop :=
  ∃ n, e = .returned (.pointer (some ⟨n, 0, none⟩)) ∧ w.heap.size ≤ n ∧ EnvAt w' n f m ∧ Below w.heap.size w w'
set_option maxHeartbeats 1000000 in
theorem Copy_any (b : Nat) (f m : Int) (w : World) (he : EnvAt w b f m) :
    Calls Try.prog 32 #[.pointer (some ⟨b, 0, none⟩)] w (CopyPost f m w) := by
  have c0 := he.c0
  have c1 := he.c1
  go_enter Try.func32, Try.ntmps32
  go_wp2
  go_region
  all_goals (try go_wp2)
  all_goals go_ret
  all_goals exact ⟨_, rfl, Nat.le_refl _, heap_alloc_new _ _, by first | exact ((Below.refl _ _).drew).alloc (Nat.le_refl _) _ | exact ((Below.refl _ _).alloc (Nat.le_refl _) _).drew⟩

/-- What a step of the code does: the answer, and the environment behind it. -/
def doVal (k a f : Int) : Int := if (k == 2) = true then okSel a (andF f a) 0 else if (k == 4) = true then f else 0
def doErr (k a : Int) : Int :=
  if (k == 1) = true then okSel a 0 20 else if (k == 2) = true then okSel a 0 20 else if (k == 3) = true then okSel a 0 20 else if (k == 4) = true then 0 else if (k == 5) = true then okSel a 0 20
  else if (k == 6) = true then okSel a 0 20 else if (k == 7) = true then 0 else 2
def doFl (k a f : Int) : Int :=
  if (k == 1) = true then okSel a (orF f a) f else if (k == 2) = true then f else if (k == 3) = true then okSel a (takeF f a) f else if (k == 4) = true then 0 else if (k == 5) = true then okSel a a f
  else if (k == 6) = true then okSel a (orF f a) f else f
def doMa (k a m : Int) : Int := if (k == 1) = true then okSel a (raiseM a m) m else if (k == 7) = true then 0 else m
def DoPost (b : Nat) (f m k a : Int) (w : World) (e : Ending) (w' : World) : Prop :=
  e = .returned (.tuple #[.int .u8 (doVal k a f), .int .i64 (doErr k a)]) ∧ EnvAt w' b (doFl k a f) (doMa k a m) ∧ w.grownBy w' (some b)
end Go.Proofs.Ytihdnjgjjhhpgaa
