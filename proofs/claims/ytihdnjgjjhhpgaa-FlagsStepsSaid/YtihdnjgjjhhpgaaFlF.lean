/- Contracts of the reference's steps, and of the law's same. -/
import Derived.Test.YtihdnjgjjhhpgaaFlE
namespace Go.Proofs.Ytihdnjgjjhhpgaa
open Go.RowKit

theorem u8_all {p : Int → Prop} (h : ∀ n : Fin 256, p ((n.val : Nat) : Int)) (a : Int) (h0 : 0 ≤ a) (h1 : a < 256) : p a := by
  have := h ⟨a.toNat, by omega⟩
  simpa [Int.toNat_of_nonneg h0] using this
theorem rightB_u8 (a : Int) (h0 : 0 ≤ a) (h1 : a < 256) : rightB a = decide (a ≤ 31) :=
  u8_all (p := fun a => rightB a = decide (a ≤ 31)) (by decide +kernel) a h0 h1
theorem refMath_u8 (a : Int) (h0 : 0 ≤ a) (h1 : a < 256) : refMathF a = mathF a :=
  u8_all (p := fun a => refMathF a = mathF a) (by decide +kernel) a h0 h1

theorem below3 (w : World) (a b c : Obj) : Below w.heap.size w (((w.alloc a).alloc b).alloc c) :=
  (((Below.refl _ _).alloc (Nat.le_refl _) _).alloc (by simp) _).alloc (by simp; omega) _

def AggPost (v : Value) (w : World) (e : Ending) (w' : World) : Prop := e = .returned v ∧ Below w.heap.size w w'

set_option maxHeartbeats 1000000 in
theorem refRaise_any (f m a : Int) (w : World) (h0 : 0 ≤ a) (h1 : a < 256) :
    Calls Try.prog 47 #[.agg #[.int .u8 f, .int .u8 m], .int .u8 a] w (AggPost (.agg #[.int .u8 (orF f a), .int .u8 (raiseM a m)]) w) := by
  have hM := refMath_u8 a h0 h1
  have HM := Lib.hid hM
  clear hM
  cases hm : (refMathF a == 0)
  · have hm' : (refMathF a != 0) = true := by simpa using hm
    have hm2 : (mathF a == 0) = false := by rw [← HM.out]; exact hm
    have H2 := Lib.hid hm2
    clear hm2
    go_enter Try.func47, Try.ntmps47
    go_wp2_with (go_at_call 17; refine (refMath_any _ _).mono ?_; rintro e w1 ⟨rfl, rfl⟩)
    refine bodyPost_ret (v := .agg #[.int .u8 (orF f a), .int .u8 (refMathF a)]) (by simp [results, Try.results47, go_sem]; rfl) rfl ⟨by rw [raiseM_f H2.out, HM.out], ?_⟩
    exact ((Below.refl _ _).alloc (Nat.le_refl _) _).alloc (by simp) _
  · have hm' : (refMathF a != 0) = false := by simpa using hm
    have hm2 : (mathF a == 0) = true := by rw [← HM.out]; exact hm
    have H2 := Lib.hid hm2
    clear hm2
    go_enter Try.func47, Try.ntmps47
    go_wp2_with (go_at_call 17; refine (refMath_any _ _).mono ?_; rintro e w1 ⟨rfl, rfl⟩)
    refine bodyPost_ret (v := .agg #[.int .u8 (orF f a), .int .u8 m]) (by simp [results, Try.results47, go_sem]; rfl) rfl ⟨by rw [raiseM_t H2.out], ?_⟩
    exact ((Below.refl _ _).alloc (Nat.le_refl _) _).alloc (by simp) _

set_option maxHeartbeats 1000000 in
theorem refClear_any (f m a : Int) (w : World) :
    Calls Try.prog 48 #[.agg #[.int .u8 f, .int .u8 m], .int .u8 a] w (AggPost (.agg #[.int .u8 (takeF f a), .int .u8 m]) w) := by
  go_enter Try.func48, Try.ntmps48
  go_wp2
  refine bodyPost_ret (v := .agg #[.int .u8 (takeF f a), .int .u8 m]) (by simp [results, Try.results48, go_sem]; rfl) rfl ⟨rfl, ?_⟩
  exact ((Below.refl _ _).alloc (Nat.le_refl _) _).alloc (by simp) _

set_option maxRecDepth 100000 in
set_option maxHeartbeats 2000000 in
theorem refDo_1 (f m a : Int) (w : World) (h0 : 0 ≤ a) (h1 : a < 256) :
    Calls Try.prog 33 #[.agg #[.int .u8 f, .int .u8 m], .agg #[.int .u8 1, .int .u8 a]] w
      (AggPost (.tuple #[.agg #[.int .u8 (doFl 1 a f), .int .u8 (doMa 1 a m)], .int .u8 (doVal 1 a f), .int .i64 (doErr 1 a)]) w) := by
  have hr := rightB_u8 a h0 h1
  have Hr := Lib.hid hr
  clear hr
  have Be := ((Blk.new w #[.int .u8 f, .int .u8 m] 45).alloc (.cells #[.int .u8 1, .int .u8 a] 50)).alloc (.cells #[.int .u8 0, .int .u8 0] 45)
  have Bo := Blk.new ((w.alloc (.cells #[.int .u8 f, .int .u8 m] 45)).alloc (.cells #[.int .u8 1, .int .u8 a] 50)) #[.int .u8 0, .int .u8 0] 45
  by_cases h31 : a ≤ 31
  · have hb : decide (a ≤ 31) = true := decide_eq_true h31
    have rb : rightB a = true := by rw [Hr.out]; exact hb
    have Rb := Lib.hid rb
    clear rb
    go_enter Try.func33, Try.ntmps33
    go_wp2_with (first
          | (go_at_call 11; refine (refRight_any _ _).mono ?_; rintro e w1 ⟨rfl, rfl⟩)
          | (go_at_call 47; refine (refRaise_any _ _ _ _ h0 h1).mono ?_; rintro e w1 ⟨rfl, hb1⟩; have Be1 := Be.call hb1; have Bo1 := Bo.call hb1; have e0 := Be1.cell 0 _ rfl; have e1 := Be1.cell 1 _ rfl; have ef0 := Be1.free 0; have ef1 := Be1.free 1; have o0 := Bo1.cell 0 _ rfl; have o1 := Bo1.cell 1 _ rfl; have of0 := Bo1.free 0; have of1 := Bo1.free 1; simp only [World.size_alloc] at o0 o1 of0 of1)
          | (go_at_call 48; refine (refClear_any _ _ _ _).mono ?_; rintro e w1 ⟨rfl, hb1⟩; have Be1 := Be.call hb1; have Bo1 := Bo.call hb1; have e0 := Be1.cell 0 _ rfl; have e1 := Be1.cell 1 _ rfl; have ef0 := Be1.free 0; have ef1 := Be1.free 1; have o0 := Bo1.cell 0 _ rfl; have o1 := Bo1.cell 1 _ rfl; have of0 := Bo1.free 0; have of1 := Bo1.free 1; simp only [World.size_alloc] at o0 o1 of0 of1))
    refine bodyPost_ret (v := .tuple #[.agg #[.int .u8 (orF f a), .int .u8 (raiseM a m)], .int .u8 (0), .int .i64 0]) (by simp [results, Try.results33, go_sem, o0, o1]; try rfl) rfl ⟨?_, ?_⟩
    · show _ = Ending.returned (.tuple #[.agg #[.int .u8 (okSel a (orF f a) f), .int .u8 (okSel a (raiseM a m) m)], .int .u8 (0), .int .i64 (okSel a 0 20)])
      simp only [okSel_t Rb.out]
    · exact (((((below3 _ _ _ _).trans (hb1.mono (by simp; omega))).setCell (Nat.le_refl _) _).setCell (Nat.le_refl _) _).setCell (show w.heap.size ≤ w.heap.size + 1 + 1 by omega) _).setCell (show w.heap.size ≤ w.heap.size + 1 + 1 by omega) _
  · have hb : decide (a ≤ 31) = false := decide_eq_false h31
    have rb : rightB a = false := by rw [Hr.out]; exact hb
    have Rb := Lib.hid rb
    clear rb
    go_enter Try.func33, Try.ntmps33
    go_wp2_with (first
          | (go_at_call 11; refine (refRight_any _ _).mono ?_; rintro e w1 ⟨rfl, rfl⟩)
          | (go_at_call 47; refine (refRaise_any _ _ _ _ h0 h1).mono ?_; rintro e w1 ⟨rfl, hb1⟩; have Be1 := Be.call hb1; have Bo1 := Bo.call hb1; have e0 := Be1.cell 0 _ rfl; have e1 := Be1.cell 1 _ rfl; have ef0 := Be1.free 0; have ef1 := Be1.free 1; have o0 := Bo1.cell 0 _ rfl; have o1 := Bo1.cell 1 _ rfl; have of0 := Bo1.free 0; have of1 := Bo1.free 1; simp only [World.size_alloc] at o0 o1 of0 of1)
          | (go_at_call 48; refine (refClear_any _ _ _ _).mono ?_; rintro e w1 ⟨rfl, hb1⟩; have Be1 := Be.call hb1; have Bo1 := Bo.call hb1; have e0 := Be1.cell 0 _ rfl; have e1 := Be1.cell 1 _ rfl; have ef0 := Be1.free 0; have ef1 := Be1.free 1; have o0 := Bo1.cell 0 _ rfl; have o1 := Bo1.cell 1 _ rfl; have of0 := Bo1.free 0; have of1 := Bo1.free 1; simp only [World.size_alloc] at o0 o1 of0 of1))
    refine bodyPost_ret (v := .tuple #[.agg #[.int .u8 (f), .int .u8 (m)], .int .u8 (0), .int .i64 20]) (by simp [results, Try.results33, go_sem]; try rfl) rfl ⟨?_, ?_⟩
    · show _ = Ending.returned (.tuple #[.agg #[.int .u8 (okSel a (orF f a) f), .int .u8 (okSel a (raiseM a m) m)], .int .u8 (0), .int .i64 (okSel a 0 20)])
      simp only [okSel_f Rb.out]
    · exact below3 _ _ _ _

set_option maxRecDepth 100000 in
set_option maxHeartbeats 2000000 in
theorem refDo_2 (f m a : Int) (w : World) (h0 : 0 ≤ a) (h1 : a < 256) :
    Calls Try.prog 33 #[.agg #[.int .u8 f, .int .u8 m], .agg #[.int .u8 2, .int .u8 a]] w
      (AggPost (.tuple #[.agg #[.int .u8 (doFl 2 a f), .int .u8 (doMa 2 a m)], .int .u8 (doVal 2 a f), .int .i64 (doErr 2 a)]) w) := by
  have hr := rightB_u8 a h0 h1
  have Hr := Lib.hid hr
  clear hr
  have Be := ((Blk.new w #[.int .u8 f, .int .u8 m] 45).alloc (.cells #[.int .u8 2, .int .u8 a] 50)).alloc (.cells #[.int .u8 0, .int .u8 0] 45)
  have Bo := Blk.new ((w.alloc (.cells #[.int .u8 f, .int .u8 m] 45)).alloc (.cells #[.int .u8 2, .int .u8 a] 50)) #[.int .u8 0, .int .u8 0] 45
  by_cases h31 : a ≤ 31
  · have hb : decide (a ≤ 31) = true := decide_eq_true h31
    have rb : rightB a = true := by rw [Hr.out]; exact hb
    have Rb := Lib.hid rb
    clear rb
    go_enter Try.func33, Try.ntmps33
    go_wp2_with (first
          | (go_at_call 11; refine (refRight_any _ _).mono ?_; rintro e w1 ⟨rfl, rfl⟩)
          | (go_at_call 47; refine (refRaise_any _ _ _ _ h0 h1).mono ?_; rintro e w1 ⟨rfl, hb1⟩; have Be1 := Be.call hb1; have Bo1 := Bo.call hb1; have e0 := Be1.cell 0 _ rfl; have e1 := Be1.cell 1 _ rfl; have ef0 := Be1.free 0; have ef1 := Be1.free 1; have o0 := Bo1.cell 0 _ rfl; have o1 := Bo1.cell 1 _ rfl; have of0 := Bo1.free 0; have of1 := Bo1.free 1; simp only [World.size_alloc] at o0 o1 of0 of1)
          | (go_at_call 48; refine (refClear_any _ _ _ _).mono ?_; rintro e w1 ⟨rfl, hb1⟩; have Be1 := Be.call hb1; have Bo1 := Bo.call hb1; have e0 := Be1.cell 0 _ rfl; have e1 := Be1.cell 1 _ rfl; have ef0 := Be1.free 0; have ef1 := Be1.free 1; have o0 := Bo1.cell 0 _ rfl; have o1 := Bo1.cell 1 _ rfl; have of0 := Bo1.free 0; have of1 := Bo1.free 1; simp only [World.size_alloc] at o0 o1 of0 of1))
    refine bodyPost_ret (v := .tuple #[.agg #[.int .u8 (f), .int .u8 (m)], .int .u8 (andF f a), .int .i64 0]) (by simp [results, Try.results33, go_sem]; try rfl) rfl ⟨?_, ?_⟩
    · show _ = Ending.returned (.tuple #[.agg #[.int .u8 (f), .int .u8 (m)], .int .u8 (okSel a (andF f a) 0), .int .i64 (okSel a 0 20)])
      simp only [okSel_t Rb.out]
    · exact below3 _ _ _ _
  · have hb : decide (a ≤ 31) = false := decide_eq_false h31
    have rb : rightB a = false := by rw [Hr.out]; exact hb
    have Rb := Lib.hid rb
    clear rb
    go_enter Try.func33, Try.ntmps33
    go_wp2_with (first
          | (go_at_call 11; refine (refRight_any _ _).mono ?_; rintro e w1 ⟨rfl, rfl⟩)
          | (go_at_call 47; refine (refRaise_any _ _ _ _ h0 h1).mono ?_; rintro e w1 ⟨rfl, hb1⟩; have Be1 := Be.call hb1; have Bo1 := Bo.call hb1; have e0 := Be1.cell 0 _ rfl; have e1 := Be1.cell 1 _ rfl; have ef0 := Be1.free 0; have ef1 := Be1.free 1; have o0 := Bo1.cell 0 _ rfl; have o1 := Bo1.cell 1 _ rfl; have of0 := Bo1.free 0; have of1 := Bo1.free 1; simp only [World.size_alloc] at o0 o1 of0 of1)
          | (go_at_call 48; refine (refClear_any _ _ _ _).mono ?_; rintro e w1 ⟨rfl, hb1⟩; have Be1 := Be.call hb1; have Bo1 := Bo.call hb1; have e0 := Be1.cell 0 _ rfl; have e1 := Be1.cell 1 _ rfl; have ef0 := Be1.free 0; have ef1 := Be1.free 1; have o0 := Bo1.cell 0 _ rfl; have o1 := Bo1.cell 1 _ rfl; have of0 := Bo1.free 0; have of1 := Bo1.free 1; simp only [World.size_alloc] at o0 o1 of0 of1))
    refine bodyPost_ret (v := .tuple #[.agg #[.int .u8 (f), .int .u8 (m)], .int .u8 (0), .int .i64 20]) (by simp [results, Try.results33, go_sem]; try rfl) rfl ⟨?_, ?_⟩
    · show _ = Ending.returned (.tuple #[.agg #[.int .u8 (f), .int .u8 (m)], .int .u8 (okSel a (andF f a) 0), .int .i64 (okSel a 0 20)])
      simp only [okSel_f Rb.out]
    · exact below3 _ _ _ _

set_option maxRecDepth 100000 in
set_option maxHeartbeats 2000000 in
theorem refDo_3 (f m a : Int) (w : World) (h0 : 0 ≤ a) (h1 : a < 256) :
    Calls Try.prog 33 #[.agg #[.int .u8 f, .int .u8 m], .agg #[.int .u8 3, .int .u8 a]] w
      (AggPost (.tuple #[.agg #[.int .u8 (doFl 3 a f), .int .u8 (doMa 3 a m)], .int .u8 (doVal 3 a f), .int .i64 (doErr 3 a)]) w) := by
  have hr := rightB_u8 a h0 h1
  have Hr := Lib.hid hr
  clear hr
  have Be := ((Blk.new w #[.int .u8 f, .int .u8 m] 45).alloc (.cells #[.int .u8 3, .int .u8 a] 50)).alloc (.cells #[.int .u8 0, .int .u8 0] 45)
  have Bo := Blk.new ((w.alloc (.cells #[.int .u8 f, .int .u8 m] 45)).alloc (.cells #[.int .u8 3, .int .u8 a] 50)) #[.int .u8 0, .int .u8 0] 45
  by_cases h31 : a ≤ 31
  · have hb : decide (a ≤ 31) = true := decide_eq_true h31
    have rb : rightB a = true := by rw [Hr.out]; exact hb
    have Rb := Lib.hid rb
    clear rb
    go_enter Try.func33, Try.ntmps33
    go_wp2_with (first
          | (go_at_call 11; refine (refRight_any _ _).mono ?_; rintro e w1 ⟨rfl, rfl⟩)
          | (go_at_call 47; refine (refRaise_any _ _ _ _ h0 h1).mono ?_; rintro e w1 ⟨rfl, hb1⟩; have Be1 := Be.call hb1; have Bo1 := Bo.call hb1; have e0 := Be1.cell 0 _ rfl; have e1 := Be1.cell 1 _ rfl; have ef0 := Be1.free 0; have ef1 := Be1.free 1; have o0 := Bo1.cell 0 _ rfl; have o1 := Bo1.cell 1 _ rfl; have of0 := Bo1.free 0; have of1 := Bo1.free 1; simp only [World.size_alloc] at o0 o1 of0 of1)
          | (go_at_call 48; refine (refClear_any _ _ _ _).mono ?_; rintro e w1 ⟨rfl, hb1⟩; have Be1 := Be.call hb1; have Bo1 := Bo.call hb1; have e0 := Be1.cell 0 _ rfl; have e1 := Be1.cell 1 _ rfl; have ef0 := Be1.free 0; have ef1 := Be1.free 1; have o0 := Bo1.cell 0 _ rfl; have o1 := Bo1.cell 1 _ rfl; have of0 := Bo1.free 0; have of1 := Bo1.free 1; simp only [World.size_alloc] at o0 o1 of0 of1))
    refine bodyPost_ret (v := .tuple #[.agg #[.int .u8 (takeF f a), .int .u8 (m)], .int .u8 (0), .int .i64 0]) (by simp [results, Try.results33, go_sem, o0, o1]; try rfl) rfl ⟨?_, ?_⟩
    · show _ = Ending.returned (.tuple #[.agg #[.int .u8 (okSel a (takeF f a) f), .int .u8 (m)], .int .u8 (0), .int .i64 (okSel a 0 20)])
      simp only [okSel_t Rb.out]
    · exact (((((below3 _ _ _ _).trans (hb1.mono (by simp; omega))).setCell (Nat.le_refl _) _).setCell (Nat.le_refl _) _).setCell (show w.heap.size ≤ w.heap.size + 1 + 1 by omega) _).setCell (show w.heap.size ≤ w.heap.size + 1 + 1 by omega) _
  · have hb : decide (a ≤ 31) = false := decide_eq_false h31
    have rb : rightB a = false := by rw [Hr.out]; exact hb
    have Rb := Lib.hid rb
    clear rb
    go_enter Try.func33, Try.ntmps33
    go_wp2_with (first
          | (go_at_call 11; refine (refRight_any _ _).mono ?_; rintro e w1 ⟨rfl, rfl⟩)
          | (go_at_call 47; refine (refRaise_any _ _ _ _ h0 h1).mono ?_; rintro e w1 ⟨rfl, hb1⟩; have Be1 := Be.call hb1; have Bo1 := Bo.call hb1; have e0 := Be1.cell 0 _ rfl; have e1 := Be1.cell 1 _ rfl; have ef0 := Be1.free 0; have ef1 := Be1.free 1; have o0 := Bo1.cell 0 _ rfl; have o1 := Bo1.cell 1 _ rfl; have of0 := Bo1.free 0; have of1 := Bo1.free 1; simp only [World.size_alloc] at o0 o1 of0 of1)
          | (go_at_call 48; refine (refClear_any _ _ _ _).mono ?_; rintro e w1 ⟨rfl, hb1⟩; have Be1 := Be.call hb1; have Bo1 := Bo.call hb1; have e0 := Be1.cell 0 _ rfl; have e1 := Be1.cell 1 _ rfl; have ef0 := Be1.free 0; have ef1 := Be1.free 1; have o0 := Bo1.cell 0 _ rfl; have o1 := Bo1.cell 1 _ rfl; have of0 := Bo1.free 0; have of1 := Bo1.free 1; simp only [World.size_alloc] at o0 o1 of0 of1))
    refine bodyPost_ret (v := .tuple #[.agg #[.int .u8 (f), .int .u8 (m)], .int .u8 (0), .int .i64 20]) (by simp [results, Try.results33, go_sem]; try rfl) rfl ⟨?_, ?_⟩
    · show _ = Ending.returned (.tuple #[.agg #[.int .u8 (okSel a (takeF f a) f), .int .u8 (m)], .int .u8 (0), .int .i64 (okSel a 0 20)])
      simp only [okSel_f Rb.out]
    · exact below3 _ _ _ _

set_option maxRecDepth 100000 in
set_option maxHeartbeats 2000000 in
theorem refDo_4 (f m a : Int) (w : World)  :
    Calls Try.prog 33 #[.agg #[.int .u8 f, .int .u8 m], .agg #[.int .u8 4, .int .u8 a]] w
      (AggPost (.tuple #[.agg #[.int .u8 (doFl 4 a f), .int .u8 (doMa 4 a m)], .int .u8 (doVal 4 a f), .int .i64 (doErr 4 a)]) w) := by
  go_enter Try.func33, Try.ntmps33
  go_wp2_with (first
        | (go_at_call 11; refine (refRight_any _ _).mono ?_; rintro e w1 ⟨rfl, rfl⟩)
        | (go_at_call 47; refine (refRaise_any _ _ _ _ h0 h1).mono ?_; rintro e w1 ⟨rfl, hb1⟩; have Be1 := Be.call hb1; have Bo1 := Bo.call hb1; have e0 := Be1.cell 0 _ rfl; have e1 := Be1.cell 1 _ rfl; have ef0 := Be1.free 0; have ef1 := Be1.free 1; have o0 := Bo1.cell 0 _ rfl; have o1 := Bo1.cell 1 _ rfl; have of0 := Bo1.free 0; have of1 := Bo1.free 1; simp only [World.size_alloc] at o0 o1 of0 of1)
        | (go_at_call 48; refine (refClear_any _ _ _ _).mono ?_; rintro e w1 ⟨rfl, hb1⟩; have Be1 := Be.call hb1; have Bo1 := Bo.call hb1; have e0 := Be1.cell 0 _ rfl; have e1 := Be1.cell 1 _ rfl; have ef0 := Be1.free 0; have ef1 := Be1.free 1; have o0 := Bo1.cell 0 _ rfl; have o1 := Bo1.cell 1 _ rfl; have of0 := Bo1.free 0; have of1 := Bo1.free 1; simp only [World.size_alloc] at o0 o1 of0 of1))
  refine bodyPost_ret (v := .tuple #[.agg #[.int .u8 (0), .int .u8 (m)], .int .u8 (f), .int .i64 0]) (by simp [results, Try.results33, go_sem]; try rfl) rfl ⟨?_, ?_⟩
  · rfl
  · exact below3 _ _ _ _

set_option maxRecDepth 100000 in
set_option maxHeartbeats 2000000 in
theorem refDo_5 (f m a : Int) (w : World) (h0 : 0 ≤ a) (h1 : a < 256) :
    Calls Try.prog 33 #[.agg #[.int .u8 f, .int .u8 m], .agg #[.int .u8 5, .int .u8 a]] w
      (AggPost (.tuple #[.agg #[.int .u8 (doFl 5 a f), .int .u8 (doMa 5 a m)], .int .u8 (doVal 5 a f), .int .i64 (doErr 5 a)]) w) := by
  have hr := rightB_u8 a h0 h1
  have Hr := Lib.hid hr
  clear hr
  have Be := ((Blk.new w #[.int .u8 f, .int .u8 m] 45).alloc (.cells #[.int .u8 5, .int .u8 a] 50)).alloc (.cells #[.int .u8 0, .int .u8 0] 45)
  have Bo := Blk.new ((w.alloc (.cells #[.int .u8 f, .int .u8 m] 45)).alloc (.cells #[.int .u8 5, .int .u8 a] 50)) #[.int .u8 0, .int .u8 0] 45
  by_cases h31 : a ≤ 31
  · have hb : decide (a ≤ 31) = true := decide_eq_true h31
    have rb : rightB a = true := by rw [Hr.out]; exact hb
    have Rb := Lib.hid rb
    clear rb
    go_enter Try.func33, Try.ntmps33
    go_wp2_with (first
          | (go_at_call 11; refine (refRight_any _ _).mono ?_; rintro e w1 ⟨rfl, rfl⟩)
          | (go_at_call 47; refine (refRaise_any _ _ _ _ h0 h1).mono ?_; rintro e w1 ⟨rfl, hb1⟩; have Be1 := Be.call hb1; have Bo1 := Bo.call hb1; have e0 := Be1.cell 0 _ rfl; have e1 := Be1.cell 1 _ rfl; have ef0 := Be1.free 0; have ef1 := Be1.free 1; have o0 := Bo1.cell 0 _ rfl; have o1 := Bo1.cell 1 _ rfl; have of0 := Bo1.free 0; have of1 := Bo1.free 1; simp only [World.size_alloc] at o0 o1 of0 of1)
          | (go_at_call 48; refine (refClear_any _ _ _ _).mono ?_; rintro e w1 ⟨rfl, hb1⟩; have Be1 := Be.call hb1; have Bo1 := Bo.call hb1; have e0 := Be1.cell 0 _ rfl; have e1 := Be1.cell 1 _ rfl; have ef0 := Be1.free 0; have ef1 := Be1.free 1; have o0 := Bo1.cell 0 _ rfl; have o1 := Bo1.cell 1 _ rfl; have of0 := Bo1.free 0; have of1 := Bo1.free 1; simp only [World.size_alloc] at o0 o1 of0 of1))
    refine bodyPost_ret (v := .tuple #[.agg #[.int .u8 (a), .int .u8 (m)], .int .u8 (0), .int .i64 0]) (by simp [results, Try.results33, go_sem]; try rfl) rfl ⟨?_, ?_⟩
    · show _ = Ending.returned (.tuple #[.agg #[.int .u8 (okSel a a f), .int .u8 (m)], .int .u8 (0), .int .i64 (okSel a 0 20)])
      simp only [okSel_t Rb.out]
    · exact below3 _ _ _ _
  · have hb : decide (a ≤ 31) = false := decide_eq_false h31
    have rb : rightB a = false := by rw [Hr.out]; exact hb
    have Rb := Lib.hid rb
    clear rb
    go_enter Try.func33, Try.ntmps33
    go_wp2_with (first
          | (go_at_call 11; refine (refRight_any _ _).mono ?_; rintro e w1 ⟨rfl, rfl⟩)
          | (go_at_call 47; refine (refRaise_any _ _ _ _ h0 h1).mono ?_; rintro e w1 ⟨rfl, hb1⟩; have Be1 := Be.call hb1; have Bo1 := Bo.call hb1; have e0 := Be1.cell 0 _ rfl; have e1 := Be1.cell 1 _ rfl; have ef0 := Be1.free 0; have ef1 := Be1.free 1; have o0 := Bo1.cell 0 _ rfl; have o1 := Bo1.cell 1 _ rfl; have of0 := Bo1.free 0; have of1 := Bo1.free 1; simp only [World.size_alloc] at o0 o1 of0 of1)
          | (go_at_call 48; refine (refClear_any _ _ _ _).mono ?_; rintro e w1 ⟨rfl, hb1⟩; have Be1 := Be.call hb1; have Bo1 := Bo.call hb1; have e0 := Be1.cell 0 _ rfl; have e1 := Be1.cell 1 _ rfl; have ef0 := Be1.free 0; have ef1 := Be1.free 1; have o0 := Bo1.cell 0 _ rfl; have o1 := Bo1.cell 1 _ rfl; have of0 := Bo1.free 0; have of1 := Bo1.free 1; simp only [World.size_alloc] at o0 o1 of0 of1))
    refine bodyPost_ret (v := .tuple #[.agg #[.int .u8 (f), .int .u8 (m)], .int .u8 (0), .int .i64 20]) (by simp [results, Try.results33, go_sem]; try rfl) rfl ⟨?_, ?_⟩
    · show _ = Ending.returned (.tuple #[.agg #[.int .u8 (okSel a a f), .int .u8 (m)], .int .u8 (0), .int .i64 (okSel a 0 20)])
      simp only [okSel_f Rb.out]
    · exact below3 _ _ _ _

set_option maxRecDepth 100000 in
set_option maxHeartbeats 2000000 in
theorem refDo_6 (f m a : Int) (w : World) (h0 : 0 ≤ a) (h1 : a < 256) :
    Calls Try.prog 33 #[.agg #[.int .u8 f, .int .u8 m], .agg #[.int .u8 6, .int .u8 a]] w
      (AggPost (.tuple #[.agg #[.int .u8 (doFl 6 a f), .int .u8 (doMa 6 a m)], .int .u8 (doVal 6 a f), .int .i64 (doErr 6 a)]) w) := by
  have hr := rightB_u8 a h0 h1
  have Hr := Lib.hid hr
  clear hr
  have Be := ((Blk.new w #[.int .u8 f, .int .u8 m] 45).alloc (.cells #[.int .u8 6, .int .u8 a] 50)).alloc (.cells #[.int .u8 0, .int .u8 0] 45)
  have Bo := Blk.new ((w.alloc (.cells #[.int .u8 f, .int .u8 m] 45)).alloc (.cells #[.int .u8 6, .int .u8 a] 50)) #[.int .u8 0, .int .u8 0] 45
  by_cases h31 : a ≤ 31
  · have hb : decide (a ≤ 31) = true := decide_eq_true h31
    have rb : rightB a = true := by rw [Hr.out]; exact hb
    have Rb := Lib.hid rb
    clear rb
    go_enter Try.func33, Try.ntmps33
    go_wp2_with (first
          | (go_at_call 11; refine (refRight_any _ _).mono ?_; rintro e w1 ⟨rfl, rfl⟩)
          | (go_at_call 47; refine (refRaise_any _ _ _ _ h0 h1).mono ?_; rintro e w1 ⟨rfl, hb1⟩; have Be1 := Be.call hb1; have Bo1 := Bo.call hb1; have e0 := Be1.cell 0 _ rfl; have e1 := Be1.cell 1 _ rfl; have ef0 := Be1.free 0; have ef1 := Be1.free 1; have o0 := Bo1.cell 0 _ rfl; have o1 := Bo1.cell 1 _ rfl; have of0 := Bo1.free 0; have of1 := Bo1.free 1; simp only [World.size_alloc] at o0 o1 of0 of1)
          | (go_at_call 48; refine (refClear_any _ _ _ _).mono ?_; rintro e w1 ⟨rfl, hb1⟩; have Be1 := Be.call hb1; have Bo1 := Bo.call hb1; have e0 := Be1.cell 0 _ rfl; have e1 := Be1.cell 1 _ rfl; have ef0 := Be1.free 0; have ef1 := Be1.free 1; have o0 := Bo1.cell 0 _ rfl; have o1 := Bo1.cell 1 _ rfl; have of0 := Bo1.free 0; have of1 := Bo1.free 1; simp only [World.size_alloc] at o0 o1 of0 of1))
    refine bodyPost_ret (v := .tuple #[.agg #[.int .u8 (orF f a), .int .u8 (m)], .int .u8 (0), .int .i64 0]) (by simp [results, Try.results33, go_sem]; try rfl) rfl ⟨?_, ?_⟩
    · show _ = Ending.returned (.tuple #[.agg #[.int .u8 (okSel a (orF f a) f), .int .u8 (m)], .int .u8 (0), .int .i64 (okSel a 0 20)])
      simp only [okSel_t Rb.out]
    · exact below3 _ _ _ _
  · have hb : decide (a ≤ 31) = false := decide_eq_false h31
    have rb : rightB a = false := by rw [Hr.out]; exact hb
    have Rb := Lib.hid rb
    clear rb
    go_enter Try.func33, Try.ntmps33
    go_wp2_with (first
          | (go_at_call 11; refine (refRight_any _ _).mono ?_; rintro e w1 ⟨rfl, rfl⟩)
          | (go_at_call 47; refine (refRaise_any _ _ _ _ h0 h1).mono ?_; rintro e w1 ⟨rfl, hb1⟩; have Be1 := Be.call hb1; have Bo1 := Bo.call hb1; have e0 := Be1.cell 0 _ rfl; have e1 := Be1.cell 1 _ rfl; have ef0 := Be1.free 0; have ef1 := Be1.free 1; have o0 := Bo1.cell 0 _ rfl; have o1 := Bo1.cell 1 _ rfl; have of0 := Bo1.free 0; have of1 := Bo1.free 1; simp only [World.size_alloc] at o0 o1 of0 of1)
          | (go_at_call 48; refine (refClear_any _ _ _ _).mono ?_; rintro e w1 ⟨rfl, hb1⟩; have Be1 := Be.call hb1; have Bo1 := Bo.call hb1; have e0 := Be1.cell 0 _ rfl; have e1 := Be1.cell 1 _ rfl; have ef0 := Be1.free 0; have ef1 := Be1.free 1; have o0 := Bo1.cell 0 _ rfl; have o1 := Bo1.cell 1 _ rfl; have of0 := Bo1.free 0; have of1 := Bo1.free 1; simp only [World.size_alloc] at o0 o1 of0 of1))
    refine bodyPost_ret (v := .tuple #[.agg #[.int .u8 (f), .int .u8 (m)], .int .u8 (0), .int .i64 20]) (by simp [results, Try.results33, go_sem]; try rfl) rfl ⟨?_, ?_⟩
    · show _ = Ending.returned (.tuple #[.agg #[.int .u8 (okSel a (orF f a) f), .int .u8 (m)], .int .u8 (0), .int .i64 (okSel a 0 20)])
      simp only [okSel_f Rb.out]
    · exact below3 _ _ _ _

set_option maxRecDepth 100000 in
set_option maxHeartbeats 2000000 in
theorem refDo_7 (f m a : Int) (w : World)  :
    Calls Try.prog 33 #[.agg #[.int .u8 f, .int .u8 m], .agg #[.int .u8 7, .int .u8 a]] w
      (AggPost (.tuple #[.agg #[.int .u8 (doFl 7 a f), .int .u8 (doMa 7 a m)], .int .u8 (doVal 7 a f), .int .i64 (doErr 7 a)]) w) := by
  go_enter Try.func33, Try.ntmps33
  go_wp2_with (first
        | (go_at_call 11; refine (refRight_any _ _).mono ?_; rintro e w1 ⟨rfl, rfl⟩)
        | (go_at_call 47; refine (refRaise_any _ _ _ _ h0 h1).mono ?_; rintro e w1 ⟨rfl, hb1⟩; have Be1 := Be.call hb1; have Bo1 := Bo.call hb1; have e0 := Be1.cell 0 _ rfl; have e1 := Be1.cell 1 _ rfl; have ef0 := Be1.free 0; have ef1 := Be1.free 1; have o0 := Bo1.cell 0 _ rfl; have o1 := Bo1.cell 1 _ rfl; have of0 := Bo1.free 0; have of1 := Bo1.free 1; simp only [World.size_alloc] at o0 o1 of0 of1)
        | (go_at_call 48; refine (refClear_any _ _ _ _).mono ?_; rintro e w1 ⟨rfl, hb1⟩; have Be1 := Be.call hb1; have Bo1 := Bo.call hb1; have e0 := Be1.cell 0 _ rfl; have e1 := Be1.cell 1 _ rfl; have ef0 := Be1.free 0; have ef1 := Be1.free 1; have o0 := Bo1.cell 0 _ rfl; have o1 := Bo1.cell 1 _ rfl; have of0 := Bo1.free 0; have of1 := Bo1.free 1; simp only [World.size_alloc] at o0 o1 of0 of1))
  refine bodyPost_ret (v := .tuple #[.agg #[.int .u8 (f), .int .u8 (0)], .int .u8 (0), .int .i64 0]) (by simp [results, Try.results33, go_sem]; try rfl) rfl ⟨?_, ?_⟩
  · rfl
  · exact below3 _ _ _ _

set_option maxRecDepth 100000 in
set_option maxHeartbeats 2000000 in
theorem refDo_8 (f m a : Int) (w : World)  (k : Int) (h1 : (k == 1) = false) (h2 : (k == 2) = false) (h3 : (k == 3) = false) (h4 : (k == 4) = false) (h5 : (k == 5) = false) (h6 : (k == 6) = false) (h7 : (k == 7) = false) :
    Calls Try.prog 33 #[.agg #[.int .u8 f, .int .u8 m], .agg #[.int .u8 k, .int .u8 a]] w
      (AggPost (.tuple #[.agg #[.int .u8 (doFl k a f), .int .u8 (doMa k a m)], .int .u8 (doVal k a f), .int .i64 (doErr k a)]) w) := by
  obtain ⟨d1, d2, d3, d4⟩ := @do8 k a f m h1 h2 h3 h4 h5 h6 h7
  have D1 := Lib.hid d1
  have D2 := Lib.hid d2
  have D3 := Lib.hid d3
  have D4 := Lib.hid d4
  clear d1 d2 d3 d4
  have hk8 : k ≤ 0 ∨ 8 ≤ k := by
    have := beq_eq_false_iff_ne.1 h1; have := beq_eq_false_iff_ne.1 h2; have := beq_eq_false_iff_ne.1 h3; have := beq_eq_false_iff_ne.1 h4; have := beq_eq_false_iff_ne.1 h5; have := beq_eq_false_iff_ne.1 h6; have := beq_eq_false_iff_ne.1 h7
    omega
  clear h1 h2 h3 h4 h5 h6 h7
  rcases hk8 with hk0 | hk8
  · have hd : decide (k ≤ 0) = true := decide_eq_true hk0
    go_enter Try.func33, Try.ntmps33
    go_wp2_with (first
          | (go_at_call 11; refine (refRight_any _ _).mono ?_; rintro e w1 ⟨rfl, rfl⟩)
          | (go_at_call 47; refine (refRaise_any _ _ _ _ h0 h1).mono ?_; rintro e w1 ⟨rfl, hb1⟩; have Be1 := Be.call hb1; have Bo1 := Bo.call hb1; have e0 := Be1.cell 0 _ rfl; have e1 := Be1.cell 1 _ rfl; have ef0 := Be1.free 0; have ef1 := Be1.free 1; have o0 := Bo1.cell 0 _ rfl; have o1 := Bo1.cell 1 _ rfl; have of0 := Bo1.free 0; have of1 := Bo1.free 1; simp only [World.size_alloc] at o0 o1 of0 of1)
          | (go_at_call 48; refine (refClear_any _ _ _ _).mono ?_; rintro e w1 ⟨rfl, hb1⟩; have Be1 := Be.call hb1; have Bo1 := Bo.call hb1; have e0 := Be1.cell 0 _ rfl; have e1 := Be1.cell 1 _ rfl; have ef0 := Be1.free 0; have ef1 := Be1.free 1; have o0 := Bo1.cell 0 _ rfl; have o1 := Bo1.cell 1 _ rfl; have of0 := Bo1.free 0; have of1 := Bo1.free 1; simp only [World.size_alloc] at o0 o1 of0 of1))
    refine bodyPost_ret (v := .tuple #[.agg #[.int .u8 (f), .int .u8 (m)], .int .u8 (0), .int .i64 2]) (by simp [results, Try.results33, go_sem]; try rfl) rfl ⟨?_, ?_⟩
    · rw [D1.out, D2.out, D3.out, D4.out]
    · exact below3 _ _ _ _
  · have hd : decide (k ≤ 0) = false := decide_eq_false (by omega)
    have hd8 : decide (8 ≤ k) = true := decide_eq_true hk8
    go_enter Try.func33, Try.ntmps33
    go_wp2_with (first
          | (go_at_call 11; refine (refRight_any _ _).mono ?_; rintro e w1 ⟨rfl, rfl⟩)
          | (go_at_call 47; refine (refRaise_any _ _ _ _ h0 h1).mono ?_; rintro e w1 ⟨rfl, hb1⟩; have Be1 := Be.call hb1; have Bo1 := Bo.call hb1; have e0 := Be1.cell 0 _ rfl; have e1 := Be1.cell 1 _ rfl; have ef0 := Be1.free 0; have ef1 := Be1.free 1; have o0 := Bo1.cell 0 _ rfl; have o1 := Bo1.cell 1 _ rfl; have of0 := Bo1.free 0; have of1 := Bo1.free 1; simp only [World.size_alloc] at o0 o1 of0 of1)
          | (go_at_call 48; refine (refClear_any _ _ _ _).mono ?_; rintro e w1 ⟨rfl, hb1⟩; have Be1 := Be.call hb1; have Bo1 := Bo.call hb1; have e0 := Be1.cell 0 _ rfl; have e1 := Be1.cell 1 _ rfl; have ef0 := Be1.free 0; have ef1 := Be1.free 1; have o0 := Bo1.cell 0 _ rfl; have o1 := Bo1.cell 1 _ rfl; have of0 := Bo1.free 0; have of1 := Bo1.free 1; simp only [World.size_alloc] at o0 o1 of0 of1))
    refine bodyPost_ret (v := .tuple #[.agg #[.int .u8 (f), .int .u8 (m)], .int .u8 (0), .int .i64 2]) (by simp [results, Try.results33, go_sem]; try rfl) rfl ⟨?_, ?_⟩
    · rw [D1.out, D2.out, D3.out, D4.out]
    · exact below3 _ _ _ _

theorem refDo_any (f m k a : Int) (w : World) (h0 : 0 ≤ a) (h1 : a < 256) :
    Calls Try.prog 33 #[.agg #[.int .u8 f, .int .u8 m], .agg #[.int .u8 k, .int .u8 a]] w
      (AggPost (.tuple #[.agg #[.int .u8 (doFl k a f), .int .u8 (doMa k a m)], .int .u8 (doVal k a f), .int .i64 (doErr k a)]) w) := by
  cases h1' : (k == 1)
  case true => obtain rfl : k = 1 := by simpa using h1'
               exact refDo_1 f m a w h0 h1
  cases h2' : (k == 2)
  case true => obtain rfl : k = 2 := by simpa using h2'
               exact refDo_2 f m a w h0 h1
  cases h3' : (k == 3)
  case true => obtain rfl : k = 3 := by simpa using h3'
               exact refDo_3 f m a w h0 h1
  cases h4' : (k == 4)
  case true => obtain rfl : k = 4 := by simpa using h4'
               exact refDo_4 f m a w
  cases h5' : (k == 5)
  case true => obtain rfl : k = 5 := by simpa using h5'
               exact refDo_5 f m a w h0 h1
  cases h6' : (k == 6)
  case true => obtain rfl : k = 6 := by simpa using h6'
               exact refDo_6 f m a w h0 h1
  cases h7' : (k == 7)
  case true => obtain rfl : k = 7 := by simpa using h7'
               exact refDo_7 f m a w
  exact refDo_8 f m a w k h1' h2' h3' h4' h5' h6' h7'

end Go.Proofs.Ytihdnjgjjhhpgaa
