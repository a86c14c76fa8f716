/- The walk of the law FlagsSticky. -/
import Derived.Test.YtihdnjgjjhhpgaaFlL
import Derived.Test.YtihdnjgjjhhpgaaLift
namespace Go.Proofs.Ytihdnjgjjhhpgaa
open Go.RowKit

/-- A cell of a slice of flags, below the index. -/
theorem u8_cell {w : World} {x : Option Addr} {len cap : Nat} (h : ReadsInts w .u8 x len cap) (k : Nat) (hk : k < len) :
    ∃ (b off : Nat) (c : Int), x = some ⟨b, off, none⟩ ∧ b < w.heap.size ∧ w.cell? ⟨b, off + k, none⟩ = some (.int .u8 c) ∧ 0 ≤ c ∧ c < 256 ∧ len ≤ cap ∧ cap ≤ maxLen := by
  rcases h with h | ⟨b, off, zs, hx, hl, hm, hb, hz, hc, hw⟩
  · omega
  · refine ⟨b, off, zs.getD k 0, hx, hb, hc k (by omega), ?_⟩
    have := bounds_u8 (hw (zs.getD k 0) (by rw [List.getD_eq_getElem?_getD, List.getElem?_eq_getElem (by omega)]; exact List.getElem_mem _))
    omega

theorem sticky1 (f c : Int) (f0 : 0 ≤ f) (f1 : f < 256) (hf : andF f 31 = f) (c0 : 0 ≤ c) (c1 : c < 256) :
    rightB (andF c 31) = true ∧ andF (orF f (andF c 31)) 31 = orF f (andF c 31) ∧ andF (takeF f (andF c 31)) 31 = takeF f (andF c 31) := by
  refine ⟨(and31 c c0 c1).1, ?_⟩
  obtain ⟨x, rfl⟩ := u8v f f0 f1; obtain ⟨y, rfl⟩ := u8v c c0 c1
  rw [u8_lit31] at hf ⊢
  simp only [andF_bv, orF_bv, takeF_bv, cast_inj] at hf ⊢
  generalize (31#8 : BitVec 8) = z at *
  have key : ∀ i (hi : i < 8), (x[i] && z[i]) = x[i] := fun i hi => by
    have := congrArg (fun t => t.getLsbD i) hf
    simpa [BitVec.getLsbD_eq_getElem hi] using this
  constructor
  · ext i hi; have := key i hi; revert this; simp only [BitVec.getElem_or, BitVec.getElem_and]; cases x[i] <;> cases y[i] <;> cases z[i] <;> simp
  · ext i hi; have := key i hi; revert this; simp only [BitVec.getElem_and, BitVec.getElem_not]; cases x[i] <;> cases y[i] <;> cases z[i] <;> simp

theorem reads_len {w : World} {k : IntKind} {x : Option Addr} {len cap : Nat} (h : ReadsInts w k x len cap) : len ≤ maxLen := by
  rcases h with h | ⟨b, off, zs, hx, hl, hm, _⟩
  · rw [h]; exact Nat.zero_le _
  · exact Nat.le_trans hl hm
def StickyRel (w : World) (rl : Nat) (u6 u7 : Value) (wr : World) : Prop :=
  ∃ (k : Nat) (f m : Int), k ≤ rl ∧ u7 = .int .i64 k ∧ u6 = .int .u8 f ∧ 0 ≤ f ∧ f < 256 ∧ andF f 31 = f ∧ EnvAt wr w.heap.size f m ∧ Below w.heap.size w wr

set_option maxRecDepth 100000 in
set_option maxHeartbeats 2000000 in
theorem Sticky_law (x1 : Option Addr) (n1 c1 : Nat) (x2 : Option Addr) (n2 c2 : Nat) (w : World) (h1 : ReadsInts w .u8 x1 n1 c1) (h2 : ReadsInts w .u8 x2 n2 c2) (l1 : n1 ≤ maxLen) :
    Calls Try.prog 7 #[.slice x1 n1 c1, .slice x2 n2 c2] w (SamePost w) := by
  unfold maxLen at l1
  have r31 : rightB 31 = true := by decide
  have R31 := Lib.hid r31
  clear r31
  have H1 := Lib.hid h1
  have H2 := Lib.hid h2
  clear h1 h2
  go_enter Try.func7, Try.ntmps7
  go_wp2_with fail
  refine (New_any _).mono ?_
  rintro e w1 ⟨rfl, he1, hb1⟩
  go_wp2_with fail
  refine (begins_any _).mono ?_
  rintro e w2 ⟨rfl, hb2⟩
  have he2 := he1.below hb2 he1.lt
  have hb3 := hb1.trans (hb2.mono hb1.size)
  clear he1 hb1 hb2
  go_wp2_with fail
  go_loopw [6, 7] (fun u6 u7 wr => StickyRel w n1 u6 u7 wr) (fun _ u7 _ => n1 - (intOf u7).toNat)
  case atStart => exact ⟨0, 0, 0, by omega, rfl, rfl, by omega, by omega, rfl, he2, hb3⟩
  case round =>
    obtain ⟨k, f, m, hk, rfl, rfl, f0, f1, hf, he, hb⟩ := hrel
    by_cases hlt : k < n1
    · obtain ⟨b, off, c, rfl, hbw, hc, d0, d1, hcap, hcm⟩ := u8_cell H1.out k hlt
      obtain ⟨s1, s2, s3⟩ := sticky1 f c f0 f1 hf d0 d1
      have hcr : wr.cell? ⟨b, off + k, none⟩ = some (.int .u8 c) := (hb.cell (p := ⟨b, off + k, none⟩) hbw).trans hc
      have hand : andF c 31 = c % 32 := u8_and31 c d0 d1
      rw [hand] at s1 s2
      have hor := or_u8 f (c % 32) f0 f1 (by omega) (by omega)
      have S1 := Lib.hid s1
      have S2 := Lib.hid s2
      have HOR := Lib.hid hor
      have HF := Lib.hid hf
      clear s1 s2 s3 hor hc hand hf
      unfold maxLen at hcm
      by_cases hlt2 : k < n2
      · obtain ⟨b', off', c', rfl, hbw', hc', d0', d1', hcap', hcm'⟩ := u8_cell H2.out k hlt2
        unfold maxLen at hcm'
        go_wp2_with fail
        refine (Raise_any _ _ _ _ _ he).mono ?_
        rintro e w3 ⟨rfl, he3, hg3⟩
        rw [okSel_t S1.out]
        rw [okSel_t S1.out, okSel_t S1.out] at he3
        generalize raiseM (c % 32) m = m3 at *
        have hb4 := hb.trans (below_of_gb hg3 (Nat.le_refl _) hb.size)
        clear hb hg3 he hcr
        have hcr' : w3.cell? ⟨b', off' + k, none⟩ = some (.int .u8 c') := (hb4.cell (p := ⟨b', off' + k, none⟩) hbw').trans hc'
        obtain ⟨t1, t2, t3⟩ := sticky1 (orF f (c % 32)) c' HOR.out.1 HOR.out.2 S2.out d0' d1'
        have hand : andF c' 31 = c' % 32 := u8_and31 c' d0' d1'
        rw [hand] at t1 t3
        have htk := take_u8 (orF f (c % 32)) (c' % 32) HOR.out.1 HOR.out.2 (by omega) (by omega)
        have T1 := Lib.hid t1
        have T3 := Lib.hid t3
        have HTK := Lib.hid htk
        clear t1 t2 t3 hand htk hc'
        have hk1 : bits .or .u8 f (c % 32) = orF f (c % 32) := rfl
        go_wp2_with fail
        refine (Clear_any _ _ _ _ _ he3).mono ?_
        rintro e w4 ⟨rfl, he4, hg4⟩
        rw [okSel_t T1.out]
        rw [okSel_t T1.out] at he4
        have hb5 := hb4.trans (below_of_gb hg4 (Nat.le_refl _) hb4.size)
        clear hb4 hg4 he3 hcr'
        go_wp2_with fail
        refine (Test_any _ _ _ _ _ he4).mono ?_
        rintro e w5 ⟨rfl, rfl⟩
        rw [okSel_t R31.out, okSel_t R31.out, T3.out]
        have hneq : (takeF (orF f (c % 32)) (c' % 32) != bits .andNot .u8 (orF f (c % 32)) (c' % 32)) = false := by simp [takeF]
        go_wp2
        go_roundw
        case rel => exact ⟨k + 1, takeF (orF f (c % 32)) (c' % 32), m3, by omega, by go_num, rfl, HTK.out.1, HTK.out.2, T3.out, he4, hb5⟩
        case measure => simp [intOf]; omega
      · go_wp2_with fail
        refine (Raise_any _ _ _ _ _ he).mono ?_
        rintro e w3 ⟨rfl, he3, hg3⟩
        rw [okSel_t S1.out]
        rw [okSel_t S1.out, okSel_t S1.out] at he3
        generalize raiseM (c % 32) m = m3 at *
        have hb4 := hb.trans (below_of_gb hg3 (Nat.le_refl _) hb.size)
        clear hb hg3 he hcr
        have hk1 : bits .or .u8 f (c % 32) = orF f (c % 32) := rfl
        go_wp2_with fail
        refine (Test_any _ _ _ _ _ he3).mono ?_
        rintro e w5 ⟨rfl, rfl⟩
        rw [okSel_t R31.out, okSel_t R31.out, S2.out]
        go_wp2
        go_roundw
        case rel => exact ⟨k + 1, orF f (c % 32), m3, by omega, by go_num, rfl, HOR.out.1, HOR.out.2, S2.out, he3, hb4⟩
        case measure => simp [intOf]; omega
    · obtain rfl : k = n1 := by omega
      go_wp2
      go_ret
      exact ⟨rfl, hb⟩

theorem Sticky_walk (x1 : Option Addr) (n1 c1 : Nat) (x2 : Option Addr) (n2 c2 : Nat) (w : World) (h1 : ReadsInts w .u8 x1 n1 c1) (h2 : ReadsInts w .u8 x2 n2 c2) :
    Calls Try.prog 7 #[.slice x1 n1 c1, .slice x2 n2 c2] w (SamePost w) :=
  Sticky_law x1 n1 c1 x2 n2 c2 w h1 h2 (reads_len h1)
end Go.Proofs.Ytihdnjgjjhhpgaa
