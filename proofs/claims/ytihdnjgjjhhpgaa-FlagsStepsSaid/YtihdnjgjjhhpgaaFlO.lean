/- The walk of the law FlagsSteps. -/
import Derived.Test.YtihdnjgjjhhpgaaFlN
import Derived.Deep.RegionHeld3
import Derived.Deep.DeepCutAuto
namespace Go.Proofs.Ytihdnjgjjhhpgaa
open Go.RowKit

/-- A slice of steps that came in: empty, or cells in old memory. -/
def ReadsSteps (w : World) (x : Option Addr) (len cap : Nat) : Prop :=
  len = 0 ∨ ∃ (b off : Nat) (ks zs : List Int), x = some ⟨b, off, none⟩ ∧ len ≤ cap ∧ cap ≤ maxLen ∧ b < w.heap.size ∧ ks.length = len ∧ zs.length = len ∧
    (∀ i, i < len → w.cell? ⟨b, off + i * 2, none⟩ = some (.int .u8 (ks.getD i 0)) ∧ w.cell? ⟨b, off + i * 2 + 1, none⟩ = some (.int .u8 (zs.getD i 0)) ∧
      0 ≤ ks.getD i 0 ∧ 0 ≤ zs.getD i 0 ∧ zs.getD i 0 < 256)

theorem do_all (own : Bool) (b : Nat) (f m k a : Int) (w : World) (he : EnvAt w b f m) :
    Calls Try.prog 34 #[.pointer (some ⟨b, 0, none⟩), .agg #[.int .u8 k, .int .u8 a], .bool own] w (DoPost b f m k a w) := by
  cases own
  · exact do_not b f m k a w he
  · exact do_any b f m k a w he

/-- What a step leaves of right flags is right flags. -/
theorem doFl_right (k a f : Int) (f0 : 0 ≤ f) (f1 : f < 256) (hf : andF f 31 = f) (a0 : 0 ≤ a) (a1 : a < 256) : 0 ≤ doFl k a f ∧ doFl k a f < 256 ∧ andF (doFl k a f) 31 = doFl k a f := by
  have hor : 0 ≤ orF f a ∧ orF f a < 256 := or_u8 f a f0 f1 a0 a1
  have htk : 0 ≤ takeF f a ∧ takeF f a < 256 := take_u8 f a f0 f1 a0 a1
  have base : 0 ≤ f ∧ f < 256 ∧ andF f 31 = f := ⟨f0, f1, hf⟩
  have key : rightB a = true → andF a 31 = a := fun h =>
    u8_all (p := fun a => rightB a = true → andF a 31 = a) (by decide +kernel) a a0 a1 h
  have sel : ∀ x, (rightB a = true → 0 ≤ x ∧ x < 256 ∧ andF x 31 = x) → 0 ≤ okSel a x f ∧ okSel a x f < 256 ∧ andF (okSel a x f) 31 = okSel a x f := by
    intro x hx
    unfold okSel
    split
    · rename_i h; exact hx h
    · exact base
  have s1 : rightB a = true → andF (orF f a) 31 = orF f a ∧ andF (takeF f a) 31 = takeF f a := fun h => by
    have := sticky1 f a f0 f1 hf a0 a1
    rw [key h] at this
    exact this.2
  unfold doFl
  split
  · exact sel _ fun h => ⟨hor.1, hor.2, (s1 h).1⟩
  split
  · exact base
  split
  · exact sel _ fun h => ⟨htk.1, htk.2, (s1 h).2⟩
  split
  · exact ⟨by decide, by decide, by decide⟩
  split
  · exact sel _ fun h => ⟨a0, a1, key h⟩
  split
  · exact sel _ fun h => ⟨hor.1, hor.2, (s1 h).1⟩
  · exact base

theorem keep1 {W w4 : World} (hb : Below W.heap.size W w4) {p : Addr} {v : Value} (h : W.cell? p = some v) : w4.cell? p = some v :=
  (hb.cell (World.block_lt_of_cell? W p h)).trans h
theorem keep4 {W w4 : World} (hb : Below W.heap.size W w4) {p1 p2 p3 p4 : Addr} {v1 v2 v3 v4 : Value} (h : W.cell? p1 = some v1 ∧ W.cell? p2 = some v2 ∧ W.cell? p3 = some v3 ∧ W.cell? p4 = some v4) :
    w4.cell? p1 = some v1 ∧ w4.cell? p2 = some v2 ∧ w4.cell? p3 = some v3 ∧ w4.cell? p4 = some v4 :=
  ⟨keep1 hb h.1, keep1 hb h.2.1, keep1 hb h.2.2.1, keep1 hb h.2.2.2⟩
def Step9 (w3 : World) (f m kd a : Int) (s7 s8 s9 : Value) (wx : World) : Prop :=
  ∃ g : Nat, w3.heap.size ≤ g ∧ s7 = .pointer (some ⟨g, 0, none⟩) ∧ s8 = .int .u8 (doVal kd a f) ∧ s9 = .int .i64 (doErr kd a) ∧
    Blk wx g #[.int .u8 (doFl kd a f), .int .u8 (doMa kd a m)] 45 ∧ Below w3.heap.size w3 wx
theorem step9_a {w3 w4 : World} {f m kd a : Int} (hb : Below (w3.alloc (.cells #[.int .u8 0, .int .u8 0] 45)).drew.heap.size (w3.alloc (.cells #[.int .u8 0, .int .u8 0] 45)).drew w4) :
    Step9 w3 f m kd a (.pointer (some ⟨w3.heap.size, 0, none⟩)) (.int .u8 (doVal kd a f)) (.int .i64 (doErr kd a))
      ((w4.setCell ⟨w3.heap.size, 0, none⟩ (.int .u8 (doFl kd a f))).setCell ⟨w3.heap.size, 1, none⟩ (.int .u8 (doMa kd a m))) := by
  have h0 : Blk (w3.alloc (.cells #[.int .u8 0, .int .u8 0] 45)).drew w3.heap.size #[.int .u8 0, .int .u8 0] 45 := Blk.new w3 _ _
  have h1 : Below w3.heap.size w3 w4 := (((Below.refl _ _).alloc (Nat.le_refl _) _).drew).trans (hb.mono (by simp))
  exact ⟨_, Nat.le_refl _, rfl, rfl, rfl, ((h0.call hb).set 0 _).set 1 _, (h1.setCell (Nat.le_refl _) _).setCell (Nat.le_refl _) _⟩
theorem step9_b {w3 w4 : World} {f m kd a : Int} (hb : Below w3.drew.heap.size w3.drew w4) :
    Step9 w3 f m kd a (.pointer (some ⟨w4.heap.size, 0, none⟩)) (.int .u8 (doVal kd a f)) (.int .i64 (doErr kd a))
      (w4.alloc (.cells #[.int .u8 (doFl kd a f), .int .u8 (doMa kd a m)] 45)) := by
  have h1 : Below w3.heap.size w3 w4 := (Below.refl _ _).drew.trans hb
  exact ⟨_, h1.size, rfl, rfl, rfl, Blk.new _ _ _, h1.alloc h1.size _⟩
def StepsRel (w : World) (bx len : Nat) (u3 u5 : Value) (wr : World) : Prop :=
  ∃ (k be : Nat) (f m : Int), k ≤ len ∧ u5 = .int .i64 k ∧ u3 = .pointer (some ⟨be, 0, none⟩) ∧ 0 ≤ f ∧ f < 256 ∧ andF f 31 = f ∧ w.heap.size ≤ be ∧ be ≠ bx ∧ EnvAt wr be f m ∧
    Blk wr bx #[.int .u8 f, .int .u8 m] 45 ∧ Below w.heap.size w wr

theorem steps_close {w wr : World} {bx be k len : Nat} {f' m' f m : Int} (hk : k < len) (r0 : 0 ≤ f') (r1 : f' < 256) (r2 : andF f' 31 = f') (hbe : w.heap.size ≤ be) (hne : bx ≠ be) (hbx : w.heap.size ≤ bx) (he : EnvAt wr be f' m')
    (hx : Blk wr bx #[.int .u8 f, .int .u8 m] 45) (hb : Below w.heap.size w wr) :
    StepsRel w bx len (.pointer (some ⟨be, 0, none⟩)) (.int .i64 ((k : Int) + 1)) ((wr.setCell ⟨bx, 0, none⟩ (.int .u8 f')).setCell ⟨bx, 1, none⟩ (.int .u8 m')) :=
  ⟨k + 1, be, f', m', by omega, by go_num, rfl, r0, r1, r2, hbe, fun e => hne e.symm, Blk.set_other (Blk.set_other he (fun e => hne e.symm) 0 _) (fun e => hne e.symm) 1 _, (hx.set 0 _).set 1 _, (hb.setCell hbx _).setCell hbx _⟩

set_option maxRecDepth 100000 in
set_option maxHeartbeats 2000000 in
theorem Steps_law (x1 : Option Addr) (n1 c1 : Nat) (w : World) (h1 : ReadsSteps w x1 n1 c1) (l1 : n1 ≤ maxLen) :
    Calls Try.prog 9 #[.slice x1 n1 c1] w (SamePost w) := by
  unfold maxLen at l1
  have H1 := Lib.hid h1
  clear h1
  go_enter Try.func9, Try.ntmps9
  go_wp2_with fail
  refine (New_any _).mono ?_
  rintro e w1 ⟨rfl, he1, hb1⟩
  go_wp2_with fail
  refine (begins_any _).mono ?_
  rintro e w2 ⟨rfl, hb2⟩
  have he2 := he1.below hb2 he1.lt
  have hb3 := hb1.trans (hb2.mono hb1.size)
  have hne : w.heap.size ≠ w2.heap.size := by have := he2.lt; omega
  clear he1 hb1 hb2
  go_wp2_with fail
  go_loopw [3, 5] (fun u3 u5 wr => StepsRel w w2.heap.size n1 u3 u5 wr) (fun _ u5 _ => n1 - (intOf u5).toNat)
  case atStart => exact ⟨0, w.heap.size, 0, 0, by omega, rfl, rfl, by omega, by omega, rfl, Nat.le_refl _, hne, he2.alloc _, Blk.new _ _ _, hb3.alloc hb3.size _⟩
  case round =>
    obtain ⟨k, be, f, m, hk, rfl, rfl, f0, f1, hf, hbe, hbx, he, hx, hb⟩ := hrel
    by_cases hlt : k < n1
    · rcases H1.out with hn | ⟨b, off, ks, zs, rfl, hcap, hcm, hbw, hks, hzs, hcs⟩
      · omega
      obtain ⟨hc0, hc1, hk0, hz0, hz1⟩ := hcs k hlt
      clear hcs H1
      generalize ks.getD k 0 = kd at *
      generalize zs.getD k 0 = a at *
      have HF := Lib.hid hf
      have HB := Lib.hid hbx
      clear hf hbx
      unfold maxLen at hcm
      go_wp2_with fail
      refine (Copy_any _ _ _ _ he).mono ?_
      rintro e w3 ⟨bw, rfl, hbw1, hew, hb4⟩
      have he3 := he.below hb4 he.lt
      have hx3 := hx.call hb4
      have hb5 := hb.trans (hb4.mono hb.size)
      have q0 := (hb5.cell (p := ⟨b, off + k * 2, none⟩) hbw).trans hc0
      have q1 := (hb5.cell (p := ⟨b, off + k * 2 + 1, none⟩) hbw).trans hc1
      have x0 := hx3.cell 0 _ rfl
      have x1 := hx3.cell 1 _ rfl
      have n1 := World.new_ne w3 _ q0
      have n2 := World.new_ne w3 _ x0
      go_wp2_with fail
      go_cut [7, 8, 9] (fun s7 s8 s9 wx => Step9 w3 f m kd a s7 s8 s9 wx)
      case first =>
       go_region_held3 (fun w' => w'.cell? ⟨b, off + k * 2, none⟩ = some (.int .u8 kd) ∧ w'.cell? ⟨b, off + k * 2 + 1, none⟩ = some (.int .u8 a) ∧ w'.cell? ⟨w2.heap.size, 0, none⟩ = some (.int .u8 f) ∧ w'.cell? ⟨w2.heap.size, 1, none⟩ = some (.int .u8 m)) (first | assumption | go_keep)
         (first | (go_at_call 33; refine (refDo_any f m kd a _ hz0 hz1).mono ?_; rintro e w4 ⟨rfl, hb6⟩; have Y := keep4 hb6 (by assumption); obtain ⟨hc6, hf6⟩ := bcell hb6))
       all_goals (go_wp2_with fail; go_meet; first | exact step9_a hb6 | exact step9_b hb6)
      case rest =>
        obtain ⟨g, hg3, rfl, rfl, rfl, hy, hb6⟩ := hcut
        have he4 := he3.below hb6 he3.lt
        have hew4 := hew.below hb6 hew.lt
        have hx4 := hx3.call hb6
        have hb7 := hb5.trans (hb6.mono hb5.size)
        have p0 := (hb7.cell (p := ⟨b, off + k * 2, none⟩) hbw).trans hc0
        have p1 := (hb7.cell (p := ⟨b, off + k * 2 + 1, none⟩) hbw).trans hc1
        have lt1 := he3.lt
        have lt2 := hew.lt
        have lt3 := hx3.lt
        have lt4 := he.lt
        have d1 := HB.out
        have HD : Hid (be ≠ bw ∧ w2.heap.size ≠ be ∧ g ≠ be ∧ bw ≠ be) := ⟨by omega, by omega, by omega, by omega⟩
        clear he3 hew hx3 hb5 hb6 q0 q1 x0 x1 n1 n2 hx hb hb4 hbw1 d1 lt1 lt2 lt3 lt4
        go_wp2_with fail
        refine (do_all _ be f m kd a _ he4).mono ?_
        rintro e w5 ⟨rfl, he5, hg5⟩
        have hew5 := hew4.gb hg5 HD.out.2.2.2
        have hx5 := hx4.gb hg5 HD.out.2.1
        have hy5 := hy.gb hg5 HD.out.2.2.1
        have hb8 := hb7.trans (below_of_gb hg5 hbe hb7.size)
        obtain ⟨r0, r1, r2⟩ := doFl_right kd a f f0 f1 HF.out hz0 hz1
        have R2 := Lib.hid r2
        clear he4 hew4 hx4 hy hb7 hg5 p0 p1 r2 hc0 hc1
        generalize doFl kd a f = f' at *
        generalize doMa kd a m = m' at *
        have y0 := hy5.cell 0 _ rfl
        have y1 := hy5.cell 1 _ rfl
        go_wp2_with fail
        refine (same_true be f' m' _ he5 (by rw [R2.out]; simp)).mono ?_
        rintro e w6 ⟨rfl, hb9⟩
        have he6 := he5.below hb9 he5.lt
        have hew6 := hew5.below hb9 hew5.lt
        have hx6 := hx5.call hb9
        have hy6 := hy5.call hb9
        have hb10 := hb8.trans (hb9.mono hb8.size)
        clear he5 hew5 hx5 hy5 hb8 hb9 y0 y1
        have x0 := hx6.cell 0 _ rfl
        have x1 := hx6.cell 1 _ rfl
        go_wp2_with fail
        refine (same_true bw f m _ hew6 (by rw [HF.out]; simp)).mono ?_
        rintro e w7 ⟨rfl, hb11⟩
        have he7 := he6.below hb11 he6.lt
        have hx7 := hx6.call hb11
        have hy7 := hy6.call hb11
        have hb12 := hb10.trans (hb11.mono hb10.size)
        have nxe := HD.out.2.1
        have HD2 : Hid (w2.heap.size ≠ be) := nxe
        clear he6 hew6 hx6 hy6 hb10 hb11 x0 x1 nxe
        by_cases h5 : (k : Int) % 5 = 4
        · have h5b : ((k : Int) % 5 == 4) = true := by rw [h5]; rfl
          clear h5
          go_wp2_with fail
          refine (Copy_any _ _ _ _ he7).mono ?_
          rintro e w8 ⟨bn, rfl, hbn, he8, hb13⟩
          have hx8 := hx7.call hb13
          have hy8 := hy7.call hb13
          have hb14 := hb12.trans (hb13.mono hb12.size)
          have y0 := hy8.cell 0 _ rfl
          have y1 := hy8.cell 1 _ rfl
          have x0 := hx8.cell 0 _ rfl
          have x1 := hx8.cell 1 _ rfl
          have xf0 := hx8.free 0
          have xf1 := hx8.free 1
          have HE : Hid (w2.heap.size ≠ bn ∧ w.heap.size ≤ bn) := ⟨by have := hx7.lt; omega, Nat.le_trans hb12.size hbn⟩
          clear hbn he7 hx7 hy7 hb13 hb12
          go_wp2_with fail
          exact ⟨steps_close hlt r0 r1 R2.out HE.out.2 HE.out.1 hb3.size he8 hx8 hb14, by simp [intOf]; omega⟩
        · have h5b : ((k : Int) % 5 == 4) = false := by simpa using h5
          have y0 := hy7.cell 0 _ rfl
          have y1 := hy7.cell 1 _ rfl
          have x0 := hx7.cell 0 _ rfl
          have x1 := hx7.cell 1 _ rfl
          have xf0 := hx7.free 0
          have xf1 := hx7.free 1
          clear h5
          go_wp2_with fail
          exact ⟨steps_close hlt r0 r1 R2.out hbe HD2.out hb3.size he7 hx7 hb12, by simp [intOf]; omega⟩
    · obtain rfl : k = n1 := by omega
      have x0 := hx.cell 0 _ rfl
      have x1 := hx.cell 1 _ rfl
      have HF := Lib.hid hf
      clear hf hbx
      go_wp2_with fail
      refine (same_true be f m _ he (by rw [HF.out]; simp)).mono ?_
      rintro e w6 ⟨rfl, hb9⟩
      go_wp2
      go_ret
      exact ⟨rfl, hb.trans (hb9.mono hb.size)⟩
end Go.Proofs.Ytihdnjgjjhhpgaa
