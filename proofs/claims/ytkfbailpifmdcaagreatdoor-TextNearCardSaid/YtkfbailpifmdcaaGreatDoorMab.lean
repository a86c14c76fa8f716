/- Bits LimC LimD LimE LimF -/
import Derived.Test.YtkfbailpifmdcaaGreatDoorMaa
import Derived.Test.YtkfbailpifmdcaaGreatDoorShelf
section
namespace Go.Proofs.YtkfbailpifmdcaaGreatDoor
open Go.RowKit Go.Shelf

def aS (x y c : Nat) : Nat := (x + y + c) % 18446744073709551616
def aC (x y c : Nat) : Nat := (x + y + c) / 18446744073709551616
def sD (x y c : Nat) : Nat := (x + 18446744073709551616 - y - c) % 18446744073709551616
def sB (x y c : Nat) : Nat := if x < y + c then 1 else 0
def mH (x y : Nat) : Nat := x * y / 18446744073709551616
def mL (x y : Nat) : Nat := x * y % 18446744073709551616
theorem aS_lt (x y c : Nat) : aS x y c < 18446744073709551616 := Nat.mod_lt _ (by decide)
theorem sD_lt (x y c : Nat) : sD x y c < 18446744073709551616 := Nat.mod_lt _ (by decide)
theorem mL_lt (x y : Nat) : mL x y < 18446744073709551616 := Nat.mod_lt _ (by decide)
theorem aC_le {x y c : Nat} (hx : x < 18446744073709551616) (hy : y < 18446744073709551616) (hc : c ≤ 1) : aC x y c ≤ 1 := by unfold aC; omega
theorem sB_le (x y c : Nat) : sB x y c ≤ 1 := by unfold sB; split <;> omega
theorem aS_aC (x y c : Nat) : aS x y c + 18446744073709551616 * aC x y c = x + y + c := by unfold aS aC; omega
theorem sD_sB {x y c : Nat} (hx : x < 18446744073709551616) (hy : y < 18446744073709551616) (hc : c ≤ 1) : sD x y c + y + c = x + 18446744073709551616 * sB x y c := by
  unfold sD sB; split <;> omega
theorem mL_mH (x y : Nat) : mL x y + 18446744073709551616 * mH x y = x * y := by unfold mL mH; omega
theorem mH_le {x y : Nat} (hx : x < 18446744073709551616) (hy : y < 18446744073709551616) : mH x y ≤ 18446744073709551614 := by
  have : x * y ≤ 18446744073709551615 * 18446744073709551615 := Nat.mul_le_mul (by omega) (by omega)
  unfold mH; omega

theorem add64 (x y c : Nat) (hc : c ≤ 1) (w : World) : (callFunc 75 #[.int .u64 ((x : Nat) : Int), .int .u64 ((y : Nat) : Int), .int .u64 ((c : Nat) : Int)]).run Tryz.prog w =
    .ok (.value (.tuple #[.int .u64 ((aS x y c : Nat) : Int), .int .u64 ((aC x y c : Nat) : Int)])) w :=
  Any7.bits_Add64 Tryz.lays7_25 x y c hc w
theorem add64_y0 (x c : Nat) (hc : c ≤ 1) (w : World) : (callFunc 75 #[.int .u64 ((x : Nat) : Int), .int .u64 0, .int .u64 ((c : Nat) : Int)]).run Tryz.prog w =
    .ok (.value (.tuple #[.int .u64 ((aS x 0 c : Nat) : Int), .int .u64 ((aC x 0 c : Nat) : Int)])) w := add64 x 0 c hc w
theorem add64_c0 (x y : Nat) (w : World) : (callFunc 75 #[.int .u64 ((x : Nat) : Int), .int .u64 ((y : Nat) : Int), .int .u64 0]).run Tryz.prog w =
    .ok (.value (.tuple #[.int .u64 ((aS x y 0 : Nat) : Int), .int .u64 ((aC x y 0 : Nat) : Int)])) w := add64 x y 0 (by decide) w
theorem sub64 (x y c : Nat) (hc : c ≤ 1) (w : World) : (callFunc 86 #[.int .u64 ((x : Nat) : Int), .int .u64 ((y : Nat) : Int), .int .u64 ((c : Nat) : Int)]).run Tryz.prog w =
    .ok (.value (.tuple #[.int .u64 ((sD x y c : Nat) : Int), .int .u64 ((sB x y c : Nat) : Int)])) w :=
  Any7.bits_Sub64 Tryz.lays7_26 x y c hc w
theorem sub64_y0 (x c : Nat) (hc : c ≤ 1) (w : World) : (callFunc 86 #[.int .u64 ((x : Nat) : Int), .int .u64 0, .int .u64 ((c : Nat) : Int)]).run Tryz.prog w =
    .ok (.value (.tuple #[.int .u64 ((sD x 0 c : Nat) : Int), .int .u64 ((sB x 0 c : Nat) : Int)])) w := sub64 x 0 c hc w
theorem mul64 (x y : Nat) (hx : x < 18446744073709551616) (hy : y < 18446744073709551616) (w : World) :
    Calls Tryz.prog 87 #[.int .u64 ((x : Nat) : Int), .int .u64 ((y : Nat) : Int)] w fun e w' => e = .returned (.tuple #[.int .u64 ((mH x y : Nat) : Int), .int .u64 ((mL x y : Nat) : Int)]) ∧ w = w' :=
  (Tryz.bits_Mul64 x y hx hy w).mono fun _ _ ⟨h, h2⟩ => ⟨h, h2.symm⟩

theorem blk_setW {w : World} {g : Nat} {z : List Nat} {e : TypeId} (h : Blk w g (wArr z) e) (i x : Nat) : Blk (w.setCell ⟨g, i, none⟩ (.int .u64 ((x : Nat) : Int))) g (wArr (z.set i x)) e := by
  have := h.set i (.int .u64 ((x : Nat) : Int))
  rwa [wArr_set z i x _ rfl] at this

/-- One step of a sum of words. -/
theorem step_sum {V X Y P s c c' x y : Nat} (h1 : V + c * P = X + Y) (h2 : s + 18446744073709551616 * c' = x + y + c) : (V + s * P) + c' * (18446744073709551616 * P) = (X + x * P) + (Y + y * P) := by
  grind
theorem step_diff {V X Y P s c c' x y : Nat} (h1 : V + Y = X + c * P) (h2 : s + y + c = x + 18446744073709551616 * c') : (V + s * P) + (Y + y * P) = (X + x * P) + c' * (18446744073709551616 * P) := by
  grind
end Go.Proofs.YtkfbailpifmdcaaGreatDoor
end

section
namespace Go.Proofs.YtkfbailpifmdcaaGreatDoor
open Go.RowKit

def AddRel (w : World) (x y : List Nat) (u6 u22 : Value) (wr : World) : Prop :=
  ∃ (i c : Nat) (z : List Nat), i ≤ x.length ∧ u22 = .int .i64 i ∧ u6 = .int .u64 c ∧ c ≤ 1 ∧ z.length = x.length + 1 ∧ okW z ∧ vt z i + c * pw i = vt x i + vt y i ∧
    Blk wr w.heap.size (wArr z) 22 ∧ Below w.heap.size w wr

theorem add_close {w wr : World} {x y z : List Nat} {i c s c' : Nat} (hs : vt z i + c * pw i = vt x i + vt y i) (hzl : z.length = x.length + 1) (hzo : okW z) (hlt : i < x.length) (h1 : s < 18446744073709551616) (h2 : c' ≤ 1)
    (h3 : s + 18446744073709551616 * c' = gw x i + gw y i + c) (hz : Blk wr w.heap.size (wArr z) 22) (hb : Below w.heap.size w wr) :
    AddRel w x y (.int .u64 ((c' : Nat) : Int)) (.int .i64 (((i : Nat) : Int) + 1)) (wr.setCell ⟨w.heap.size, i, none⟩ (.int .u64 ((s : Nat) : Int))) := by
  refine ⟨i + 1, c', z.set i s, by omega, by go_num, rfl, h2, by rw [List.length_set]; exact hzl, okW_set hzo _ _ h1, ?_, blk_setW hz i s, hb.setCell (Nat.le_refl _) _⟩
  rw [vt_succ, vt_set _ _ _ _ (Nat.le_refl _), gw_set_same _ _ _ (by omega), pw_succ, vt_succ, vt_succ]
  exact step_sum hs h3

theorem add_value {x y z : List Nat} {c : Nat} (hs : vt z x.length + c * pw x.length = vt x x.length + vt y x.length) (hzl : z.length = x.length + 1) (hxy : y.length ≤ x.length) :
    valN (z.set x.length c) = valN x + valN y := by
  rw [← vt_all (z.set x.length c) (x.length + 1) (by rw [List.length_set]; omega), vt_succ, vt_set _ _ _ _ (Nat.le_refl _), gw_set_same _ _ _ (by omega), hs, vt_all _ _ (Nat.le_refl _), vt_all _ _ hxy]

set_option maxRecDepth 100000 in
set_option maxHeartbeats 2000000 in
theorem Add_ge (lo : Nat) (a b : Value) (xa xb : List Nat) (w : World) (ha : Words lo w a xa) (hb : Words lo w b xb) (hla : xa.length ≤ 1099511627775) (_ : xb.length ≤ 1099511627775) (hxy : xb.length ≤ xa.length) :
    Calls Tryz.prog 39 #[a, b] w (NumPost w w.heap.size (valN xa + valN xb)) := by
  have hoka := ha.ok
  have hokb := hb.ok
  obtain ⟨pa, ca, rfl, hca, hcma, _, hxa⟩ := ha
  obtain ⟨pb, cb, rfl, hcb, hcmb, _, hxb⟩ := hb
  have HXA := Lib.hid hxa
  have HXB := Lib.hid hxb
  clear hxa hxb
  have hmk := make_words 50 Tryz.underlying50 (xa.length + 1) (by omega)
  have hc1 : (((xa.length : Nat) : Int) + 1) = ((xa.length + 1 : Nat) : Int) := by omega
  have hmk' : ∀ w : World, (Instr.makeSlice 50 (.int .i64 (((xa.length : Nat) : Int) + 1)) (.int .i64 (((xa.length : Nat) : Int) + 1))).run Tryz.prog w = .ok (.slice (some ⟨w.heap.size, 0, none⟩) (xa.length + 1) (xa.length + 1)) (w.alloc (.cells (wArr (List.replicate (xa.length + 1) 0)) 22)) := fun w => by rw [hc1]; exact hmk w
  clear hmk hc1
  go_enter Tryz.func39, Tryz.ntmps39
  go_wp2_with fail
  clear hmk'
  go_loopw [6, 22] (fun u6 u22 wr => AddRel w xa xb u6 u22 wr) (fun _ u22 _ => xa.length - (intOf u22).toNat)
  case atStart => exact ⟨0, 0, List.replicate (xa.length + 1) 0, by omega, rfl, rfl, by omega, by simp, okW_replicate _, by simp [vt], Blk.new _ _ _, (Below.refl _ _).alloc (Nat.le_refl _) _⟩
  case round =>
    obtain ⟨i, c, z, hi, rfl, rfl, hc, hzl, hzo, hsum, hz, hbl⟩ := hrel
    have HS := Lib.hid hsum
    have HZ := Lib.hid hzl
    clear hsum hzl
    by_cases hlt : i < xa.length
    · obtain ⟨b1, o1, rfl, _, hcx⟩ := HXA.out i hlt
      have hcx' := (hbl.cell (World.block_lt_of_cell? w _ hcx)).trans hcx
      have zc := hz.cell i _ (wArr_get z i (by have := HZ.out; omega))
      have zf := hz.free i
      have hxi := okW_gw hoka i
      have hyi := okW_gw hokb i
      clear hcx
      by_cases hlt2 : i < xb.length
      · obtain ⟨b2, o2, rfl, _, hcy⟩ := HXB.out i hlt2
        have hcy' := (hbl.cell (World.block_lt_of_cell? w _ hcy)).trans hcy
        have hadd := add64 (gw xa i) (gw xb i) c hc
        clear hcy
        go_wp2
        go_roundw
        case rel => exact add_close HS.out HZ.out hzo hlt (aS_lt _ _ _) (aC_le hxi hyi hc) (aS_aC _ _ _) hz hbl
        case measure => simp [intOf]; omega
      · have hadd := add64_y0 (gw xa i) c hc
        have hy0 : gw xb i = 0 := gw_ge (by omega)
        have HY := Lib.hid hy0
        clear hy0
        go_wp2
        go_roundw
        case rel => exact add_close HS.out HZ.out hzo hlt (aS_lt _ _ _) (aC_le hxi (by omega) hc) (by rw [HY.out]; exact aS_aC _ _ _) hz hbl
        case measure => simp [intOf]; omega
    · obtain rfl : i = xa.length := by omega
      have zc := hz.cell xa.length _ (wArr_get z xa.length (by have := HZ.out; omega))
      have zf := hz.free xa.length
      have hc2 : c < 18446744073709551616 := by omega
      go_wp2_with fail
      have hz2 := blk_setW hz xa.length c
      have hbl2 := hbl.setCell (show w.heap.size ≤ (⟨w.heap.size, xa.length, none⟩ : Addr).block from Nat.le_refl _) (.int .u64 ((c : Nat) : Int))
      have hw2 := Words.ofBlk_all (lo := w.heap.size) hz2 (Nat.le_refl _) (okW_set hzo _ _ hc2) (by rw [List.length_set]; have := HZ.out; omega)
      rw [List.length_set, HZ.out] at hw2
      refine (Trim_any w.heap.size _ _ _ hw2).mono ?_
      rintro e w3 ⟨v, rfl, hv, rfl⟩
      rw [add_value HS.out HZ.out hxy] at hv
      go_wp2
      go_ret
      exact ⟨_, rfl, hv, hbl2⟩

set_option maxRecDepth 100000 in
set_option maxHeartbeats 2000000 in
theorem Add_lt (lo : Nat) (a b : Value) (xa xb : List Nat) (w : World) (ha : Words lo w a xa) (hb : Words lo w b xb) (_ : xa.length ≤ 1099511627775) (hlb : xb.length ≤ 1099511627775) (hxy : xa.length < xb.length) :
    Calls Tryz.prog 39 #[a, b] w (NumPost w w.heap.size (valN xa + valN xb)) := by
  have hoka := ha.ok
  have hokb := hb.ok
  obtain ⟨pa, ca, rfl, hca, hcma, _, hxa⟩ := ha
  obtain ⟨pb, cb, rfl, hcb, hcmb, _, hxb⟩ := hb
  have HXA := Lib.hid hxa
  have HXB := Lib.hid hxb
  clear hxa hxb
  have hmk := make_words 50 Tryz.underlying50 (xb.length + 1) (by omega)
  have hc1 : (((xb.length : Nat) : Int) + 1) = ((xb.length + 1 : Nat) : Int) := by omega
  have hmk' : ∀ w : World, (Instr.makeSlice 50 (.int .i64 (((xb.length : Nat) : Int) + 1)) (.int .i64 (((xb.length : Nat) : Int) + 1))).run Tryz.prog w = .ok (.slice (some ⟨w.heap.size, 0, none⟩) (xb.length + 1) (xb.length + 1)) (w.alloc (.cells (wArr (List.replicate (xb.length + 1) 0)) 22)) := fun w => by rw [hc1]; exact hmk w
  clear hmk hc1
  go_enter Tryz.func39, Tryz.ntmps39
  go_wp2_with fail
  clear hmk'
  go_loopw [6, 22] (fun u6 u22 wr => AddRel w xb xa u6 u22 wr) (fun _ u22 _ => xb.length - (intOf u22).toNat)
  case atStart => exact ⟨0, 0, List.replicate (xb.length + 1) 0, by omega, rfl, rfl, by omega, by simp, okW_replicate _, by simp [vt], Blk.new _ _ _, (Below.refl _ _).alloc (Nat.le_refl _) _⟩
  case round =>
    obtain ⟨i, c, z, hi, rfl, rfl, hc, hzl, hzo, hsum, hz, hbl⟩ := hrel
    have HS := Lib.hid hsum
    have HZ := Lib.hid hzl
    clear hsum hzl
    by_cases hlt : i < xb.length
    · obtain ⟨b1, o1, rfl, _, hcx⟩ := HXB.out i hlt
      have hcx' := (hbl.cell (World.block_lt_of_cell? w _ hcx)).trans hcx
      have zc := hz.cell i _ (wArr_get z i (by have := HZ.out; omega))
      have zf := hz.free i
      have hxi := okW_gw hokb i
      have hyi := okW_gw hoka i
      clear hcx
      by_cases hlt2 : i < xa.length
      · obtain ⟨b2, o2, rfl, _, hcy⟩ := HXA.out i hlt2
        have hcy' := (hbl.cell (World.block_lt_of_cell? w _ hcy)).trans hcy
        have hadd := add64 (gw xb i) (gw xa i) c hc
        clear hcy
        go_wp2
        go_roundw
        case rel => exact add_close HS.out HZ.out hzo hlt (aS_lt _ _ _) (aC_le hxi hyi hc) (aS_aC _ _ _) hz hbl
        case measure => simp [intOf]; omega
      · have hadd := add64_y0 (gw xb i) c hc
        have hy0 : gw xa i = 0 := gw_ge (by omega)
        have HY := Lib.hid hy0
        clear hy0
        go_wp2
        go_roundw
        case rel => exact add_close HS.out HZ.out hzo hlt (aS_lt _ _ _) (aC_le hxi (by omega) hc) (by rw [HY.out]; exact aS_aC _ _ _) hz hbl
        case measure => simp [intOf]; omega
    · obtain rfl : i = xb.length := by omega
      have zc := hz.cell xb.length _ (wArr_get z xb.length (by have := HZ.out; omega))
      have zf := hz.free xb.length
      have hc2 : c < 18446744073709551616 := by omega
      go_wp2_with fail
      have hz2 := blk_setW hz xb.length c
      have hbl2 := hbl.setCell (show w.heap.size ≤ (⟨w.heap.size, xb.length, none⟩ : Addr).block from Nat.le_refl _) (.int .u64 ((c : Nat) : Int))
      have hw2 := Words.ofBlk_all (lo := w.heap.size) hz2 (Nat.le_refl _) (okW_set hzo _ _ hc2) (by rw [List.length_set]; have := HZ.out; omega)
      rw [List.length_set, HZ.out] at hw2
      refine (Trim_any w.heap.size _ _ _ hw2).mono ?_
      rintro e w3 ⟨v, rfl, hv, rfl⟩
      rw [add_value HS.out HZ.out (by omega)] at hv
      go_wp2
      go_ret
      exact ⟨_, rfl, by rw [Nat.add_comm (valN xa)]; exact hv, hbl2⟩

theorem Add_any (lo : Nat) (a b : Value) (xa xb : List Nat) (w : World) (ha : Words lo w a xa) (hb : Words lo w b xb) (hla : xa.length ≤ 1099511627775) (hlb : xb.length ≤ 1099511627775) :
    Calls Tryz.prog 39 #[a, b] w (NumPost w w.heap.size (valN xa + valN xb)) := by
  by_cases h : xb.length ≤ xa.length
  · exact Add_ge lo a b xa xb w ha hb hla hlb h
  · exact Add_lt lo a b xa xb w ha hb hla hlb (by omega)
end Go.Proofs.YtkfbailpifmdcaaGreatDoor
end

section
namespace Go.Proofs.YtkfbailpifmdcaaGreatDoor
open Go.RowKit

theorem vt_le (l : List Nat) (i : Nat) : vt l i ≤ valN l := by rw [vt_take]; have := valN_split l i; omega
theorem vt_big {l : List Nat} {i : Nat} (h : valN l < pw i) : vt l i = valN l := by
  have h1 := valN_split l i
  rw [vt_take]
  have : valN (l.drop i) = 0 := by
    apply Nat.eq_zero_of_not_pos
    intro hp
    have := Nat.mul_le_mul_left (pw i) hp
    omega
  rw [this] at h1; omega

def SubRel (w : World) (x y : List Nat) (u6 u14 : Value) (wr : World) : Prop :=
  ∃ (i c : Nat) (z : List Nat), i ≤ x.length ∧ u14 = .int .i64 i ∧ u6 = .int .u64 c ∧ c ≤ 1 ∧ z.length = x.length ∧ okW z ∧ vt z i + vt y i = vt x i + c * pw i ∧
    Blk wr w.heap.size (wArr z) 22 ∧ Below w.heap.size w wr

theorem sub_close {w wr : World} {x y z : List Nat} {i c s c' : Nat} (hs : vt z i + vt y i = vt x i + c * pw i) (hzl : z.length = x.length) (hzo : okW z) (hlt : i < x.length) (h1 : s < 18446744073709551616) (h2 : c' ≤ 1)
    (h3 : s + gw y i + c = gw x i + 18446744073709551616 * c') (hz : Blk wr w.heap.size (wArr z) 22) (hb : Below w.heap.size w wr) :
    SubRel w x y (.int .u64 ((c' : Nat) : Int)) (.int .i64 (((i : Nat) : Int) + 1)) (wr.setCell ⟨w.heap.size, i, none⟩ (.int .u64 ((s : Nat) : Int))) := by
  refine ⟨i + 1, c', z.set i s, by omega, by go_num, rfl, h2, by rw [List.length_set]; exact hzl, okW_set hzo _ _ h1, ?_, blk_setW hz i s, hb.setCell (Nat.le_refl _) _⟩
  rw [vt_succ, vt_set _ _ _ _ (Nat.le_refl _), gw_set_same _ _ _ (by omega), pw_succ, vt_succ, vt_succ]
  exact step_diff hs h3

theorem sub_value {x y z : List Nat} {c : Nat} (hx : okW x) (hzo : okW z) (hs : vt z x.length + vt y x.length = vt x x.length + c * pw x.length) (hzl : z.length = x.length) (hyx : valN y ≤ valN x) :
    valN z = valN x - valN y := by
  have e1 := vt_all z x.length (by omega)
  have e2 := vt_all x x.length (Nat.le_refl _)
  have e3 := valN_lt hx
  have e4 := vt_big (l := y) (i := x.length) (by omega)
  have e5 := valN_lt hzo
  rw [hzl] at e5
  rw [e1, e2, e4] at hs
  have : c = 0 := by
    apply Nat.eq_zero_of_not_pos
    intro hp
    have := Nat.mul_le_mul_right (pw x.length) hp
    omega
  subst this
  omega

set_option maxRecDepth 100000 in
set_option maxHeartbeats 2000000 in
theorem Sub_any (lo : Nat) (a b : Value) (xa xb : List Nat) (w : World) (ha : Words lo w a xa) (hb : Words lo w b xb) (hla : xa.length ≤ 1099511627775) (hv : valN xb ≤ valN xa) :
    Calls Tryz.prog 48 #[a, b] w (NumPost w w.heap.size (valN xa - valN xb)) := by
  have hoka := ha.ok
  have hokb := hb.ok
  have HV := Lib.hid hv
  clear hv
  obtain ⟨pa, ca, rfl, hca, hcma, _, hxa⟩ := ha
  obtain ⟨pb, cb, rfl, hcb, hcmb, _, hxb⟩ := hb
  have HXA := Lib.hid hxa
  have HXB := Lib.hid hxb
  clear hxa hxb
  have hmk := make_words 50 Tryz.underlying50 xa.length (by omega)
  go_enter Tryz.func48, Tryz.ntmps48
  go_wp2_with fail
  clear hmk
  go_loopw [6, 14] (fun u6 u14 wr => SubRel w xa xb u6 u14 wr) (fun _ u14 _ => xa.length - (intOf u14).toNat)
  case atStart => exact ⟨0, 0, List.replicate xa.length 0, by omega, rfl, rfl, by omega, by simp, okW_replicate _, by simp [vt], Blk.new _ _ _, (Below.refl _ _).alloc (Nat.le_refl _) _⟩
  case round =>
    obtain ⟨i, c, z, hi, rfl, rfl, hc, hzl, hzo, hsum, hz, hbl⟩ := hrel
    have HS := Lib.hid hsum
    have HZ := Lib.hid hzl
    clear hsum hzl
    by_cases hlt : i < xa.length
    · obtain ⟨b1, o1, rfl, _, hcx⟩ := HXA.out i hlt
      have hcx' := (hbl.cell (World.block_lt_of_cell? w _ hcx)).trans hcx
      have zc := hz.cell i _ (wArr_get z i (by have := HZ.out; omega))
      have zf := hz.free i
      have hxi := okW_gw hoka i
      have hyi := okW_gw hokb i
      clear hcx
      by_cases hlt2 : i < xb.length
      · obtain ⟨b2, o2, rfl, _, hcy⟩ := HXB.out i hlt2
        have hcy' := (hbl.cell (World.block_lt_of_cell? w _ hcy)).trans hcy
        have hadd := sub64 (gw xa i) (gw xb i) c hc
        clear hcy
        go_wp2
        go_roundw
        case rel => exact sub_close HS.out HZ.out hzo hlt (sD_lt _ _ _) (sB_le _ _ _) (sD_sB hxi hyi hc) hz hbl
        case measure => simp [intOf]; omega
      · have hadd := sub64_y0 (gw xa i) c hc
        have hy0 : gw xb i = 0 := gw_ge (by omega)
        have HY := Lib.hid hy0
        clear hy0
        go_wp2
        go_roundw
        case rel => exact sub_close HS.out HZ.out hzo hlt (sD_lt _ _ _) (sB_le _ _ _) (by rw [HY.out]; exact sD_sB hxi (by omega) hc) hz hbl
        case measure => simp [intOf]; omega
    · obtain rfl : i = xa.length := by omega
      go_wp2_with fail
      have hw2 := Words.ofBlk_all (lo := w.heap.size) hz (Nat.le_refl _) hzo (by have := HZ.out; omega)
      rw [HZ.out] at hw2
      refine (Trim_any w.heap.size _ _ _ hw2).mono ?_
      rintro e w3 ⟨v, rfl, hv, rfl⟩
      rw [sub_value hoka hzo HS.out HZ.out HV.out] at hv
      go_wp2
      go_ret
      exact ⟨_, rfl, hv, hbl⟩
end Go.Proofs.YtkfbailpifmdcaaGreatDoor
end

section
namespace Go.Proofs.YtkfbailpifmdcaaGreatDoor
open Go.RowKit

/-- One step of a product of words. -/
theorem mul_step {x y c zk : Nat} (hx : x < 18446744073709551616) (hy : y < 18446744073709551616) (hc : c < 18446744073709551616) (hz : zk < 18446744073709551616) :
    aS zk (aS (mL x y) c 0) 0 + 18446744073709551616 * (mH x y + aC (mL x y) c 0 + aC zk (aS (mL x y) c 0) 0) = x * y + c + zk ∧
    mH x y + aC (mL x y) c 0 ≤ 18446744073709551615 ∧ mH x y + aC (mL x y) c 0 + aC zk (aS (mL x y) c 0) 0 ≤ 18446744073709551615 := by
  have h1 := mL_mH x y
  have h2 := aS_aC (mL x y) c 0
  have h3 := aS_aC zk (aS (mL x y) c 0) 0
  have h4 : x * y ≤ 18446744073709551615 * 18446744073709551615 := Nat.mul_le_mul (by omega) (by omega)
  have h5 := aS_lt (mL x y) c 0
  have h6 := aS_lt zk (aS (mL x y) c 0) 0
  have h7 := mL_lt x y
  generalize x * y = t at *
  generalize aS zk (aS (mL x y) c 0) 0 = s at *
  generalize aC zk (aS (mL x y) c 0) 0 = c2 at *
  generalize aS (mL x y) c 0 = s1 at *
  generalize aC (mL x y) c 0 = c1 at *
  generalize mL x y = l at *
  generalize mH x y = h at *
  omega

def MulIn (g : Nat) (w : World) (x y : List Nat) (i : Nat) (u8 u33 : Value) (wr : World) : Prop :=
  ∃ (j c : Nat) (z : List Nat), j ≤ y.length ∧ u33 = .int .i64 j ∧ u8 = .int .u64 c ∧ c < 18446744073709551616 ∧ z.length = x.length + y.length ∧ okW z ∧
    vt z (i + y.length) + c * pw (i + j) = vt x i * valN y + gw x i * pw i * vt y j ∧ Blk wr g (wArr z) 22 ∧ Below w.heap.size w wr
def MulOut (g : Nat) (w : World) (x y : List Nat) (u26 : Value) (wr : World) : Prop :=
  ∃ (i : Nat) (z : List Nat), i ≤ x.length ∧ u26 = .int .i64 i ∧ z.length = x.length + y.length ∧ okW z ∧ vt z (i + y.length) = vt x i * valN y ∧ Blk wr g (wArr z) 22 ∧ Below w.heap.size w wr

theorem mul_in_close {g : Nat} {w wr : World} {x y z : List Nat} {i j c s h : Nat} {e : Int} (he : e = ((h : Nat) : Int)) (hg : w.heap.size ≤ g) (hi : i < x.length) (hj : j < y.length) (hzl : z.length = x.length + y.length) (hzo : okW z)
    (hs : vt z (i + y.length) + c * pw (i + j) = vt x i * valN y + gw x i * pw i * vt y j) (h1 : s < 18446744073709551616) (h2 : h ≤ 18446744073709551615)
    (h3 : s + 18446744073709551616 * h = gw x i * gw y j + c + gw z (i + j)) (hz : Blk wr g (wArr z) 22) (hb : Below w.heap.size w wr) :
    MulIn g w x y i (.int .u64 e) (.int .i64 (((j : Nat) : Int) + 1)) (wr.setCell ⟨g, i + j, none⟩ (.int .u64 ((s : Nat) : Int))) := by
  subst he
  refine ⟨j + 1, h, z.set (i + j) s, by omega, by go_num, rfl, by omega, by rw [List.length_set]; exact hzl, okW_set hzo _ _ h1, ?_, blk_setW hz (i + j) s, hb.setCell hg _⟩
  have e := vt_set_in z (i + j) s (by omega) (i + y.length) (by omega)
  rw [vt_succ, ← Nat.add_assoc, pw_succ, pw_add]
  rw [pw_add] at e hs
  generalize vt (z.set (i + j) s) (i + y.length) = V' at *
  generalize vt z (i + y.length) = V at *
  generalize gw z (i + j) = zk at *
  generalize gw x i = xi at *
  generalize gw y j = yj at *
  generalize pw i = P at *
  generalize pw j = Q at *
  generalize vt y j = Yj at *
  generalize vt x i * valN y = W at *
  grind

theorem mul_out_close {g : Nat} {w wr : World} {x y z : List Nat} {i c : Nat} (hg : w.heap.size ≤ g) (hi : i < x.length) (hzl : z.length = x.length + y.length) (hzo : okW z) (hc : c < 18446744073709551616)
    (hs : vt z (i + y.length) + c * pw (i + y.length) = vt x i * valN y + gw x i * pw i * vt y y.length) (hz : Blk wr g (wArr z) 22) (hb : Below w.heap.size w wr) :
    MulOut g w x y (.int .i64 (((i : Nat) : Int) + 1)) (wr.setCell ⟨g, i + y.length, none⟩ (.int .u64 ((c : Nat) : Int))) := by
  refine ⟨i + 1, z.set (i + y.length) c, by omega, by go_num, by rw [List.length_set]; exact hzl, okW_set hzo _ _ hc, ?_, blk_setW hz _ c, hb.setCell hg _⟩
  rw [show i + 1 + y.length = (i + y.length) + 1 by omega, vt_succ, vt_set _ _ _ _ (Nat.le_refl _), gw_set_same _ _ _ (by omega), hs, vt_all y _ (Nat.le_refl _), vt_succ, Nat.add_mul]

set_option maxRecDepth 100000 in
set_option maxHeartbeats 2000000 in
theorem Mul_any (lo : Nat) (a b : Value) (xa xb : List Nat) (w : World) (ha : Words lo w a xa) (hb : Words lo w b xb) (hla : xa.length ≤ 549755813888) (hlb : xb.length ≤ 549755813888) :
    Calls Tryz.prog 49 #[a, b] w (NumPost w w.heap.size (valN xa * valN xb)) := by
  have hna := limbsOf_len (valN_lt ha.ok)
  have hnb := limbsOf_len (valN_lt hb.ok)
  have e1 := valN_limbsOf (valN xa)
  have e2 := valN_limbsOf (valN xb)
  go_enter Tryz.func49, Tryz.ntmps49
  go_wp2_with fail
  refine (Trim_any lo _ xa _ ha).mono ?_
  rintro e w1 ⟨v1, rfl, hv1, hw⟩
  subst hw
  go_wp2_with fail
  refine (Trim_any lo _ xb _ hb).mono ?_
  rintro e w1 ⟨v2, rfl, hv2, hw⟩
  subst hw
  have hv1' := hv1.words
  have hv2' := hv2.words
  clear hv1 hv2 ha hb
  generalize limbsOf (valN xa) = x at *
  generalize limbsOf (valN xb) = y at *
  have E1 := Lib.hid e1
  have E2 := Lib.hid e2
  clear e1 e2
  have hokx := hv1'.ok
  have hoky := hv2'.ok
  obtain ⟨pa, ca, rfl, hca, hcma, _, hxa⟩ := hv1'
  obtain ⟨pb, cb, rfl, hcb, hcmb, _, hxb⟩ := hv2'
  have HXA := Lib.hid hxa
  have HXB := Lib.hid hxb
  have hlx : x.length ≤ 549755813888 := Nat.le_trans hna hla
  have hly : y.length ≤ 549755813888 := Nat.le_trans hnb hlb
  clear hxa hxb hna hnb hla hlb
  have hmk := make_words 50 Tryz.underlying50 (x.length + y.length) (by omega)
  have hmk' : ∀ w : World, (Instr.makeSlice 50 (.int .i64 (((x.length : Nat) : Int) + ((y.length : Nat) : Int))) (.int .i64 (((x.length : Nat) : Int) + ((y.length : Nat) : Int)))).run Tryz.prog w = .ok (.slice (some ⟨w.heap.size, 0, none⟩) (x.length + y.length) (x.length + y.length)) (w.alloc (.cells (wArr (List.replicate (x.length + y.length) 0)) 22)) := fun w => by
    rw [show ((x.length : Nat) : Int) + ((y.length : Nat) : Int) = ((x.length + y.length : Nat) : Int) by omega]; exact hmk w
  clear hmk
  go_wp2_with fail
  clear hmk'
  go_loopw [26] (fun u26 wr => MulOut w.heap.size w x y u26 wr) (fun u26 _ => x.length - (intOf u26).toNat)
  case atStart => exact ⟨0, List.replicate (x.length + y.length) 0, by omega, rfl, by simp, okW_replicate _, by rw [vt_replicate]; simp [vt], Blk.new _ _ _, (Below.refl _ _).alloc (Nat.le_refl _) _⟩
  case round =>
    obtain ⟨i, z, hi, rfl, hzl, hzo, hsum, hz, hbl⟩ := hrel
    by_cases hlt : i < x.length
    · obtain ⟨b1, o1, rfl, _, hcx⟩ := HXA.out i hlt
      have hcx' := (hbl.cell (World.block_lt_of_cell? w _ hcx)).trans hcx
      have hxi := okW_gw hokx i
      have start : MulIn w.heap.size w x y i (.int .u64 0) (.int .i64 0) wr := ⟨0, 0, z, by omega, rfl, rfl, by omega, hzl, hzo, by rw [hsum]; simp [vt], hz, hbl⟩
      clear hcx hzl hzo hsum hz hbl
      go_wp2_with fail
      obtain ⟨wo, rfl⟩ : ∃ wo : World, wo = wr := ⟨_, rfl⟩
      go_loopw [8, 33] (fun u8 u33 wr => MulIn w.heap.size w x y i u8 u33 wr) (fun _ u33 _ => y.length - (intOf u33).toNat)
      case atStart => exact start
      case round =>
        clear start hcx'
        obtain ⟨j, c, z, hj, rfl, rfl, hc, hzl, hzo, hsum, hz, hbl⟩ := hrel
        have HS := Lib.hid hsum
        have HZ := Lib.hid hzl
        clear hsum hzl
        by_cases hlt2 : j < y.length
        · obtain ⟨b2, o2, rfl, _, hcy⟩ := HXB.out j hlt2
          have hcy' := (hbl.cell (World.block_lt_of_cell? w _ hcy)).trans hcy
          have hyj := okW_gw hoky j
          have hzk := okW_gw hzo (i + j)
          obtain ⟨q1, q2, q3⟩ := mul_step hxi hyj hc hzk
          have Q1 := Lib.hid q1
          have zc := hz.cell (i + j) _ (wArr_get z (i + j) (by have := HZ.out; omega))
          have zf := hz.free (i + j)
          have ha1 := add64_c0 (mL (gw x i) (gw y j)) c
          have ha2 := add64_c0 (gw z (i + j)) (aS (mL (gw x i) (gw y j)) c 0)
          clear hcy q1
          go_wp2_with (go_at_call 87; refine (mul64 (gw x i) (gw y j) hxi hyj _).mono ?_; rintro e w2 ⟨rfl, rfl⟩)
          go_roundw
          case rel => exact mul_in_close (by simp) (Nat.le_refl _) hlt hlt2 HZ.out hzo HS.out (aS_lt _ _ _) q3 Q1.out hz hbl
          case measure => simp [intOf]; omega
        · obtain rfl : j = y.length := by omega
          have zc := hz.cell (i + y.length) _ (wArr_get z (i + y.length) (by have := HZ.out; omega))
          have zf := hz.free (i + y.length)
          go_wp2_with fail
          go_roundw
          case rel => exact mul_out_close (Nat.le_refl _) hlt HZ.out hzo hc HS.out hz hbl
          case measure => simp [intOf]; omega
    · obtain rfl : i = x.length := by omega
      have hw2 := Words.ofBlk_all (lo := w.heap.size) hz (Nat.le_refl _) hzo (by omega)
      have HS := Lib.hid hsum
      have HZ := Lib.hid hzl
      clear hsum hzl
      rw [HZ.out] at hw2
      go_wp2_with fail
      refine (Trim_any w.heap.size _ _ _ hw2).mono ?_
      rintro e w3 ⟨v, rfl, hv, rfl⟩
      have hval : valN z = valN x * valN y := by
        have h1 := HS.out
        rw [vt_all z _ (by have := HZ.out; omega), vt_all x _ (Nat.le_refl _)] at h1
        exact h1
      rw [hval, E1.out, E2.out] at hv
      clear hval
      go_wp2
      go_ret
      exact ⟨_, rfl, hv, hbl⟩
end Go.Proofs.YtkfbailpifmdcaaGreatDoor
end

section
namespace Go.Proofs.YtkfbailpifmdcaaGreatDoor
open Go.RowKit

/-- The library's table of trailing zeros stands as its text lays it. -/
def TabW (w : World) : Prop := TabAt 2 Lib.deBruijn64tab w
theorem TabW.call {w w' : World} (h : TabW w) (hb : Below w.heap.size w w') : TabW w' := fun j hj => by
  have := h j hj
  exact (hb.cell (World.block_lt_of_cell? w _ this)).trans this
theorem tz64 (x : Nat) (h0 : x ≠ 0) (hx : x < 18446744073709551616) (w : World) (hT : TabW w) :
    Calls Tryz.prog 117 #[.int .u64 ((x : Nat) : Int)] w fun e w' => e = .returned (.int .i64 ((tz x : Nat) : Int)) ∧ w = w' :=
  (Any7.bits_TrailingZeros64 Tryz.lays7_29 x hx w fun _ => hT).mono fun _ _ ⟨h, h2⟩ => ⟨by rw [h, (tz_ctz h0 hx).1], h2.symm⟩

set_option maxHeartbeats 1000000 in
theorem Low_any (lo : Nat) (a : Value) (l : List Nat) (w : World) (ha : Words lo w a l) (hl : l.length ≤ 1099511627776) (hT : TabW w) :
    Calls Tryz.prog 85 #[a] w fun e w' => e = .returned (.int .i64 ((tz (valN l) : Nat) : Int)) ∧ w = w' := by
  have hok := ha.ok
  have HT := Lib.hid hT
  clear hT
  obtain ⟨x, cap, rfl, hcap, hcm, _, hx⟩ := ha
  have HX := Lib.hid hx
  clear hx
  go_enter Tryz.func85, Tryz.ntmps85
  go_wp2_with fail
  go_loop [7] (fun u => ∃ k : Nat, k ≤ l.length ∧ u = .int .i64 k ∧ Hid (∀ j, j < k → gw l j = 0)) (fun u => l.length - (intOf u).toNat)
  case atStart => exact ⟨0, Nat.zero_le _, rfl, fun j hj => by omega⟩
  case round =>
    obtain ⟨k, hk, rfl, hz⟩ := hrel
    by_cases hlt : k < l.length
    · obtain ⟨b, off, rfl, _, hc⟩ := HX.out k hlt
      cases hv : (((gw l k : Nat) : Int) != 0)
      · have hz' : Hid (∀ j, j < k + 1 → gw l j = 0) := fun j hj => by
          by_cases e : j = k
          · subst e; simp at hv; omega
          · exact hz.out j (by omega)
        clear hz
        go_wp2
        go_round
        case rel => exact ⟨k + 1, by omega, by go_num, hz'⟩
        case measure => simp [intOf]; omega
      · have hne : gw l k ≠ 0 := by intro e; rw [e] at hv; simp at hv
        have hg := okW_gw hok k
        obtain ⟨ht, _⟩ := tz_words hok hz.out hne
        have hb := (tz_ctz hne hg).2
        have HTZ := Lib.hid ht
        have HNE := Lib.hid hne
        clear hz ht hne
        go_wp2_with (go_at_call 117; refine (tz64 _ HNE.out hg _ HT.out).mono ?_; rintro e w1 ⟨rfl, rfl⟩)
        go_ret
        exact ⟨ret_int (by rw [HTZ.out]; omega), rfl⟩
    · obtain rfl : k = l.length := by omega
      have h0 := words_zero hz.out
      have H0 := Lib.hid h0
      clear h0 hz
      go_wp2
      go_ret
      exact ⟨ret_int (by rw [H0.out, tz_zero]; rfl), rfl⟩

theorem wraps_u64 (n : Int) (h0 : 0 ≤ n) (h1 : n < 2 ^ 64) : IntKind.u64.wrap n = n := by rw [IntKind.wrap_u64]; omega
theorem and1 (x : Nat) (hx : x < 18446744073709551616) : bits .and .u64 ((x : Nat) : Int) 1 = ((x % 2 : Nat) : Int) := by
  have := bits_mask .u64 64 (by decide) wraps_u64 1 (by decide) ((x : Nat) : Int) (by omega) (by omega)
  simpa using this
theorem shr_cast (x r : Nat) : ((x : Nat) : Int) / 2 ^ r = ((x / 2 ^ r : Nat) : Int) := by simp
theorem div_pow_lt {x : Nat} (h : x < 18446744073709551616) (r : Nat) : x / 2 ^ r < 18446744073709551616 := Nat.lt_of_le_of_lt (Nat.div_le_self _ _) h

set_option maxHeartbeats 1000000 in
theorem Bit_any (lo : Nat) (a : Value) (l : List Nat) (i : Nat) (w : World) (ha : Words lo w a l) (hi : i ≤ 4611686018427387904) :
    Calls Tryz.prog 38 #[a, .int .i64 ((i : Nat) : Int)] w fun e w' => e = .returned (.bool (valN l / 2 ^ i % 2 == 1)) ∧ w = w' := by
  have hok := ha.ok
  obtain ⟨x, cap, rfl, hcap, hcm, _, hx⟩ := ha
  have HX := Lib.hid hx
  clear hx
  by_cases hlt : i / 64 < l.length
  · obtain ⟨b, off, rfl, _, hc⟩ := HX.out (i / 64) hlt
    have hg := okW_gw hok (i / 64)
    have hb := bit_words hok i
    have HB := Lib.hid hb
    clear hb
    go_enter Tryz.func38, Tryz.ntmps38
    go_wp2
    go_ret
    refine ⟨?_, rfl⟩
    show Ending.returned (.bool (bits .and .u64 (((gw l (i / 64) : Nat) : Int) / 2 ^ (i % 64)) 1 == 1)) = _
    rw [shr_cast, and1 _ (div_pow_lt hg _), HB.out]
    congr 2
    rw [Bool.eq_iff_iff, beq_iff_eq, beq_iff_eq]
    omega
  · have hb := bit_high hok i (by omega)
    have HB := Lib.hid hb
    clear hb
    go_enter Tryz.func38, Tryz.ntmps38
    go_wp2
    go_ret
    exact ⟨by rw [HB.out]; rfl, rfl⟩

def cmpN (a b : Nat) : Int := if a < b then -1 else if b < a then 1 else 0

theorem cmp_lt {x y : List Nat} {k : Nat} (hx : okW x) (hl : x.length = y.length) (hs : ∀ j, k < j → j < x.length → gw x j = gw y j) (h : gw x k < gw y k) : cmpN (valN x) (valN y) = -1 := by
  unfold cmpN; rw [if_pos (words_cmp hx hl k hs h)]
theorem cmp_gt {x y : List Nat} {k : Nat} (hy : okW y) (hl : x.length = y.length) (hs : ∀ j, k < j → j < x.length → gw x j = gw y j) (h : gw y k < gw x k) : cmpN (valN x) (valN y) = 1 := by
  have := words_cmp hy hl.symm k (fun j h1 h2 => (hs j h1 (by omega)).symm) h
  unfold cmpN; rw [if_neg (by omega), if_pos this]
theorem cmp_len {a b : Nat} (h : (limbsOf a).length < (limbsOf b).length) : a < b := by
  have h1 := limbsOf_lt a
  have hb : b ≠ 0 := by intro e; subst e; rw [limbsOf_zero] at h; simp at h
  have h2 := limbsOf_ge hb
  exact Nat.lt_of_lt_of_le h1 (Nat.le_trans (pw_le (by omega)) h2)

set_option maxRecDepth 100000 in
set_option maxHeartbeats 2000000 in
theorem Cmp_any (lo : Nat) (a b : Value) (xa xb : List Nat) (w : World) (ha : Words lo w a xa) (hb : Words lo w b xb) :
    Calls Tryz.prog 72 #[a, b] w fun e w' => e = .returned (.int .i64 (cmpN (valN xa) (valN xb))) ∧ Below w.heap.size w w' := by
  have e1 := valN_limbsOf (valN xa)
  have e2 := valN_limbsOf (valN xb)
  have e3 := @cmp_len (valN xa) (valN xb)
  have e4 := @cmp_len (valN xb) (valN xa)
  go_enter Tryz.func72, Tryz.ntmps72
  go_wp2_with fail
  refine (Trim_any lo _ xa _ ha).mono ?_
  rintro e w1 ⟨v1, rfl, hv1, hw⟩
  subst hw
  go_wp2_with fail
  refine (Trim_any lo _ xb _ hb).mono ?_
  rintro e w1 ⟨v2, rfl, hv2, hw⟩
  subst hw
  have hv1' := hv1.words
  have hv2' := hv2.words
  clear hv1 hv2 ha hb
  generalize limbsOf (valN xa) = x at *
  generalize limbsOf (valN xb) = y at *
  have E1 := Lib.hid e1
  have E2 := Lib.hid e2
  have E3 := Lib.hid e3
  have E4 := Lib.hid e4
  clear e1 e2 e3 e4
  have hokx := hv1'.ok
  have hoky := hv2'.ok
  obtain ⟨pa, ca, rfl, hca, hcma, _, hxa⟩ := hv1'
  obtain ⟨pb, cb, rfl, hcb, hcmb, _, hxb⟩ := hv2'
  have HXA := Lib.hid hxa
  have HXB := Lib.hid hxb
  clear hxa hxb
  by_cases hlen : x.length < y.length
  · have hne : (((x.length : Nat) : Int) != ((y.length : Nat) : Int)) = true := by rw [bne_iff_ne]; omega
    have hfin : cmpN (valN xa) (valN xb) = -1 := by unfold cmpN; rw [if_pos (E3.out hlen)]
    have HF := Lib.hid hfin
    clear hfin
    go_wp2
    go_ret
    exact ⟨ret_int HF.out.symm, Below.refl _ _⟩
  by_cases hlen2 : y.length < x.length
  · have hne : (((x.length : Nat) : Int) != ((y.length : Nat) : Int)) = true := by rw [bne_iff_ne]; omega
    have hfin : cmpN (valN xa) (valN xb) = 1 := by
      have := E4.out hlen2
      unfold cmpN; rw [if_neg (by omega), if_pos this]
    have HF := Lib.hid hfin
    clear hfin
    go_wp2
    go_ret
    exact ⟨ret_int HF.out.symm, Below.refl _ _⟩
  have hll : x.length = y.length := by omega
  have HL := Lib.hid hll
  have hne : (((x.length : Nat) : Int) != ((y.length : Nat) : Int)) = false := by rw [hll]; simp
  clear hll
  go_wp2_with fail
  clear hne
  go_loopw [5] (fun u wr => ∃ k : Nat, k ≤ x.length ∧ u = .int .i64 (((k : Nat) : Int) - 1) ∧ Hid (∀ j, k ≤ j → j < x.length → gw x j = gw y j) ∧ ∃ n, wr = w.drewN n) (fun u _ => (intOf u + 1).toNat)
  case atStart => exact ⟨x.length, Nat.le_refl _, rfl, fun j h1 h2 => by omega, 0, rfl⟩
  case round =>
    obtain ⟨k, hk, rfl, hs, n, rfl⟩ := hrel
    by_cases h0 : k = 0
    · subst h0
      have hval := words_same HL.out (fun j hj => hs.out j (by omega) hj)
      have hfin : cmpN (valN xa) (valN xb) = 0 := by
        rw [E1.out, E2.out] at hval
        unfold cmpN; rw [if_neg (by omega), if_neg (by omega)]
      have HF := Lib.hid hfin
      clear hval hfin
      go_wp2
      go_ret
      exact ⟨ret_int HF.out.symm, below_drewN _ _ _⟩
    · obtain ⟨m, rfl⟩ : ∃ m, k = m + 1 := ⟨k - 1, by omega⟩
      have hcast : (((m + 1 : Nat) : Int) - 1) = ((m : Nat) : Int) := by omega
      rw [hcast]
      clear hcast
      obtain ⟨b1, o1, rfl, _, hcx⟩ := HXA.out m (by omega)
      obtain ⟨b2, o2, rfl, _, hcy⟩ := HXB.out m (by have := HL.out; omega)
      have hml : m < y.length := by have := HL.out; omega
      have hs' : ∀ j, m < j → j < x.length → gw x j = gw y j := fun j h1 h2 => hs.out j (by omega) h2
      have HS' := Lib.hid hs'
      clear hs hs'
      by_cases hlt : gw x m < gw y m
      · have hb1 : (((gw x m : Nat) : Int) != ((gw y m : Nat) : Int)) = true := by rw [bne_iff_ne]; omega
        have hfin : cmpN (valN xa) (valN xb) = -1 := by rw [← E1.out, ← E2.out]; exact cmp_lt hokx HL.out HS'.out hlt
        have HF := Lib.hid hfin
        clear hfin
        go_wp2
        go_quiet (fail)
        go_wp2
        go_quiet (fail)
        go_wp2
        go_ret
        exact ⟨ret_int HF.out.symm, ((below_drewN _ _ _).trans (below_drewN _ _ _)).trans (below_drewN _ _ _)⟩
      by_cases hlt2 : gw y m < gw x m
      · have hb1 : (((gw x m : Nat) : Int) != ((gw y m : Nat) : Int)) = true := by rw [bne_iff_ne]; omega
        have hfin : cmpN (valN xa) (valN xb) = 1 := by rw [← E1.out, ← E2.out]; exact cmp_gt hoky HL.out HS'.out hlt2
        have HF := Lib.hid hfin
        clear hfin
        go_wp2
        go_quiet (fail)
        go_wp2
        go_quiet (fail)
        go_wp2
        go_ret
        exact ⟨ret_int HF.out.symm, ((below_drewN _ _ _).trans (below_drewN _ _ _)).trans (below_drewN _ _ _)⟩
      have heq : gw x m = gw y m := by omega
      have hb1 : (((gw x m : Nat) : Int) != ((gw y m : Nat) : Int)) = false := by rw [heq]; simp
      have HEQ := Lib.hid heq
      clear heq
      go_wp2
      go_quiet (fail)
      go_wp2
      go_roundw
      case rel => exact ⟨m, by omega, rfl, fun j h1 h2 => by
        by_cases e : j = m
        · subst e; exact HEQ.out
        · exact HS'.out j (by omega) h2, n + nq, rfl⟩
      case measure => simp [intOf]
end Go.Proofs.YtkfbailpifmdcaaGreatDoor
end
