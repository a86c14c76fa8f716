/- LimG LimH DivA -/
import Derived.Test.YtkfbailpifmdcaaGreatDoorMab
import Derived.Test.YtkfbailpifmdcaaGreatDoorMaa
section
namespace Go.Proofs.YtkfbailpifmdcaaGreatDoor
open Go.RowKit

theorem or_add {c x k : Nat} (hc : c < 2 ^ k) (hx : x % 2 ^ k = 0) (hx1 : x < 18446744073709551616) (hk : k < 64) : bits .or .u64 ((c : Nat) : Int) ((x : Nat) : Int) = ((c + x : Nat) : Int) := by
  have hp : (2 : Nat) ^ k ≤ 2 ^ 63 := Nat.pow_le_pow_right (by decide) (by omega)
  have h := (bits_nat .u64 64 (by decide) wraps_u64 c x (by omega) (by omega)).2
  rw [h]
  have hq : x = 2 ^ k * (x / 2 ^ k) := by have := Nat.div_add_mod x (2 ^ k); omega
  congr 1
  rw [Nat.or_comm, hq, ← Nat.two_pow_add_eq_or_of_lt hc (x / 2 ^ k), Nat.add_comm]

def ShlRel (g : Nat) (w : World) (x : List Nat) (q k : Nat) (u25 : Value) (wr : World) : Prop :=
  ∃ (i : Nat) (z : List Nat), i ≤ x.length ∧ u25 = .int .i64 i ∧ z.length = q + x.length + 1 ∧ okW z ∧ gw z (q + i) < 2 ^ k ∧ (∀ j, q + i < j → gw z j = 0) ∧
    vt z (q + i + 1) = vt x i * (pw q * 2 ^ k) ∧ Blk wr g (wArr z) 22 ∧ Below w.heap.size w wr

theorem wrap_shl (x k : Nat) : IntKind.u64.wrap (((x : Nat) : Int) * 2 ^ k) = ((shL x k : Nat) : Int) := by
  rw [IntKind.wrap_u64]; unfold shL; simp
theorem shl_word {c x k : Nat} (hc : c < 2 ^ k) (hk : k < 64) : bits .or .u64 ((c : Nat) : Int) (IntKind.u64.wrap (((x : Nat) : Int) * 2 ^ k)) = ((c + shL x k : Nat) : Int) := by
  rw [wrap_shl]; exact or_add hc (shL_dvd x k (by omega)) (shL_lt x k) hk
theorem shl_value {x z : List Nat} {q k i : Nat} (hlt : i < x.length) (hzl : z.length = q + x.length + 1) (hs : vt z (q + i + 1) = vt x i * (pw q * 2 ^ k)) :
    vt (z.set (q + i) (gw z (q + i) + shL (gw x i) k)) (q + i + 1) + shH (gw x i) k * pw (q + i + 1) = vt x (i + 1) * (pw q * 2 ^ k) := by
  have h := shL_shH (gw x i) k
  rw [vt_succ] at hs
  rw [vt_succ, vt_set _ _ _ _ (Nat.le_refl _), gw_set_same _ _ _ (by omega), vt_succ, pw_succ, pw_add]
  rw [pw_add] at hs
  generalize gw z (q + i) = c at *
  generalize vt z (q + i) = V at *
  generalize shL (gw x i) k = a at *
  generalize shH (gw x i) k = b at *
  generalize gw x i = t at *
  generalize pw q = Q at *
  generalize pw i = I at *
  generalize 2 ^ k = K at *
  grind
theorem shl_close0 {g : Nat} {w wr : World} {x z : List Nat} {q k i : Nat} {e1 : Int} (he1 : e1 = ((gw z (q + i) + shL (gw x i) k : Nat) : Int)) (hk : k = 0) (hg : w.heap.size ≤ g) (hlt : i < x.length) (hok : okW x) (hzl : z.length = q + x.length + 1) (hzo : okW z)
    (hc : gw z (q + i) < 2 ^ k) (h0 : ∀ j, q + i < j → gw z j = 0) (hs : vt z (q + i + 1) = vt x i * (pw q * 2 ^ k)) (hz : Blk wr g (wArr z) 22) (hb : Below w.heap.size w wr) :
    ShlRel g w x q k (.int .i64 (((i : Nat) : Int) + 1)) (wr.setCell ⟨g, q + i, none⟩ (.int .u64 e1)).drew := by
  have hv := shl_value hlt hzl hs
  have hx := okW_gw hok i
  have hH : shH (gw x i) k = 0 := by subst hk; unfold shH; rw [Nat.pow_zero, Nat.mul_one]; exact Nat.div_eq_of_lt hx
  have hroom := shL_room (x := gw x i) hc (by omega)
  subst he1
  refine ⟨i + 1, z.set (q + i) (gw z (q + i) + shL (gw x i) k), by omega, by go_num, by rw [List.length_set]; exact hzl, okW_set hzo _ _ hroom, ?_, fun j hj => ?_, ?_, blk_setW hz _ _, ((hb.setCell hg _).drew)⟩
  · rw [gw_set_other _ _ _ _ (by omega), h0 _ (by omega)]; exact Nat.two_pow_pos _
  · rw [gw_set_other _ _ _ _ (by omega)]; exact h0 j (by omega)
  · rw [hH, Nat.zero_mul, Nat.add_zero] at hv
    rw [show q + (i + 1) + 1 = q + i + 1 + 1 by omega, vt_succ, gw_set_other _ _ _ _ (by omega), hv, h0 (q + i + 1) (by omega)]; simp
theorem shl_close {g : Nat} {w wr : World} {x z : List Nat} {q k i : Nat} {e1 e2 : Int} (he1 : e1 = ((gw z (q + i) + shL (gw x i) k : Nat) : Int)) (he2 : e2 = ((shH (gw x i) k : Nat) : Int)) (hk : k < 64) (hg : w.heap.size ≤ g) (hlt : i < x.length) (hok : okW x) (hzl : z.length = q + x.length + 1) (hzo : okW z)
    (hc : gw z (q + i) < 2 ^ k) (h0 : ∀ j, q + i < j → gw z j = 0) (hs : vt z (q + i + 1) = vt x i * (pw q * 2 ^ k)) (hz : Blk wr g (wArr z) 22) (hb : Below w.heap.size w wr) :
    ShlRel g w x q k (.int .i64 (((i : Nat) : Int) + 1)) ((wr.setCell ⟨g, q + i, none⟩ (.int .u64 e1)).setCell ⟨g, q + i + 1, none⟩ (.int .u64 e2)).drew := by
  have hv := shl_value hlt hzl hs
  have hx := okW_gw hok i
  have hH := shH_lt hx k
  have hroom := shL_room (x := gw x i) hc hk
  have hp : 2 ^ k ≤ 2 ^ 63 := Nat.pow_le_pow_right (by decide) (by omega)
  subst he1; subst he2
  refine ⟨i + 1, (z.set (q + i) (gw z (q + i) + shL (gw x i) k)).set (q + i + 1) (shH (gw x i) k), by omega, by go_num, by rw [List.length_set, List.length_set]; exact hzl, okW_set (okW_set hzo _ _ hroom) _ _ (by omega), ?_, fun j hj => ?_, ?_, blk_setW (blk_setW hz _ _) _ _, ((hb.setCell hg _).setCell hg _).drew⟩
  · rw [show q + (i + 1) = q + i + 1 by omega, gw_set_same _ _ _ (by rw [List.length_set]; omega)]; exact hH
  · rw [gw_set_other _ _ _ _ (by omega), gw_set_other _ _ _ _ (by omega)]; exact h0 j (by omega)
  · rw [show q + (i + 1) + 1 = q + i + 1 + 1 by omega, vt_succ, vt_set _ _ _ _ (Nat.le_refl _), gw_set_same _ _ _ (by rw [List.length_set]; omega), hv]

set_option maxRecDepth 100000 in
set_option maxHeartbeats 2000000 in
theorem Shl_any (lo : Nat) (a : Value) (l : List Nat) (n : Nat) (w : World) (ha : Words lo w a l) (hl : l.length ≤ 549755813888) (hn : n ≤ 17592186044416) :
    Calls Tryz.prog 46 #[a, .int .i64 ((n : Nat) : Int)] w (NumPost w w.heap.size (valN l * 2 ^ n)) := by
  have hlen := limbsOf_len (valN_lt ha.ok)
  have e1 := valN_limbsOf (valN l)
  go_enter Tryz.func46, Tryz.ntmps46
  go_wp2_with fail
  refine (Trim_any lo _ l _ ha).mono ?_
  rintro e w1 ⟨v1, rfl, hv1, hw⟩
  subst hw
  have hv1' := hv1.words
  clear hv1 ha
  generalize limbsOf (valN l) = x at *
  have E1 := Lib.hid e1
  clear e1
  have hokx := hv1'.ok
  obtain ⟨pa, ca, rfl, hca, hcma, _, hxa⟩ := hv1'
  have HXA := Lib.hid hxa
  have hlx : x.length ≤ 549755813888 := Nat.le_trans hlen hl
  clear hxa hlen hl
  by_cases h0 : x.length = 0
  · have hz : valN l * 2 ^ n = 0 := by rw [← E1.out, List.length_eq_zero_iff.1 h0]; simp [valN]
    have HZ := Lib.hid hz
    clear hz
    have hb : (((x.length : Nat) : Int) == 0) = true := by rw [h0]; rfl
    clear h0
    go_wp2
    go_ret
    exact ⟨_, rfl, by rw [HZ.out]; exact Num.zero _ _ _ _ (by omega), Below.refl _ _⟩
  · have hb : (((x.length : Nat) : Int) == 0) = false := beq_eq_false_iff_ne.2 (by omega)
    have hmk := make_words 50 Tryz.underlying50 (n / 64 + x.length + 1) (by omega)
    have hmk' : ∀ w : World, (Instr.makeSlice 50 (.int .i64 (((n : Nat) : Int) / 64 + ((x.length : Nat) : Int) + 1)) (.int .i64 (((n : Nat) : Int) / 64 + ((x.length : Nat) : Int) + 1))).run Tryz.prog w = .ok (.slice (some ⟨w.heap.size, 0, none⟩) (n / 64 + x.length + 1) (n / 64 + x.length + 1)) (w.alloc (.cells (wArr (List.replicate (n / 64 + x.length + 1) 0)) 22)) := fun w => by
      rw [show ((n : Nat) : Int) / 64 + ((x.length : Nat) : Int) + 1 = ((n / 64 + x.length + 1 : Nat) : Int) by omega]; exact hmk w
    clear hmk h0
    have hkk : n % 64 < 64 := Nat.mod_lt _ (by decide)
    go_wp2_with fail
    clear hmk'
    go_loopw [25] (fun u25 wr => ShlRel w.heap.size w x (n / 64) (n % 64) u25 wr) (fun u25 _ => x.length - (intOf u25).toNat)
    case atStart => exact ⟨0, List.replicate (n / 64 + x.length + 1) 0, by omega, rfl, by simp, okW_replicate _, by rw [gw_replicate]; exact Nat.two_pow_pos _, fun j _ => gw_replicate _ _, by rw [vt_replicate]; simp [vt], Blk.new _ _ _, (Below.refl _ _).alloc (Nat.le_refl _) _⟩
    case round =>
      obtain ⟨i, z, hi, rfl, hzl, hzo, hzc, hz0, hsum, hz, hbl⟩ := hrel
      have HS := Lib.hid hsum
      have HZ := Lib.hid hzl
      have H0 := Lib.hid hz0
      clear hsum hzl hz0
      by_cases hlt : i < x.length
      · obtain ⟨b1, o1, rfl, _, hcx⟩ := HXA.out i hlt
        have hcx' := (hbl.cell (World.block_lt_of_cell? w _ hcx)).trans hcx
        have hxi := okW_gw hokx i
        have zc := hz.cell (n / 64 + i) _ (wArr_get z (n / 64 + i) (by have := HZ.out; omega))
        have zf := hz.free (n / 64 + i)
        have zc2 := hz.cell (n / 64 + i + 1) _ (wArr_get z (n / 64 + i + 1) (by have := HZ.out; omega))
        have zf2 := hz.free (n / 64 + i + 1)
        clear hcx
        by_cases hk0 : n % 64 = 0
        · have hkb : ¬ (0 < n % 64) := by omega
          have HK := Lib.hid hk0
          clear hk0
          go_wp2_with fail
          go_region
          all_goals (go_wp2_with fail)
          go_roundw
          case rel => exact shl_close0 (shl_word hzc hkk) HK.out (Nat.le_refl _) hlt hokx HZ.out hzo hzc H0.out HS.out hz hbl
          case measure => simp [intOf]; omega
        · have hkb : 0 < n % 64 := by omega
          clear hk0
          go_wp2_with fail
          go_region
          all_goals (go_wp2_with fail)
          go_roundw
          case rel => exact shl_close (shl_word hzc hkk) (by rw [shH_shr (by omega), shr_cast]) hkk (Nat.le_refl _) hlt hokx HZ.out hzo hzc H0.out HS.out hz hbl
          case measure => simp [intOf]; omega
      · obtain rfl : i = x.length := by omega
        have hw2 := Words.ofBlk_all (lo := w.heap.size) hz (Nat.le_refl _) hzo (by have := HZ.out; omega)
        rw [HZ.out] at hw2
        have hval : valN z = valN l * 2 ^ n := by
          have h1 := HS.out
          rw [vt_all z _ (by have := HZ.out; omega), vt_all x _ (Nat.le_refl _), pw_two, ← Nat.pow_add, E1.out, show 64 * (n / 64) + n % 64 = n by omega] at h1
          exact h1
        have HV := Lib.hid hval
        clear hval
        go_wp2_with fail
        refine (Trim_any w.heap.size _ _ _ hw2).mono ?_
        rintro e w3 ⟨v, rfl, hv, rfl⟩
        rw [HV.out] at hv
        go_wp2
        go_ret
        exact ⟨_, rfl, hv, hbl⟩
end Go.Proofs.YtkfbailpifmdcaaGreatDoor
end

section
namespace Go.Proofs.YtkfbailpifmdcaaGreatDoor
open Go.RowKit

/-- Whether a shift to the right loses anything. -/
def lostN (v n : Nat) : Bool := !(v % 2 ^ n == 0)
theorem lost_tz {v : Nat} (h : v ≠ 0) (n : Nat) : lostN v n = decide (tz v < n) := by
  obtain ⟨m, hm, ho⟩ := tz_spec h
  unfold lostN
  rw [Bool.eq_iff_iff]
  simp only [Bool.not_eq_true', beq_eq_false_iff_ne, decide_eq_true_eq]
  constructor
  · intro h1
    apply Nat.lt_of_not_le
    intro h2
    apply h1
    rw [hm, show tz v = n + (tz v - n) by omega, Nat.pow_add, Nat.mul_assoc]
    exact Nat.mul_mod_right _ _
  · intro h1 h2
    have h3 : 2 ^ (tz v + 1) ∣ v := Nat.dvd_trans (Nat.pow_dvd_pow 2 h1) (Nat.dvd_of_mod_eq_zero h2)
    obtain ⟨c, hc⟩ := h3
    rw [Nat.pow_succ, Nat.mul_assoc] at hc
    have h4 : 2 ^ tz v * m = 2 ^ tz v * (2 * c) := by rw [← hm]; exact hc
    have := Nat.eq_of_mul_eq_mul_left (Nat.two_pow_pos _) h4
    omega
theorem lost_zero (n : Nat) : lostN 0 n = false := by simp [lostN]

def ShrRel (g : Nat) (w : World) (y : List Nat) (k : Nat) (u37 : Value) (wr : World) : Prop :=
  ∃ (i : Nat) (z : List Nat), i ≤ y.length ∧ u37 = .int .i64 i ∧ z.length = y.length ∧ okW z ∧ vt z i * 2 ^ k + gw y 0 % 2 ^ k = vt y i + gw y i % 2 ^ k * pw i ∧ Blk wr g (wArr z) 22 ∧ Below w.heap.size w wr

/-- What of the next word comes in. -/
theorem shr_word {y k : Nat} (hk : k ≤ 64) : shL y (64 - k) = y % 2 ^ k * 2 ^ (64 - k) := by
  unfold shL
  rw [two64 (k := 64 - k) (by omega), show 64 - (64 - k) = k by omega, Nat.mul_mod_mul_right]
theorem shr_low_lt {y k : Nat} (hy : y < 18446744073709551616) (hk : k ≤ 64) : y / 2 ^ k < 2 ^ (64 - k) := by
  rw [Nat.div_lt_iff_lt_mul (Nat.two_pow_pos k), ← two64 hk]; exact hy
theorem shr_close {g : Nat} {w wr : World} {y z : List Nat} {k i s : Nat} (hk : k ≤ 64) (hlt : i < y.length) (hzl : z.length = y.length) (hzo : okW z) (hs1 : s < 18446744073709551616)
    (hs2 : s = gw y i / 2 ^ k + gw y (i + 1) % 2 ^ k * 2 ^ (64 - k)) (hs : vt z i * 2 ^ k + gw y 0 % 2 ^ k = vt y i + gw y i % 2 ^ k * pw i) (hz : Blk wr g (wArr (z.set i s)) 22) (hb : Below w.heap.size w wr) :
    ShrRel g w y k (.int .i64 (((i : Nat) : Int) + 1)) wr := by
  refine ⟨i + 1, z.set i s, by omega, by go_num, by rw [List.length_set]; exact hzl, okW_set hzo _ _ hs1, ?_, hz, hb⟩
  rw [vt_succ, vt_set _ _ _ _ (Nat.le_refl _), gw_set_same _ _ _ (by omega), vt_succ, pw_succ]
  have h1 := Nat.div_add_mod (gw y i) (2 ^ k)
  have h2 := two64 hk
  subst hs2
  generalize gw y i / 2 ^ k = d at *
  generalize gw y (i + 1) % 2 ^ k = r' at *
  generalize gw y i % 2 ^ k = r at *
  generalize gw y i = t at *
  generalize 2 ^ (64 - k) = L at *
  generalize 2 ^ k = K at *
  generalize pw i = P at *
  rw [h2]
  grind

theorem shr_or {a b k : Nat} (ha : a < 18446744073709551616) (h0 : 0 < k) (hk : k < 64) : bits .or .u64 (((a : Nat) : Int) / 2 ^ k) (IntKind.u64.wrap (((b : Nat) : Int) * 2 ^ (64 - k))) = ((a / 2 ^ k + b % 2 ^ k * 2 ^ (64 - k) : Nat) : Int) := by
  rw [wrap_shl, shr_cast, or_add (k := 64 - k) (shr_low_lt ha (by omega)) (shL_dvd b (64 - k) (by omega)) (shL_lt b (64 - k)) (by omega), shr_word (by omega)]
theorem shr_or_lt {a b k : Nat} (ha : a < 18446744073709551616) (hk : k ≤ 64) : a / 2 ^ k + b % 2 ^ k * 2 ^ (64 - k) < 18446744073709551616 := by
  have h1 := shr_low_lt ha hk
  have h2 : b % 2 ^ k < 2 ^ k := Nat.mod_lt _ (Nat.two_pow_pos k)
  have h3 : (b % 2 ^ k + 1) * 2 ^ (64 - k) ≤ 2 ^ k * 2 ^ (64 - k) := Nat.mul_le_mul_right _ h2
  rw [Nat.mul_comm (2 ^ k), ← two64 hk, Nat.add_mul] at h3
  omega
theorem shr_val {v T V z r n : Nat} (h1 : v = T + pw (n / 64) * V) (h2 : T < pw (n / 64)) (h3 : z * 2 ^ (n % 64) + r % 2 ^ (n % 64) = V) : z = v / 2 ^ n := by
  have e : 2 ^ n = pw (n / 64) * 2 ^ (n % 64) := by rw [pw_two, ← Nat.pow_add, show 64 * (n / 64) + n % 64 = n by omega]
  rw [e, ← Nat.div_div_eq_div_mul, h1, Nat.add_comm, Nat.mul_add_div (pw_pos _), Nat.div_eq_of_lt h2, Nat.add_zero, ← h3, Nat.mul_comm, Nat.mul_add_div (Nat.two_pow_pos _), Nat.div_eq_of_lt (Nat.mod_lt _ (Nat.two_pow_pos _)), Nat.add_zero]

def ShrPost (w : World) (n : Nat) (b : Bool) (e : Ending) (w' : World) : Prop := ∃ v, e = .returned (.tuple #[v, .bool b]) ∧ Num w.heap.size w' v n ∧ Below w.heap.size w w'

theorem Words.drop {lo : Nat} {w : World} {b off cap : Nat} {l : List Nat} (h : Words lo w (.slice (some ⟨b, off, none⟩) l.length cap) l) (q : Nat) (hq : q ≤ l.length) :
    Words lo w (.slice (some ⟨b, off + q, none⟩) (l.length - q) (cap - q)) (l.drop q) := by
  obtain ⟨x', cap0, h1, h2, h3, h4, h5⟩ := h
  injection h1 with e1 e2 e3
  subst e1; subst e3
  refine ⟨_, cap - q, by rw [List.length_drop], by rw [List.length_drop]; omega, by omega, ⟨okW_drop h4.1 q, fun e => by cases e⟩, fun i hi => ?_⟩
  rw [List.length_drop] at hi
  obtain ⟨b', off', e, hlo, hcell⟩ := h5 (q + i) (by omega)
  injection e with e
  injection e with e1 e2
  subst e1; subst e2
  exact ⟨_, _, rfl, hlo, by rw [gw_drop, ← hcell, Nat.add_assoc]⟩

theorem blk_setE {w : World} {g : Nat} {z : List Nat} {i s : Nat} {e : Int} (h : Blk w g (wArr z) 22) (he : e = ((s : Nat) : Int)) : Blk (w.setCell ⟨g, i, none⟩ (.int .u64 e)) g (wArr (z.set i s)) 22 := by
  subst he; exact blk_setW h i s
theorem Words.cell' {lo : Nat} {w : World} {b off len cap : Nat} {l : List Nat} (h : Words lo w (.slice (some ⟨b, off, none⟩) len cap) l) (i : Nat) (hi : i < l.length) :
    lo ≤ b ∧ w.cell? ⟨b, off + i, none⟩ = some (.int .u64 ((gw l i : Nat) : Int)) := by
  obtain ⟨x, cap', e, _, _, _, h⟩ := h
  injection e with e1 e2 e3
  subst e1
  obtain ⟨b', off', e, h1, h2⟩ := h i hi
  injection e with e
  injection e with e1 e2
  subst e1; subst e2
  exact ⟨h1, h2⟩

set_option maxRecDepth 100000 in
set_option maxHeartbeats 2000000 in
theorem Shr_any (lo : Nat) (a : Value) (l : List Nat) (n : Nat) (w : World) (ha : Words lo w a l) (hl : l.length ≤ 549755813888) (hn : n ≤ 4611686018427387904) (hT : TabW w) :
    Calls Tryz.prog 47 #[a, .int .i64 ((n : Nat) : Int)] w (ShrPost w (valN l / 2 ^ n) (lostN (valN l) n)) := by
  have hlen := limbsOf_len (valN_lt ha.ok)
  have e1 := valN_limbsOf (valN l)
  have e0 := @limbsOf_len_zero (valN l)
  go_enter Tryz.func47, Tryz.ntmps47
  go_wp2_with fail
  refine (Trim_any lo _ l _ ha).mono ?_
  rintro e w1 ⟨v1, rfl, hv1, hw⟩
  subst hw
  have hv1' := hv1.words
  clear hv1 ha
  generalize limbsOf (valN l) = x at *
  generalize valN l = v at *
  have E1 := Lib.hid e1
  have E0 := Lib.hid e0
  clear e1 e0
  have hokx := hv1'.ok
  have HW := Lib.hid hv1'
  obtain ⟨pa, ca, rfl, hca, hcma, _, hxa⟩ := hv1'
  have HXA := Lib.hid hxa
  have hlx : x.length ≤ 549755813888 := Nat.le_trans hlen hl
  clear hxa hlen hl
  by_cases h0 : x.length = 0
  · have hz : v = 0 := E0.out.1 h0
    have HZ := Lib.hid hz
    clear hz
    have hb : (((x.length : Nat) : Int) == 0) = true := by rw [h0]; rfl
    clear h0
    go_wp2
    go_ret2
    exact ⟨_, by rw [HZ.out, lost_zero]; rfl, by rw [HZ.out, Nat.zero_div]; exact Num.zero _ _ _ _ (by omega), Below.refl _ _⟩
  have hv0 : v ≠ 0 := fun e => h0 (E0.out.2 e)
  have hlost := lost_tz hv0 n
  have htl := tz_le hv0
  have HL := Lib.hid hlost
  have hb : (((x.length : Nat) : Int) == 0) = false := beq_eq_false_iff_ne.2 (by omega)
  clear h0 hv0 hlost htl
  by_cases hq : x.length ≤ n / 64
  · have hv : v / 2 ^ n = 0 := by
      apply Nat.div_eq_of_lt
      have h1 := valN_lt hokx
      rw [E1.out, pw_two] at h1
      exact Nat.lt_of_lt_of_le h1 (Nat.pow_le_pow_right (by decide) (by omega))
    have HV := Lib.hid hv
    clear hv
    go_wp2_with (go_at_call 85; refine (Low_any lo _ x _ HW.out (by omega) hT).mono ?_; rintro e w2 ⟨rfl, rfl⟩; rw [E1.out])
    go_ret2
    refine ⟨_, by rw [HL.out]; rfl, by rw [HV.out]; exact Num.zero _ _ _ _ (by omega), Below.refl _ _⟩
  · have hq' : n / 64 < x.length := by omega
    obtain ⟨b1, o1, rfl, _, _⟩ := HXA.out (n / 64) hq'
    have hmk := make_words 50 Tryz.underlying50 (x.length - n / 64) (by omega)
    have hkk : n % 64 < 64 := Nat.mod_lt _ (by decide)
    have hwd := HW.out.drop (n / 64) (by omega)
    have hyl : (x.drop (n / 64)).length = x.length - n / 64 := List.length_drop
    have hvd := valN_split x (n / 64)
    have hvl := valN_lt (okW_take hokx (n / 64))
    rw [List.length_take, Nat.min_eq_left (by omega)] at hvl
    generalize hyy : x.drop (n / 64) = y at *
    clear hyy
    have HWD := Lib.hid hwd
    have HYL := Lib.hid hyl
    have HVD := Lib.hid hvd
    have HVL := Lib.hid hvl
    have hoky := hwd.ok
    clear hwd hyl hvd hvl hq HXA
    go_wp2_with (go_at_call 85; refine (Low_any lo _ x _ HW.out (by omega) hT).mono ?_; rintro e w2 ⟨rfl, rfl⟩; rw [E1.out])
    clear hmk
    go_loopw [37] (fun u37 wr => ShrRel w.heap.size w y (n % 64) u37 wr) (fun u37 _ => x.length - n / 64 - (intOf u37).toNat)
    case atStart => exact ⟨0, List.replicate (x.length - n / 64) 0, Nat.zero_le _, rfl, by rw [HYL.out]; simp, okW_replicate _, by simp [vt, pw_zero], Blk.new _ _ _, (Below.refl _ _).alloc (Nat.le_refl _) _⟩
    case round =>
      obtain ⟨i, z, hi, rfl, hzl, hzo, hsum, hz, hbl⟩ := hrel
      have HS := Lib.hid hsum
      have HZ := Lib.hid hzl
      clear hsum hzl
      have hyl := HYL.out
      rw [hyl] at hi
      have HYL' := Lib.hid hyl
      clear hyl
      by_cases hlt : i < x.length - n / 64
      · obtain ⟨_, hcy⟩ := (HWD.out.call hbl).cell' i (by have := HYL.out; omega)
        have hyi := okW_gw hoky i
        have zc := hz.cell i _ (wArr_get z i (by have := HZ.out; have := HYL.out; omega))
        have zf := hz.free i
        have hyl := HYL.out
        by_cases hk0 : n % 64 = 0
        · have hkb : ¬ (0 < n % 64) := by omega
          have hs2 : gw y i / 2 ^ (n % 64) = gw y i / 2 ^ (n % 64) + gw y (i + 1) % 2 ^ (n % 64) * 2 ^ (64 - n % 64) := by rw [hk0]; simp [Nat.mod_one]
          have HS2 := Lib.hid hs2
          clear hk0 hs2 hyl
          go_wp2_with fail
          go_roundw
          case rel => exact shr_close (by omega) (by have := HYL.out; omega) HZ.out hzo (div_pow_lt hyi _) HS2.out HS.out (blk_setE hz (shr_cast _ _)) (hbl.setCell (Nat.le_refl _) _)
          case measure => simp [intOf]; omega
        · by_cases hnx : i + 1 < x.length - n / 64
          · have hkb : 0 < n % 64 := by omega
            have hbl2 := hbl.setCell (p := ⟨w.heap.size, i, none⟩) (Nat.le_refl _) (.int .u64 (((gw y i : Nat) : Int) / 2 ^ (n % 64)))
            obtain ⟨_, hcy2⟩ := (HWD.out.call hbl2).cell' (i + 1) (by omega)
            have hz2 := blk_setE (i := i) hz (shr_cast (gw y i) (n % 64))
            have zc2 := hz2.cell i _ (wArr_get _ i (by have := HZ.out; rw [List.length_set]; omega))
            rw [gw_set_same _ _ _ (by have := HZ.out; omega)] at zc2
            have zf2 := hz2.free i
            have hyi2 := okW_gw hoky (i + 1)
            have hcy3 := hcy2
            rw [← Nat.add_assoc] at hcy3
            clear hk0 hyl
            go_wp2_with fail
            go_region
            all_goals (go_wp2_with fail)
            go_roundw
            case rel => exact shr_close (by omega) (by have := HYL.out; omega) HZ.out hzo (shr_or_lt hyi (by omega)) rfl HS.out (by have := blk_setE (i := i) hz2 (shr_or hyi hkb hkk (b := gw y (i + 1))); rw [List.set_set] at this; exact this) (((hbl2).setCell (p := ⟨w.heap.size, i, none⟩) (Nat.le_refl _) _).drew)
            case measure => simp [intOf]; omega
          · have hkb : 0 < n % 64 := by omega
            have hs2 : gw y i / 2 ^ (n % 64) = gw y i / 2 ^ (n % 64) + gw y (i + 1) % 2 ^ (n % 64) * 2 ^ (64 - n % 64) := by rw [gw_ge (l := y) (i := i + 1) (by omega)]; simp
            have HS2 := Lib.hid hs2
            clear hk0 hs2 hyl
            go_wp2_with fail
            go_roundw
            case rel => exact shr_close (by omega) (by have := HYL.out; omega) HZ.out hzo (div_pow_lt hyi _) HS2.out HS.out (blk_setE hz (shr_cast _ _)) (hbl.setCell (Nat.le_refl _) _)
            case measure => simp [intOf]; omega
      · obtain rfl : i = x.length - n / 64 := by omega
        have hyl := HYL.out
        have hw2 := Words.ofBlk_all (lo := w.heap.size) hz (Nat.le_refl _) hzo (by have := HZ.out; omega)
        rw [HZ.out, hyl] at hw2
        have hval : valN z = v / 2 ^ n := by
          have h1 := HS.out
          rw [vt_all z _ (by have := HZ.out; omega), vt_all y _ (by omega), gw_ge (l := y) (i := x.length - n / 64) (by omega)] at h1
          exact shr_val (by rw [← E1.out]; exact HVD.out) HVL.out (by rw [h1]; simp)
        have HV := Lib.hid hval
        clear hval hyl
        go_wp2_with fail
        refine (Trim_any w.heap.size _ _ _ hw2).mono ?_
        rintro e w3 ⟨v, rfl, hv, rfl⟩
        rw [HV.out] at hv
        go_wp2
        go_ret2
        exact ⟨_, by rw [HL.out]; rfl, hv, hbl⟩
end Go.Proofs.YtkfbailpifmdcaaGreatDoor
end

section
namespace Go.Proofs.YtkfbailpifmdcaaGreatDoor

/-- While a half word of a quotient is guessed. -/
def HalfInv (U u1 n1 n0 q r : Nat) : Prop := q * n1 + r = U ∧ (U * 4294967296 + u1) / (n1 * 4294967296 + n0) ≤ q ∧ q ≤ 4294967297 ∧ r < 4294967296
theorem half_start {U u1 n1 n0 : Nat} (h1 : 2147483648 ≤ n1) (h2 : n1 < 4294967296) (h0 : n0 < 4294967296) (hU : U < n1 * 4294967296 + n0) (hu : u1 < 4294967296) : HalfInv U u1 n1 n0 (U / n1) (U % n1) := by
  have hm := Nat.mod_lt U (show 0 < n1 by omega)
  have hdm := Nat.div_add_mod U n1
  refine ⟨by rw [Nat.mul_comm]; exact hdm, ?_, ?_, by omega⟩
  · apply Nat.le_of_lt_succ
    rw [Nat.div_lt_iff_lt_mul (by omega)]
    generalize U / n1 = q at *
    have h3 : U < (q + 1) * n1 := by rw [Nat.add_mul, Nat.one_mul, Nat.mul_comm]; omega
    have h4 : (U + 1) * 4294967296 ≤ (q + 1) * n1 * 4294967296 := Nat.mul_le_mul_right _ h3
    have h5 : (q + 1) * (n1 * 4294967296 + n0) = (q + 1) * n1 * 4294967296 + (q + 1) * n0 := by grind
    show _ < (q + 1) * (n1 * 4294967296 + n0)
    rw [h5]
    omega
  · rw [Nat.div_le_iff_le_mul_add_pred (by omega)]
    omega
theorem half_lt {U u1 n1 n0 : Nat} (hU : U < n1 * 4294967296 + n0) (hu : u1 < 4294967296) : (U * 4294967296 + u1) / (n1 * 4294967296 + n0) < 4294967296 := by
  rw [Nat.div_lt_iff_lt_mul (by omega)]; omega
/-- A guess that is too great goes down. -/
theorem half_down {U u1 n1 n0 q r : Nat} (hi : HalfInv U u1 n1 n0 q r) (hU : U < n1 * 4294967296 + n0) (hu : u1 < 4294967296) (hc : 4294967296 ≤ q ∨ 4294967296 * r + u1 < q * n0) :
    0 < q ∧ (q - 1) * n1 + (r + n1) = U ∧ (U * 4294967296 + u1) / (n1 * 4294967296 + n0) ≤ q - 1 ∧ q - 1 ≤ 4294967296 := by
  obtain ⟨h1, h2, h3, h4⟩ := hi
  have hlt : (U * 4294967296 + u1) / (n1 * 4294967296 + n0) < q := by
    rcases hc with hc | hc
    · exact Nat.lt_of_lt_of_le (half_lt hU hu) hc
    · rw [Nat.div_lt_iff_lt_mul (by omega)]
      have : q * (n1 * 4294967296 + n0) = q * n1 * 4294967296 + q * n0 := by grind
      rw [this]; omega
  have hq : 0 < q := Nat.lt_of_le_of_lt (Nat.zero_le _) hlt
  refine ⟨hq, ?_, by omega, by omega⟩
  obtain ⟨p, rfl⟩ : ∃ p, q = p + 1 := ⟨q - 1, by omega⟩
  rw [Nat.add_sub_cancel]
  rw [Nat.add_mul] at h1; omega
theorem half_on {U u1 n1 n0 q r : Nat} (h : 0 < q ∧ (q - 1) * n1 + (r + n1) = U ∧ (U * 4294967296 + u1) / (n1 * 4294967296 + n0) ≤ q - 1 ∧ q - 1 ≤ 4294967296) (hr : r + n1 < 4294967296) : HalfInv U u1 n1 n0 (q - 1) (r + n1) := ⟨h.2.1, h.2.2.1, by omega, hr⟩
/-- Where it ends. -/
theorem half_end {U u1 n1 n0 q r : Nat} (hn : 0 < n1) (h1 : q * n1 + r = U) (h2 : (U * 4294967296 + u1) / (n1 * 4294967296 + n0) ≤ q) (h3 : q * n0 ≤ 4294967296 * r + u1) : q = (U * 4294967296 + u1) / (n1 * 4294967296 + n0) := by
  apply Nat.le_antisymm _ h2
  rw [Nat.le_div_iff_mul_le (by omega)]
  have : q * (n1 * 4294967296 + n0) = q * n1 * 4294967296 + q * n0 := by grind
  rw [this]; omega
theorem half_over {n0 q r : Nat} (h0 : n0 < 4294967296) (hq : q ≤ 4294967296) (hr : 4294967296 ≤ r) : q * n0 ≤ 4294967296 * r := by
  have := Nat.mul_le_mul hq (Nat.le_of_lt h0)
  omega
theorem halves_of {N B y0 s y U u1 u0 : Nat} (hy : y = y0 * 2 ^ s) (hy0 : 0 < y0) (hN : N * 2 ^ s = U * (B * B) + (u1 * B + u0)) :
    N / y0 = (U * B + u1) / y * B + ((U * B + u1) % y * B + u0) / y ∧ N % y0 = ((U * B + u1) % y * B + u0) % y / 2 ^ s := by
  have hp := Nat.two_pow_pos s
  have hyp : 0 < y := by rw [hy]; exact Nat.mul_pos hy0 hp
  have e1 := Nat.div_add_mod (U * B + u1) y
  generalize (U * B + u1) / y = Q1 at *
  generalize (U * B + u1) % y = R1 at *
  have e2 := Nat.div_add_mod (R1 * B + u0) y
  have e3 := Nat.mod_lt (R1 * B + u0) hyp
  generalize (R1 * B + u0) / y = Q0 at *
  generalize (R1 * B + u0) % y = R0 at *
  have hK : N * 2 ^ s = y * (Q1 * B + Q0) + R0 := by
    rw [hN]; grind
  have h1 : N / y0 = N * 2 ^ s / y := by rw [hy, Nat.mul_div_mul_right _ _ hp]
  have h2 : N % y0 * 2 ^ s = N * 2 ^ s % y := by rw [hy, Nat.mul_mod_mul_right]
  constructor
  · rw [h1, hK, Nat.mul_add_div hyp, Nat.div_eq_of_lt e3, Nat.add_zero]
  · have h3 : N * 2 ^ s % y = R0 := by rw [hK, Nat.mul_add_mod, Nat.mod_eq_of_lt e3]
    rw [← h3, ← h2, Nat.mul_div_cancel _ hp]
theorem halves {hi lo y0 s y U u1 u0 : Nat} (hy : y = y0 * 2 ^ s) (hy0 : 0 < y0) (hN : (hi * 18446744073709551616 + lo) * 2 ^ s = U * 18446744073709551616 + (u1 * 4294967296 + u0)) :
    (hi * 18446744073709551616 + lo) / y0 = (U * 4294967296 + u1) / y * 4294967296 + ((U * 4294967296 + u1) % y * 4294967296 + u0) / y ∧
    (hi * 18446744073709551616 + lo) % y0 = ((U * 4294967296 + u1) % y * 4294967296 + u0) % y / 2 ^ s :=
  halves_of (B := 4294967296) hy hy0 (by rw [hN])
theorem halves_ex {hi lo y0 s y n1 n0 U u1 u0 : Nat} (hyn : y = n1 * 4294967296 + n0) (hy : y = y0 * 2 ^ s) (hy0 : 0 < y0) (hN : (hi * 18446744073709551616 + lo) * 2 ^ s = U * 18446744073709551616 + (u1 * 4294967296 + u0)) (hU : U < y) (h1 : u1 < 4294967296) (h0 : u0 < 4294967296) :
    ∃ Q1 R1 Q0 R0, Q1 = (U * 4294967296 + u1) / (n1 * 4294967296 + n0) ∧ y * Q1 + R1 = U * 4294967296 + u1 ∧ R1 < y ∧ Q1 < 4294967296 ∧
      Q0 = (R1 * 4294967296 + u0) / (n1 * 4294967296 + n0) ∧ y * Q0 + R0 = R1 * 4294967296 + u0 ∧ R0 < y ∧ Q0 < 4294967296 ∧
      (hi * 18446744073709551616 + lo) / y0 = Q1 * 4294967296 + Q0 ∧ (hi * 18446744073709551616 + lo) % y0 = R0 / 2 ^ s := by
  obtain ⟨a, b⟩ := halves hy hy0 hN
  have hyp : 0 < y := Nat.lt_of_le_of_lt (Nat.zero_le _) hU
  have hR1 := Nat.mod_lt (U * 4294967296 + u1) hyp
  exact ⟨_, _, _, _, by rw [hyn], Nat.div_add_mod _ _, hR1, by rw [hyn]; exact half_lt (by rw [← hyn]; exact hU) h1,
    by rw [hyn], Nat.div_add_mod _ _, Nat.mod_lt _ hyp, by rw [hyn]; rw [hyn] at hR1; exact half_lt hR1 h0, a, b⟩
/-- The words that are divided, shifted. -/
theorem halves_shift {hi lo s : Nat} (hs : s < 64) :
    (hi * 18446744073709551616 + lo) * 2 ^ s = (hi * 2 ^ s + lo / 2 ^ (64 - s)) * 18446744073709551616 + lo * 2 ^ s % 18446744073709551616 := by
  rw [← shH_shr (by omega)]
  have := shL_shH lo s
  unfold shL at this
  grind
end Go.Proofs.YtkfbailpifmdcaaGreatDoor
end
