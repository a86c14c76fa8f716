/- Contracts of functions and plain lemmas that the laws of this seat lean on. -/
import Derived.Test.YtgdkokgeldnliaaGreatDoorKEfaa
import Derived.Test.YtgdkokgeldnliaaGreatDoorKEfab
import Derived.Test.YtgdkokgeldnliaaGreatDoorKEfac
import Derived.Test.YtgdkokgeldnliaaGreatDoorRows
import Derived.WalkKit
import Derived.WalkSpells
import Derived.WalkLawsBesides
import Derived.Lib.Hide
import Derived.Deep.QuietTactic
import Derived.BigQuiet
import Derived.Test.YtgdkokgeldnliaaGreatDoorShelf
import Derived.Lib.BitFns
import Derived.Lib.ItoaNum
import Derived.Lib.TrailingZeros
import Derived.Deep.DeepCutAuto
import Derived.Deep.CutBlock
import Derived.Laws.AppendOwn
import Derived.Laws.AppendOwnNone
import Derived.Laws.CopyOwn
namespace Go.Proofs.YtgdkokgeldnliaaGreatDoor
set_option linter.unusedSimpArgs false
set_option linter.unusedVariables false
set_option linter.unusedSectionVars false
set_option linter.constructorNameAsVariable false
set_option linter.unnecessarySimpa false
section
set_option maxRecDepth 100000
set_option maxHeartbeats 2000000
open Go.RowKit
theorem aOl {c x k : Nat} (hc : c < 2 ^ k) (hx : x % 2 ^ k = 0) (hx1 : x < 18446744073709551616) (hk : k < 64) : bits .or .u64 ((c : Nat) : Int) ((x : Nat) : Int) = ((c + x : Nat) : Int) := by
 have hp : (2 : Nat) ^ k <= 2 ^ 63 := Nat.pow_le_pow_right (by decide) (by omega)
 have h := (bits_nat .u64 64 (by decide) aEO c x (by omega) (by omega)).2
 rw [h]
 have hq : x = 2 ^ k * (x / 2 ^ k) := by have := Nat.div_add_mod x (2 ^ k); omega
 congr 1
 rw [Nat.or_comm, hq, <- Nat.two_pow_add_eq_or_of_lt hc (x / 2 ^ k), Nat.add_comm]
def aSs (g : Nat) (w : World) (x : List Nat) (q k : Nat) (u25 : Value) (wr : World) : Prop :=
 ∃ (i : Nat) (z : List Nat), i <= x.length /\ u25 = .int .i64 i /\ z.length = q + x.length + 1 /\ okW z /\ gw z (q + i) < 2 ^ k /\ (∀ j, q + i < j -> gw z j = 0) /\
   vt z (q + i + 1) = vt x i * (pw q * 2 ^ k) /\ Blk wr g (wArr z) 23 /\ Below w.heap.size w wr
theorem aH8 (x k : Nat) : IntKind.u64.wrap (((x : Nat) : Int) * 2 ^ k) = ((shL x k : Nat) : Int) := by
 rw [IntKind.wrap_u64]; unfold shL; simp
theorem aOb {c x k : Nat} (hc : c < 2 ^ k) (hk : k < 64) : bits .or .u64 ((c : Nat) : Int) (IntKind.u64.wrap (((x : Nat) : Int) * 2 ^ k)) = ((c + shL x k : Nat) : Int) := by
 rw [aH8]; exact aOl hc (aKG x k (by omega)) (aLU x k) hk
theorem aLT {x z : List Nat} {q k i : Nat} (hlt : i < x.length) (hzl : z.length = q + x.length + 1) (hs : vt z (q + i + 1) = vt x i * (pw q * 2 ^ k)) :
   vt (z.set (q + i) (gw z (q + i) + shL (gw x i) k)) (q + i + 1) + shH (gw x i) k * pw (q + i + 1) = vt x (i + 1) * (pw q * 2 ^ k) := by
 have h := aM2 (gw x i) k
 rw [aAC] at hs
 rw [aAC, aEP _ _ _ _ (Nat.le_refl _), aBa _ _ _ (by omega), aAC, aBz, aGm]
 rw [aGm] at hs
 generalize gw z (q + i) = c at *
 generalize vt z (q + i) = V at *
 generalize shL (gw x i) k = a at *
 generalize shH (gw x i) k = b at *
 generalize gw x i = t at *
 generalize pw q = Q at *
 generalize pw i = I at *
 generalize 2 ^ k = K at *
 grind
theorem aO5 {g : Nat} {w wr : World} {x z : List Nat} {q k i : Nat} {e1 : Int} (he1 : e1 = ((gw z (q + i) + shL (gw x i) k : Nat) : Int)) (hk : k = 0) (hg : w.heap.size <= g) (hlt : i < x.length) (hok : okW x) (hzl : z.length = q + x.length + 1) (hzo : okW z)
   (hc : gw z (q + i) < 2 ^ k) (h0 : ∀ j, q + i < j -> gw z j = 0) (hs : vt z (q + i + 1) = vt x i * (pw q * 2 ^ k)) (hz : Blk wr g (wArr z) 23) (hb : Below w.heap.size w wr) :
   aSs g w x q k (.int .i64 (((i : Nat) : Int) + 1)) (wr.setCell ⟨g, q + i, none⟩ (.int .u64 e1)).drew := by
 have hv := aLT hlt hzl hs
 have hx := aA3 hok i
 have hH : shH (gw x i) k = 0 := by subst hk; unfold shH; rw [Nat.pow_zero, Nat.mul_one]; exact Nat.div_eq_of_lt hx
 have hroom := aKF (x := gw x i) hc (by omega)
 subst he1
 refine ⟨i + 1, z.set (q + i) (gw z (q + i) + shL (gw x i) k), by omega, by go_num, by rw [List.length_set]; exact hzl, aCk hzo _ _ hroom, ?_, fun j hj => ?_, ?_, aB6 hz _ _, ((hb.setCell hg _).drew)⟩
 · rw [aBH _ _ _ _ (by omega), h0 _ (by omega)]; exact Nat.two_pow_pos _
 · rw [aBH _ _ _ _ (by omega)]; exact h0 j (by omega)
 · rw [hH, Nat.zero_mul, Nat.add_zero] at hv
   rw [show q + (i + 1) + 1 = q + i + 1 + 1 by omega, aAC, aBH _ _ _ _ (by omega), hv, h0 (q + i + 1) (by omega)]; simp
theorem aQp {g : Nat} {w wr : World} {x z : List Nat} {q k i : Nat} {e1 e2 : Int} (he1 : e1 = ((gw z (q + i) + shL (gw x i) k : Nat) : Int)) (he2 : e2 = ((shH (gw x i) k : Nat) : Int)) (hk : k < 64) (hg : w.heap.size <= g) (hlt : i < x.length) (hok : okW x) (hzl : z.length = q + x.length + 1) (hzo : okW z)
   (hc : gw z (q + i) < 2 ^ k) (h0 : ∀ j, q + i < j -> gw z j = 0) (hs : vt z (q + i + 1) = vt x i * (pw q * 2 ^ k)) (hz : Blk wr g (wArr z) 23) (hb : Below w.heap.size w wr) :
   aSs g w x q k (.int .i64 (((i : Nat) : Int) + 1)) ((wr.setCell ⟨g, q + i, none⟩ (.int .u64 e1)).setCell ⟨g, q + i + 1, none⟩ (.int .u64 e2)).drew := by
 have hv := aLT hlt hzl hs
 have hx := aA3 hok i
 have hH := aUy hx k
 have hroom := aKF (x := gw x i) hc hk
 have hp : 2 ^ k <= 2 ^ 63 := Nat.pow_le_pow_right (by decide) (by omega)
 subst he1; subst he2
 refine ⟨i + 1, (z.set (q + i) (gw z (q + i) + shL (gw x i) k)).set (q + i + 1) (shH (gw x i) k), by omega, by go_num, by rw [List.length_set, List.length_set]; exact hzl, aCk (aCk hzo _ _ hroom) _ _ (by omega), ?_, fun j hj => ?_, ?_, aB6 (aB6 hz _ _) _ _, ((hb.setCell hg _).setCell hg _).drew⟩
 · rw [show q + (i + 1) = q + i + 1 by omega, aBa _ _ _ (by rw [List.length_set]; omega)]; exact hH
 · rw [aBH _ _ _ _ (by omega), aBH _ _ _ _ (by omega)]; exact h0 j (by omega)
 · rw [show q + (i + 1) + 1 = q + i + 1 + 1 by omega, aAC, aEP _ _ _ _ (Nat.le_refl _), aBa _ _ _ (by rw [List.length_set]; omega), hv]
theorem aNU (lo : Nat) (a : Value) (l : List Nat) (n : Nat) (w : World) (ha : aAE lo w a l) (hl : l.length <= 549755813888) (hn : n <= 17592186044416) :
   Calls Tryz.prog 118 #[a, .int .i64 ((n : Nat) : Int)] w (aCW w w.heap.size (valN l * 2 ^ n)) := by
 have hlen := aA4 (aBr ha.ok)
 have e1 := aAi (valN l)
 go_enter Tryz.func118, Tryz.ntmps118
 go_wp2_with fail
 refine (aBM lo _ l _ ha).mono ?_
 rintro e w1 ⟨v1, rfl, hv1, hw⟩
 subst hw
 have hv1' := hv1.words
 clear hv1 ha
 generalize limbsOf (valN l) = x at *
 have E1 := Lib.hid e1
 clear e1
 have hokx := hv1'.ok
 obtain ⟨pa, ca, rfl, hca, hcma, _, hxa⟩ := hv1'
 have HXA := Lib.hid hxa
 have hlx : x.length <= 549755813888 := Nat.le_trans hlen hl
 clear hxa hlen hl
 by_cases h0 : x.length = 0
 · have hz : valN l * 2 ^ n = 0 := by rw [<- E1.out, List.length_eq_zero_iff.1 h0]; simp [valN]
   have HZ := Lib.hid hz
   clear hz
   have hb : (((x.length : Nat) : Int) == 0) = true := by rw [h0]; rfl
   clear h0
   go_wp2
   go_ret
   exact ⟨_, rfl, by rw [HZ.out]; exact Num.zero _ _ _ _ (by omega), Below.refl _ _⟩
 · have hb : (((x.length : Nat) : Int) == 0) = false := beq_eq_false_iff_ne.2 (by omega)
   have hmk := aBW 24 Tryz.underlying24 (n / 64 + x.length + 1) (by omega)
   have hmk' : ∀ w : World, (Instr.makeSlice 24 (.int .i64 (((n : Nat) : Int) / 64 + ((x.length : Nat) : Int) + 1)) (.int .i64 (((n : Nat) : Int) / 64 + ((x.length : Nat) : Int) + 1))).run Tryz.prog w = .ok (.slice (some ⟨w.heap.size, 0, none⟩) (n / 64 + x.length + 1) (n / 64 + x.length + 1)) (w.alloc (.cells (wArr (List.replicate (n / 64 + x.length + 1) 0)) 23)) := fun w => by
     rw [show ((n : Nat) : Int) / 64 + ((x.length : Nat) : Int) + 1 = ((n / 64 + x.length + 1 : Nat) : Int) by omega]; exact hmk w
   clear hmk h0
   have hkk : n % 64 < 64 := Nat.mod_lt _ (by decide)
   go_wp2_with fail
   clear hmk'
   go_loopw [25] (fun u25 wr => aSs w.heap.size w x (n / 64) (n % 64) u25 wr) (fun u25 _ => x.length - (intOf u25).toNat)
   case atStart => exact ⟨0, List.replicate (n / 64 + x.length + 1) 0, by omega, rfl, by simp, aBi _, by rw [aDW]; exact Nat.two_pow_pos _, fun j _ => aDW _ _, by rw [aDT]; simp [vt], Blk.new _ _ _, (Below.refl _ _).alloc (Nat.le_refl _) _⟩
   case round =>
     obtain ⟨i, z, hi, rfl, hzl, hzo, hzc, hz0, hsum, hz, hbl⟩ := hrel
     have HS := Lib.hid hsum
     have HZ := Lib.hid hzl
     have H0 := Lib.hid hz0
     clear hsum hzl hz0
     by_cases hlt : i < x.length
     · obtain ⟨b1, o1, rfl, _, hcx⟩ := HXA.out i hlt
       have hcx' := (hbl.cell (World.block_lt_of_cell? w _ hcx)).trans hcx
       have hxi := aA3 hokx i
       have zc := hz.cell (n / 64 + i) _ (aBK z (n / 64 + i) (by have := HZ.out; omega))
       have zf := hz.free (n / 64 + i)
       have zc2 := hz.cell (n / 64 + i + 1) _ (aBK z (n / 64 + i + 1) (by have := HZ.out; omega))
       have zf2 := hz.free (n / 64 + i + 1)
       clear hcx
       by_cases hk0 : n % 64 = 0
       · have hkb : ¬ (0 < n % 64) := by omega
         have HK := Lib.hid hk0
         clear hk0
         go_wp2_with fail
         go_region
         all_goals (go_wp2_with fail)
         go_roundw
         case rel => exact aO5 (aOb hzc hkk) HK.out (Nat.le_refl _) hlt hokx HZ.out hzo hzc H0.out HS.out hz hbl
         case measure => simp [intOf]; omega
       · have hkb : 0 < n % 64 := by omega
         clear hk0
         go_wp2_with fail
         go_region
         all_goals (go_wp2_with fail)
         go_roundw
         case rel => exact aQp (aOb hzc hkk) (by rw [aM3 (by omega), aD8]) hkk (Nat.le_refl _) hlt hokx HZ.out hzo hzc H0.out HS.out hz hbl
         case measure => simp [intOf]; omega
     · obtain rfl : i = x.length := by omega
       have hw2 := aAE.ofBlk_all (lo := w.heap.size) hz (Nat.le_refl _) hzo (by have := HZ.out; omega)
       rw [HZ.out] at hw2
       have hval : valN z = valN l * 2 ^ n := by
         have h1 := HS.out
         rw [aBn z _ (by have := HZ.out; omega), aBn x _ (Nat.le_refl _), aDo, <- Nat.pow_add, E1.out, show 64 * (n / 64) + n % 64 = n by omega] at h1
         exact h1
       have HV := Lib.hid hval
       clear hval
       go_wp2_with fail
       refine (aBM w.heap.size _ _ _ hw2).mono ?_
       rintro e w3 ⟨v, rfl, hv, rfl⟩
       rw [HV.out] at hv
       go_wp2
       go_ret
       exact ⟨_, rfl, hv, hbl⟩
end
section
set_option maxRecDepth 100000
set_option maxHeartbeats 2000000
open Go.RowKit
def aEL (v n : Nat) : Bool := !(v % 2 ^ n == 0)
theorem aVE {v : Nat} (h : v ≠ 0) (n : Nat) : aEL v n = decide (tz v < n) := by
 obtain ⟨m, hm, ho⟩ := aGr h
 unfold aEL
 rw [Bool.eq_iff_iff]
 simp only [Bool.not_eq_true', beq_eq_false_iff_ne, decide_eq_true_eq]
 constructor
 · intro h1
   apply Nat.lt_of_not_le
   intro h2
   apply h1
   rw [hm, show tz v = n + (tz v - n) by omega, Nat.pow_add, Nat.mul_assoc]
   exact Nat.mul_mod_right _ _
 · intro h1 h2
   have h3 : 2 ^ (tz v + 1) ∣ v := Nat.dvd_trans (Nat.pow_dvd_pow 2 h1) (Nat.dvd_of_mod_eq_zero h2)
   obtain ⟨c, hc⟩ := h3
   rw [Nat.pow_succ, Nat.mul_assoc] at hc
   have h4 : 2 ^ tz v * m = 2 ^ tz v * (2 * c) := by rw [<- hm]; exact hc
   have := Nat.eq_of_mul_eq_mul_left (Nat.two_pow_pos _) h4
   omega
theorem aRc (n : Nat) : aEL 0 n = false := by simp [aEL]
def aUT (g : Nat) (w : World) (y : List Nat) (k : Nat) (u37 : Value) (wr : World) : Prop :=
 ∃ (i : Nat) (z : List Nat), i <= y.length /\ u37 = .int .i64 i /\ z.length = y.length /\ okW z /\ vt z i * 2 ^ k + gw y 0 % 2 ^ k = vt y i + gw y i % 2 ^ k * pw i /\ Blk wr g (wArr z) 23 /\ Below w.heap.size w wr
theorem aOa {y k : Nat} (hk : k <= 64) : shL y (64 - k) = y % 2 ^ k * 2 ^ (64 - k) := by
 unfold shL
 rw [aJF (k := 64 - k) (by omega), show 64 - (64 - k) = k by omega, Nat.mul_mod_mul_right]
theorem aHm {y k : Nat} (hy : y < 18446744073709551616) (hk : k <= 64) : y / 2 ^ k < 2 ^ (64 - k) := by
 rw [Nat.div_lt_iff_lt_mul (Nat.two_pow_pos k), <- aJF hk]; exact hy
theorem aIH {g : Nat} {w wr : World} {y z : List Nat} {k i s : Nat} (hk : k <= 64) (hlt : i < y.length) (hzl : z.length = y.length) (hzo : okW z) (hs1 : s < 18446744073709551616)
   (hs2 : s = gw y i / 2 ^ k + gw y (i + 1) % 2 ^ k * 2 ^ (64 - k)) (hs : vt z i * 2 ^ k + gw y 0 % 2 ^ k = vt y i + gw y i % 2 ^ k * pw i) (hz : Blk wr g (wArr (z.set i s)) 23) (hb : Below w.heap.size w wr) :
   aUT g w y k (.int .i64 (((i : Nat) : Int) + 1)) wr := by
 refine ⟨i + 1, z.set i s, by omega, by go_num, by rw [List.length_set]; exact hzl, aCk hzo _ _ hs1, ?_, hz, hb⟩
 rw [aAC, aEP _ _ _ _ (Nat.le_refl _), aBa _ _ _ (by omega), aAC, aBz]
 have h1 := Nat.div_add_mod (gw y i) (2 ^ k)
 have h2 := aJF hk
 subst hs2
 generalize gw y i / 2 ^ k = d at *
 generalize gw y (i + 1) % 2 ^ k = r' at *
 generalize gw y i % 2 ^ k = r at *
 generalize gw y i = t at *
 generalize 2 ^ (64 - k) = L at *
 generalize 2 ^ k = K at *
 generalize pw i = P at *
 rw [h2]
 grind
theorem aUx {a b k : Nat} (ha : a < 18446744073709551616) (h0 : 0 < k) (hk : k < 64) : bits .or .u64 (((a : Nat) : Int) / 2 ^ k) (IntKind.u64.wrap (((b : Nat) : Int) * 2 ^ (64 - k))) = ((a / 2 ^ k + b % 2 ^ k * 2 ^ (64 - k) : Nat) : Int) := by
 rw [aH8, aD8, aOl (k := 64 - k) (aHm ha (by omega)) (aKG b (64 - k) (by omega)) (aLU b (64 - k)) (by omega), aOa (by omega)]
theorem aLR {a b k : Nat} (ha : a < 18446744073709551616) (hk : k <= 64) : a / 2 ^ k + b % 2 ^ k * 2 ^ (64 - k) < 18446744073709551616 := by
 have h1 := aHm ha hk
 have h2 : b % 2 ^ k < 2 ^ k := Nat.mod_lt _ (Nat.two_pow_pos k)
 have h3 : (b % 2 ^ k + 1) * 2 ^ (64 - k) <= 2 ^ k * 2 ^ (64 - k) := Nat.mul_le_mul_right _ h2
 rw [Nat.mul_comm (2 ^ k), <- aJF hk, Nat.add_mul] at h3
 omega
theorem aQo {v T V z r n : Nat} (h1 : v = T + pw (n / 64) * V) (h2 : T < pw (n / 64)) (h3 : z * 2 ^ (n % 64) + r % 2 ^ (n % 64) = V) : z = v / 2 ^ n := by
 have e : 2 ^ n = pw (n / 64) * 2 ^ (n % 64) := by rw [aDo, <- Nat.pow_add, show 64 * (n / 64) + n % 64 = n by omega]
 rw [e, <- Nat.div_div_eq_div_mul, h1, Nat.add_comm, Nat.mul_add_div (aHP _), Nat.div_eq_of_lt h2, Nat.add_zero, <- h3, Nat.mul_comm, Nat.mul_add_div (Nat.two_pow_pos _), Nat.div_eq_of_lt (Nat.mod_lt _ (Nat.two_pow_pos _)), Nat.add_zero]
def aSr (w : World) (n : Nat) (b : Bool) (e : Ending) (w' : World) : Prop := ∃ v, e = .returned (.tuple #[v, .bool b]) /\ Num w.heap.size w' v n /\ Below w.heap.size w w'
theorem aAE.drop {lo : Nat} {w : World} {b off cap : Nat} {l : List Nat} (h : aAE lo w (.slice (some ⟨b, off, none⟩) l.length cap) l) (q : Nat) (hq : q <= l.length) :
   aAE lo w (.slice (some ⟨b, off + q, none⟩) (l.length - q) (cap - q)) (l.drop q) := by
 obtain ⟨x', cap0, h1, h2, h3, h4, h5⟩ := h
 injection h1 with e1 e2 e3
 subst e1; subst e3
 refine ⟨_, cap - q, by rw [List.length_drop], by rw [List.length_drop]; omega, by omega, ⟨aIh h4.1 q, fun e => by cases e⟩, fun i hi => ?_⟩
 rw [List.length_drop] at hi
 obtain ⟨b', off', e, hlo, hcell⟩ := h5 (q + i) (by omega)
 injection e with e
 injection e with e1 e2
 subst e1; subst e2
 exact ⟨_, _, rfl, hlo, by rw [aI7, <- hcell, Nat.add_assoc]⟩
theorem aIp {w : World} {g : Nat} {z : List Nat} {i s : Nat} {e : Int} (h : Blk w g (wArr z) 23) (he : e = ((s : Nat) : Int)) : Blk (w.setCell ⟨g, i, none⟩ (.int .u64 e)) g (wArr (z.set i s)) 23 := by
 subst he; exact aB6 h i s
theorem aAE.cell' {lo : Nat} {w : World} {b off len cap : Nat} {l : List Nat} (h : aAE lo w (.slice (some ⟨b, off, none⟩) len cap) l) (i : Nat) (hi : i < l.length) :
   lo <= b /\ w.cell? ⟨b, off + i, none⟩ = some (.int .u64 ((gw l i : Nat) : Int)) := by
 obtain ⟨x, cap', e, _, _, _, h⟩ := h
 injection e with e1 e2 e3
 subst e1
 obtain ⟨b', off', e, h1, h2⟩ := h i hi
 injection e with e
 injection e with e1 e2
 subst e1; subst e2
 exact ⟨h1, h2⟩
theorem aNT (lo : Nat) (a : Value) (l : List Nat) (n : Nat) (w : World) (ha : aAE lo w a l) (hl : l.length <= 549755813888) (hn : n <= 4611686018427387904) (hT : TabW w) :
   Calls Tryz.prog 115 #[a, .int .i64 ((n : Nat) : Int)] w (aSr w (valN l / 2 ^ n) (aEL (valN l) n)) := by
 have hlen := aA4 (aBr ha.ok)
 have e1 := aAi (valN l)
 have e0 := @aAG (valN l)
 go_enter Tryz.func115, Tryz.ntmps115
 go_wp2_with fail
 refine (aBM lo _ l _ ha).mono ?_
 rintro e w1 ⟨v1, rfl, hv1, hw⟩
 subst hw
 have hv1' := hv1.words
 clear hv1 ha
 generalize limbsOf (valN l) = x at *
 generalize valN l = v at *
 have E1 := Lib.hid e1
 have E0 := Lib.hid e0
 clear e1 e0
 have hokx := hv1'.ok
 have HW := Lib.hid hv1'
 obtain ⟨pa, ca, rfl, hca, hcma, _, hxa⟩ := hv1'
 have HXA := Lib.hid hxa
 have hlx : x.length <= 549755813888 := Nat.le_trans hlen hl
 clear hxa hlen hl
 by_cases h0 : x.length = 0
 · have hz : v = 0 := E0.out.1 h0
   have HZ := Lib.hid hz
   clear hz
   have hb : (((x.length : Nat) : Int) == 0) = true := by rw [h0]; rfl
   clear h0
   go_wp2
   go_ret2
   exact ⟨_, by rw [HZ.out, aRc]; rfl, by rw [HZ.out, Nat.zero_div]; exact Num.zero _ _ _ _ (by omega), Below.refl _ _⟩
 have hv0 : v ≠ 0 := fun e => h0 (E0.out.2 e)
 have hlost := aVE hv0 n
 have htl := aMW hv0
 have HL := Lib.hid hlost
 have hb : (((x.length : Nat) : Int) == 0) = false := beq_eq_false_iff_ne.2 (by omega)
 clear h0 hv0 hlost htl
 by_cases hq : x.length <= n / 64
 · have hv : v / 2 ^ n = 0 := by
     apply Nat.div_eq_of_lt
     have h1 := aBr hokx
     rw [E1.out, aDo] at h1
     exact Nat.lt_of_lt_of_le h1 (Nat.pow_le_pow_right (by decide) (by omega))
   have HV := Lib.hid hv
   clear hv
   go_wp2_with (go_at_call 114; refine (aNW lo _ x _ HW.out (by omega) hT).mono ?_; rintro e w2 ⟨rfl, rfl⟩; rw [E1.out])
   go_ret2
   refine ⟨_, by rw [HL.out]; rfl, by rw [HV.out]; exact Num.zero _ _ _ _ (by omega), Below.refl _ _⟩
 · have hq' : n / 64 < x.length := by omega
   obtain ⟨b1, o1, rfl, _, _⟩ := HXA.out (n / 64) hq'
   have hmk := aBW 24 Tryz.underlying24 (x.length - n / 64) (by omega)
   have hkk : n % 64 < 64 := Nat.mod_lt _ (by decide)
   have hwd := HW.out.drop (n / 64) (by omega)
   have hyl : (x.drop (n / 64)).length = x.length - n / 64 := List.length_drop
   have hvd := aDb x (n / 64)
   have hvl := aBr (aFZ hokx (n / 64))
   rw [List.length_take, Nat.min_eq_left (by omega)] at hvl
   generalize hyy : x.drop (n / 64) = y at *
   clear hyy
   have HWD := Lib.hid hwd
   have HYL := Lib.hid hyl
   have HVD := Lib.hid hvd
   have HVL := Lib.hid hvl
   have hoky := hwd.ok
   clear hwd hyl hvd hvl hq HXA
   go_wp2_with (go_at_call 114; refine (aNW lo _ x _ HW.out (by omega) hT).mono ?_; rintro e w2 ⟨rfl, rfl⟩; rw [E1.out])
   clear hmk
   go_loopw [37] (fun u37 wr => aUT w.heap.size w y (n % 64) u37 wr) (fun u37 _ => x.length - n / 64 - (intOf u37).toNat)
   case atStart => exact ⟨0, List.replicate (x.length - n / 64) 0, Nat.zero_le _, rfl, by rw [HYL.out]; simp, aBi _, by simp [vt, aEJ], Blk.new _ _ _, (Below.refl _ _).alloc (Nat.le_refl _) _⟩
   case round =>
     obtain ⟨i, z, hi, rfl, hzl, hzo, hsum, hz, hbl⟩ := hrel
     have HS := Lib.hid hsum
     have HZ := Lib.hid hzl
     clear hsum hzl
     have hyl := HYL.out
     rw [hyl] at hi
     have HYL' := Lib.hid hyl
     clear hyl
     by_cases hlt : i < x.length - n / 64
     · obtain ⟨_, hcy⟩ := (HWD.out.call hbl).cell' i (by have := HYL.out; omega)
       have hyi := aA3 hoky i
       have zc := hz.cell i _ (aBK z i (by have := HZ.out; have := HYL.out; omega))
       have zf := hz.free i
       have hyl := HYL.out
       by_cases hk0 : n % 64 = 0
       · have hkb : ¬ (0 < n % 64) := by omega
         have hs2 : gw y i / 2 ^ (n % 64) = gw y i / 2 ^ (n % 64) + gw y (i + 1) % 2 ^ (n % 64) * 2 ^ (64 - n % 64) := by rw [hk0]; simp [Nat.mod_one]
         have HS2 := Lib.hid hs2
         clear hk0 hs2 hyl
         go_wp2_with fail
         go_roundw
         case rel => exact aIH (by omega) (by have := HYL.out; omega) HZ.out hzo (aKg hyi _) HS2.out HS.out (aIp hz (aD8 _ _)) (hbl.setCell (Nat.le_refl _) _)
         case measure => simp [intOf]; omega
       · by_cases hnx : i + 1 < x.length - n / 64
         · have hkb : 0 < n % 64 := by omega
           have hbl2 := hbl.setCell (p := ⟨w.heap.size, i, none⟩) (Nat.le_refl _) (.int .u64 (((gw y i : Nat) : Int) / 2 ^ (n % 64)))
           obtain ⟨_, hcy2⟩ := (HWD.out.call hbl2).cell' (i + 1) (by omega)
           have hz2 := aIp (i := i) hz (aD8 (gw y i) (n % 64))
           have zc2 := hz2.cell i _ (aBK _ i (by have := HZ.out; rw [List.length_set]; omega))
           rw [aBa _ _ _ (by have := HZ.out; omega)] at zc2
           have zf2 := hz2.free i
           have hyi2 := aA3 hoky (i + 1)
           have hcy3 := hcy2
           rw [<- Nat.add_assoc] at hcy3
           clear hk0 hyl
           go_wp2_with fail
           go_region
           all_goals (go_wp2_with fail)
           go_roundw
           case rel => exact aIH (by omega) (by have := HYL.out; omega) HZ.out hzo (aLR hyi (by omega)) rfl HS.out (by have := aIp (i := i) hz2 (aUx hyi hkb hkk (b := gw y (i + 1))); rw [List.set_set] at this; exact this) (((hbl2).setCell (p := ⟨w.heap.size, i, none⟩) (Nat.le_refl _) _).drew)
           case measure => simp [intOf]; omega
         · have hkb : 0 < n % 64 := by omega
           have hs2 : gw y i / 2 ^ (n % 64) = gw y i / 2 ^ (n % 64) + gw y (i + 1) % 2 ^ (n % 64) * 2 ^ (64 - n % 64) := by rw [aGk (l := y) (i := i + 1) (by omega)]; simp
           have HS2 := Lib.hid hs2
           clear hk0 hs2 hyl
           go_wp2_with fail
           go_roundw
           case rel => exact aIH (by omega) (by have := HYL.out; omega) HZ.out hzo (aKg hyi _) HS2.out HS.out (aIp hz (aD8 _ _)) (hbl.setCell (Nat.le_refl _) _)
           case measure => simp [intOf]; omega
     · obtain rfl : i = x.length - n / 64 := by omega
       have hyl := HYL.out
       have hw2 := aAE.ofBlk_all (lo := w.heap.size) hz (Nat.le_refl _) hzo (by have := HZ.out; omega)
       rw [HZ.out, hyl] at hw2
       have hval : valN z = v / 2 ^ n := by
         have h1 := HS.out
         rw [aBn z _ (by have := HZ.out; omega), aBn y _ (by omega), aGk (l := y) (i := x.length - n / 64) (by omega)] at h1
         exact aQo (by rw [<- E1.out]; exact HVD.out) HVL.out (by rw [h1]; simp)
       have HV := Lib.hid hval
       clear hval hyl
       go_wp2_with fail
       refine (aBM w.heap.size _ _ _ hw2).mono ?_
       rintro e w3 ⟨v, rfl, hv, rfl⟩
       rw [HV.out] at hv
       go_wp2
       go_ret2
       exact ⟨_, by rw [HL.out]; rfl, hv, hbl⟩
end
section
def aLz (U u1 n1 n0 q r : Nat) : Prop := q * n1 + r = U /\ (U * 4294967296 + u1) / (n1 * 4294967296 + n0) <= q /\ q <= 4294967297 /\ r < 4294967296
theorem aJ9 {U u1 n1 n0 : Nat} (h1 : 2147483648 <= n1) (h2 : n1 < 4294967296) (h0 : n0 < 4294967296) (hU : U < n1 * 4294967296 + n0) (hu : u1 < 4294967296) : aLz U u1 n1 n0 (U / n1) (U % n1) := by
 have hm := Nat.mod_lt U (show 0 < n1 by omega)
 have hdm := Nat.div_add_mod U n1
 refine ⟨by rw [Nat.mul_comm]; exact hdm, ?_, ?_, by omega⟩
 · apply Nat.le_of_lt_succ
   rw [Nat.div_lt_iff_lt_mul (by omega)]
   generalize U / n1 = q at *
   have h3 : U < (q + 1) * n1 := by rw [Nat.add_mul, Nat.one_mul, Nat.mul_comm]; omega
   have h4 : (U + 1) * 4294967296 <= (q + 1) * n1 * 4294967296 := Nat.mul_le_mul_right _ h3
   have h5 : (q + 1) * (n1 * 4294967296 + n0) = (q + 1) * n1 * 4294967296 + (q + 1) * n0 := by grind
   show _ < (q + 1) * (n1 * 4294967296 + n0)
   rw [h5]
   omega
 · rw [Nat.div_le_iff_le_mul_add_pred (by omega)]
   omega
theorem aNv {U u1 n1 n0 : Nat} (hU : U < n1 * 4294967296 + n0) (hu : u1 < 4294967296) : (U * 4294967296 + u1) / (n1 * 4294967296 + n0) < 4294967296 := by
 rw [Nat.div_lt_iff_lt_mul (by omega)]; omega
theorem aG3 {U u1 n1 n0 q r : Nat} (hi : aLz U u1 n1 n0 q r) (hU : U < n1 * 4294967296 + n0) (hu : u1 < 4294967296) (hc : 4294967296 <= q \/ 4294967296 * r + u1 < q * n0) :
   0 < q /\ (q - 1) * n1 + (r + n1) = U /\ (U * 4294967296 + u1) / (n1 * 4294967296 + n0) <= q - 1 /\ q - 1 <= 4294967296 := by
 obtain ⟨h1, h2, h3, h4⟩ := hi
 have hlt : (U * 4294967296 + u1) / (n1 * 4294967296 + n0) < q := by
   rcases hc with hc | hc
   · exact Nat.lt_of_lt_of_le (aNv hU hu) hc
   · rw [Nat.div_lt_iff_lt_mul (by omega)]
     have : q * (n1 * 4294967296 + n0) = q * n1 * 4294967296 + q * n0 := by grind
     rw [this]; omega
 have hq : 0 < q := Nat.lt_of_le_of_lt (Nat.zero_le _) hlt
 refine ⟨hq, ?_, by omega, by omega⟩
 obtain ⟨p, rfl⟩ : ∃ p, q = p + 1 := ⟨q - 1, by omega⟩
 rw [Nat.add_sub_cancel]
 rw [Nat.add_mul] at h1; omega
theorem aF8 {U u1 n1 n0 q r : Nat} (hn : 0 < n1) (h1 : q * n1 + r = U) (h2 : (U * 4294967296 + u1) / (n1 * 4294967296 + n0) <= q) (h3 : q * n0 <= 4294967296 * r + u1) : q = (U * 4294967296 + u1) / (n1 * 4294967296 + n0) := by
 apply Nat.le_antisymm _ h2
 rw [Nat.le_div_iff_mul_le (by omega)]
 have : q * (n1 * 4294967296 + n0) = q * n1 * 4294967296 + q * n0 := by grind
 rw [this]; omega
theorem aG2 {n0 q r : Nat} (h0 : n0 < 4294967296) (hq : q <= 4294967296) (hr : 4294967296 <= r) : q * n0 <= 4294967296 * r := by
 have := Nat.mul_le_mul hq (Nat.le_of_lt h0)
 omega
theorem aRt {N B y0 s y U u1 u0 : Nat} (hy : y = y0 * 2 ^ s) (hy0 : 0 < y0) (hN : N * 2 ^ s = U * (B * B) + (u1 * B + u0)) :
   N / y0 = (U * B + u1) / y * B + ((U * B + u1) % y * B + u0) / y /\ N % y0 = ((U * B + u1) % y * B + u0) % y / 2 ^ s := by
 have hp := Nat.two_pow_pos s
 have hyp : 0 < y := by rw [hy]; exact Nat.mul_pos hy0 hp
 have e1 := Nat.div_add_mod (U * B + u1) y
 generalize (U * B + u1) / y = Q1 at *
 generalize (U * B + u1) % y = R1 at *
 have e2 := Nat.div_add_mod (R1 * B + u0) y
 have e3 := Nat.mod_lt (R1 * B + u0) hyp
 generalize (R1 * B + u0) / y = Q0 at *
 generalize (R1 * B + u0) % y = R0 at *
 have hK : N * 2 ^ s = y * (Q1 * B + Q0) + R0 := by
   rw [hN]; grind
 have h1 : N / y0 = N * 2 ^ s / y := by rw [hy, Nat.mul_div_mul_right _ _ hp]
 have h2 : N % y0 * 2 ^ s = N * 2 ^ s % y := by rw [hy, Nat.mul_mod_mul_right]
 constructor
 · rw [h1, hK, Nat.mul_add_div hyp, Nat.div_eq_of_lt e3, Nat.add_zero]
 · have h3 : N * 2 ^ s % y = R0 := by rw [hK, Nat.mul_add_mod, Nat.mod_eq_of_lt e3]
   rw [<- h3, <- h2, Nat.mul_div_cancel _ hp]
theorem aWV {hi lo y0 s y U u1 u0 : Nat} (hy : y = y0 * 2 ^ s) (hy0 : 0 < y0) (hN : (hi * 18446744073709551616 + lo) * 2 ^ s = U * 18446744073709551616 + (u1 * 4294967296 + u0)) :
   (hi * 18446744073709551616 + lo) / y0 = (U * 4294967296 + u1) / y * 4294967296 + ((U * 4294967296 + u1) % y * 4294967296 + u0) / y /\
   (hi * 18446744073709551616 + lo) % y0 = ((U * 4294967296 + u1) % y * 4294967296 + u0) % y / 2 ^ s :=
 aRt (B := 4294967296) hy hy0 (by rw [hN])
theorem aRu {hi lo y0 s y n1 n0 U u1 u0 : Nat} (hyn : y = n1 * 4294967296 + n0) (hy : y = y0 * 2 ^ s) (hy0 : 0 < y0) (hN : (hi * 18446744073709551616 + lo) * 2 ^ s = U * 18446744073709551616 + (u1 * 4294967296 + u0)) (hU : U < y) (h1 : u1 < 4294967296) (h0 : u0 < 4294967296) :
   ∃ Q1 R1 Q0 R0, Q1 = (U * 4294967296 + u1) / (n1 * 4294967296 + n0) /\ y * Q1 + R1 = U * 4294967296 + u1 /\ R1 < y /\ Q1 < 4294967296 /\
     Q0 = (R1 * 4294967296 + u0) / (n1 * 4294967296 + n0) /\ y * Q0 + R0 = R1 * 4294967296 + u0 /\ R0 < y /\ Q0 < 4294967296 /\
     (hi * 18446744073709551616 + lo) / y0 = Q1 * 4294967296 + Q0 /\ (hi * 18446744073709551616 + lo) % y0 = R0 / 2 ^ s := by
 obtain ⟨a, b⟩ := aWV hy hy0 hN
 have hyp : 0 < y := Nat.lt_of_le_of_lt (Nat.zero_le _) hU
 have hR1 := Nat.mod_lt (U * 4294967296 + u1) hyp
 exact ⟨_, _, _, _, by rw [hyn], Nat.div_add_mod _ _, hR1, by rw [hyn]; exact aNv (by rw [<- hyn]; exact hU) h1,
   by rw [hyn], Nat.div_add_mod _ _, Nat.mod_lt _ hyp, by rw [hyn]; rw [hyn] at hR1; exact aNv hR1 h0, a, b⟩
theorem aMi {hi lo s : Nat} (hs : s < 64) :
   (hi * 18446744073709551616 + lo) * 2 ^ s = (hi * 2 ^ s + lo / 2 ^ (64 - s)) * 18446744073709551616 + lo * 2 ^ s % 18446744073709551616 := by
 rw [<- aM3 (by omega)]
 have := aM2 lo s
 unfold shL at this
 grind
end
section
set_option maxRecDepth 100000
set_option maxHeartbeats 2000000
open Go.RowKit
theorem lz64 (x : Nat) (hx : x < 18446744073709551616) (w : World) :
   Calls Tryz.prog 193 #[.int .u64 ((x : Nat) : Int)] w fun e w' => e = .returned (.int .i64 ((64 - bl x : Nat) : Int)) /\ w = w' := by
 refine (Tryz.bits_LeadingZeros64 (x : Int) w (by omega) (by omega)).mono ?_
 rintro e w1 ⟨rfl, rfl⟩
 have hb : bl x <= 64 := aC8 hx
 have := aJs x
 exact ⟨aEH (by rw [Int.toNat_natCast]; omega), rfl⟩
theorem aDy {e : Int} {x : Nat} (he : e = ((x : Nat) : Int)) (hx : x < 18446744073709551616) : IntKind.u64.wrap e = ((x : Nat) : Int) := by
 subst he; rw [IntKind.wrap_u64]; omega
theorem aVw {x : Nat} (h : x ≠ 0) (hx : x < 18446744073709551616) : 9223372036854775808 <= x * 2 ^ (64 - bl x) := by
 have h1 := aHJ h
 have h2 : bl x <= 64 := aC8 hx
 have h3 := aD6 h
 have h4 : (9223372036854775808 : Nat) = 2 ^ (bl x - 1) * 2 ^ (64 - bl x) := by rw [<- Nat.pow_add, show bl x - 1 + (64 - bl x) = 63 by omega]
 rw [h4]
 exact Nat.mul_le_mul_right _ h1
theorem aQ0 {x : Nat} (hx : x < 18446744073709551616) : x * 2 ^ (64 - bl x) < 18446744073709551616 := by
 have h1 := aDO x
 have h2 : bl x <= 64 := aC8 hx
 have h4 : (18446744073709551616 : Nat) = 2 ^ bl x * 2 ^ (64 - bl x) := by rw [<- Nat.pow_add, show bl x + (64 - bl x) = 64 by omega]
 rw [h4]
 exact Nat.mul_lt_mul_of_pos_right h1 (Nat.two_pow_pos _)
theorem aXc (x : Nat) (hx : x < 18446744073709551616) : bits .and .u64 ((x : Nat) : Int) 4294967295 = ((x % 4294967296 : Nat) : Int) := by
 have := bits_mask .u64 64 (by decide) aEO 32 (by decide) ((x : Nat) : Int) (by omega) (by omega)
 simpa using this
theorem aQS (x y : Nat) (hx : x < 18446744073709551616) (hy : y < 18446744073709551616) : bits .or .u64 ((x : Nat) : Int) ((y : Nat) : Int) = bits .or .u64 ((y : Nat) : Int) ((x : Nat) : Int) := by
 rw [(bits_nat .u64 64 (by decide) aEO x y (by omega) (by omega)).2, (bits_nat .u64 64 (by decide) aEO y x (by omega) (by omega)).2, Nat.or_comm]
def aSA (w : World) (q r : Nat) (e : Ending) (w' : World) : Prop := e = .returned (.tuple #[.int .u64 ((q : Nat) : Int), .int .u64 ((r : Nat) : Int)]) /\ ∃ m, w' = w.drewN m
theorem aMQ (hi lo y0 : Nat) (hh : hi < y0) (hl : lo < 18446744073709551616) (hy : y0 < 18446744073709551616) (w : World) :
   Calls Tryz.prog 195 #[.int .u64 ((hi : Nat) : Int), .int .u64 ((lo : Nat) : Int), .int .u64 ((y0 : Nat) : Int)] w
     (aSA w ((hi * 18446744073709551616 + lo) / y0) ((hi * 18446744073709551616 + lo) % y0)) := by
 have hb0 : (((y0 : Nat) : Int) == 0) = false := beq_eq_false_iff_ne.2 (by omega)
 by_cases h0 : hi = 0
 · have hbh : (((hi : Nat) : Int) == 0) = true := by rw [h0]; rfl
   have HZ := Lib.hid h0
   clear h0
   go_enter Tryz.func195, Tryz.ntmps195
   go_wp2
   go_quiet (fail)
   go_wp2
   go_ret2
   have e1 : IntKind.u64.wrap (((lo : Nat) : Int) / ((y0 : Nat) : Int)) = ((lo / y0 : Nat) : Int) := aDy (by simp) (Nat.lt_of_le_of_lt (Nat.div_le_self lo y0) hl)
   refine ⟨by rw [HZ.out, Nat.zero_mul, Nat.zero_add, e1]; rfl, _, rfl⟩
 · have hbh : (((hi : Nat) : Int) == 0) = false := beq_eq_false_iff_ne.2 (by omega)
   have hs : 64 - bl y0 < 64 := by have := aD6 (n := y0) (by omega); omega
   clear h0
   go_enter Tryz.func195, Tryz.ntmps195
   generalize hZ : (4294967296 : Int) = Z
   have HZ := Lib.hid hZ
   clear hZ
   go_wp2_with fail
   refine (lz64 y0 hy _).mono ?_
   rintro e w1 ⟨rfl, rfl⟩
   have hy2 := aVw (by omega) hy
   have hy3 := aQ0 hy
   generalize 64 - bl y0 = s at *
   have ey : IntKind.u64.wrap (((y0 : Nat) : Int) * 2 ^ s) = ((y0 * 2 ^ s : Nat) : Int) := aDy (by simp) hy3
   generalize hyy : y0 * 2 ^ s = y at *
   have HYY := Lib.hid hyy
   clear hyy
   obtain ⟨n1, hn1⟩ : ∃ n, y / 4294967296 = n := ⟨_, rfl⟩
   obtain ⟨n0, hn0⟩ : ∃ n, y % 4294967296 = n := ⟨_, rfl⟩
   have e1 : ((y : Nat) : Int) / 4294967296 = ((n1 : Nat) : Int) := by omega
   have e2 : ((y : Nat) : Int) % 4294967296 = ((n0 : Nat) : Int) := by omega
   have hA := Nat.mul_le_mul_right (2 ^ s) (Nat.le_of_lt hh)
   rw [HYY.out] at hA
   have hB := aHm (y := lo) (k := 64 - s) hl (by omega)
   rw [show 64 - (64 - s) = s by omega] at hB
   have hBl := Nat.div_le_self lo (2 ^ (64 - s))
   have hor := aOl (c := lo / 2 ^ (64 - s)) (x := hi * 2 ^ s) hB (Nat.mul_mod_left _ _) (by omega) hs
   have hsh := aMi (hi := hi) (lo := lo) hs
   have e3 : IntKind.u64.wrap (((hi : Nat) : Int) * 2 ^ s) = ((hi * 2 ^ s : Nat) : Int) := aDy (by simp) (by omega)
   have e4 : ((lo : Nat) : Int) / 2 ^ (64 - s) = ((lo / 2 ^ (64 - s) : Nat) : Int) := by simp
   have e5 : IntKind.u64.wrap (((lo : Nat) : Int) * 2 ^ s) = ((lo * 2 ^ s % 18446744073709551616 : Nat) : Int) := by rw [IntKind.wrap_u64]; simp
   generalize hU0 : lo / 2 ^ (64 - s) = B at *
   generalize hA1 : hi * 2 ^ s = A at *
   generalize hU2 : lo * 2 ^ s % 18446744073709551616 = u10 at *
   clear hU0
   have hu10 : u10 < 18446744073709551616 := by omega
   obtain ⟨u1, hu1⟩ : ∃ n, u10 / 4294967296 = n := ⟨_, rfl⟩
   obtain ⟨u0, hu0⟩ : ∃ n, u10 % 4294967296 = n := ⟨_, rfl⟩
   have e6 : ((u10 : Nat) : Int) / 4294967296 = ((u1 : Nat) : Int) := by omega
   have e7 : ((u10 : Nat) : Int) % 4294967296 = ((u0 : Nat) : Int) := by omega
   have e8 := aXc y hy3
   have e9 := aXc u10 hu10
   rw [hn0] at e8
   rw [hu0] at e9
   have e10 : bits .or .u64 ((A : Nat) : Int) ((B : Nat) : Int) = ((B + A : Nat) : Int) := by rw [aQS A B (by omega) (by omega)]; exact hor
   have hUy : B + A < y := by
     have := Nat.mul_le_mul_right (2 ^ s) hh
     rw [HYY.out, Nat.succ_mul, hA1] at this; omega
   have hsh' : (hi * 18446744073709551616 + lo) * 2 ^ s = (B + A) * 18446744073709551616 + (u1 * 4294967296 + u0) := by rw [hsh, Nat.add_comm A B]; omega
   have hst := aJ9 (U := B + A) (u1 := u1) (n1 := n1) (n0 := n0) (by omega) (by omega) (by omega) (by omega) (by omega)
   obtain ⟨Q1, R1, Q0, R0, hq1, hr1, hR1y, hQ1, hq0, hr0, hR0y, hQ0, hq, hr⟩ := aRu (hi := hi) (lo := lo) (n1 := n1) (n0 := n0) (by omega) HYY.out.symm (by omega) hsh' hUy (by omega) (by omega)
   have HQ1 := Lib.hid hq1
   have HR1 := Lib.hid hr1
   have HQ0 := Lib.hid hq0
   have HR0 := Lib.hid hr0
   have HR1y := Lib.hid hR1y
   have HR0y := Lib.hid hR0y
   have HQ1b := Lib.hid hQ1
   have HQ0b := Lib.hid hQ0
   clear hq1 hr1 hR1y hQ1 hq0 hr0 hR0y hQ0
   generalize B + A = U at *
   have HQ := Lib.hid hq
   have HR := Lib.hid hr
   have hUdiv := Nat.div_add_mod U n1
   generalize hqq : U / n1 = q at *
   generalize U % n1 = r at *
   obtain ⟨P, hP⟩ : ∃ P, P = q * n1 := ⟨_, rfl⟩
   rw [Nat.mul_comm, <- hP] at hUdiv
   have e11 : IntKind.u64.wrap (((U : Nat) : Int) / ((n1 : Nat) : Int)) = ((q : Nat) : Int) := aDy (by simp [<- hqq]) (by have := Nat.div_le_self U n1; omega)
   have e12 : IntKind.u64.wrap (((q : Nat) : Int) * ((n1 : Nat) : Int)) = ((P : Nat) : Int) := aDy (by simp [hP]) (by omega)
   have e13 : IntKind.u64.wrap (((U : Nat) : Int) - ((P : Nat) : Int)) = ((r : Nat) : Int) := aDy (by omega) (by have := hst.2.2.2; omega)
   have HST := Lib.hid hst
   have hn0' : n0 < 4294967296 := by omega
   have hn1' : 2147483648 <= n1 /\ n1 < 4294967296 := by omega
   have hu1' : u1 < 4294967296 := by omega
   have hu0' : u0 < 4294967296 := by omega
   have hyn : y = n1 * 4294967296 + n0 := by omega
   have HYN := Lib.hid hyn
   clear hq hr hA hA1 hB hBl hor hsh hsh' hn1 hn0 hu1 hu0 hU2 hqq hP hUdiv hst hyn
   go_upto_block 0 with fail
   clear ey e1 e2 e3 e4 e5 e6 e7 e8 e9 e10 e11 e12 e13
   go_cut [15, 16] (fun u15 u16 wx => u15 = .int .u64 ((Q1 : Nat) : Int) /\ (∃ r, u16 = .int .u64 r) /\ wx = w)
   case first =>
     go_wp2_with fail
     go_loop [15, 16] (fun u15 u16 => ∃ q r : Nat, u15 = .int .u64 ((q : Nat) : Int) /\ u16 = .int .u64 ((r : Nat) : Int) /\ q <= 4294967297 /\ r < 4294967296 /\ Hid (aLz U u1 n1 n0 q r)) (fun u15 _ => (intOf u15).toNat)
     case atStart => exact ⟨q, r, rfl, rfl, HST.out.2.2.1, HST.out.2.2.2, HST⟩
     case round =>
       clear HST
       obtain ⟨q, r, rfl, rfl, hq, hr, HI⟩ := hrel
       by_cases hc1 : 4294967296 <= q
       · have hc1' : Z <= ((q : Nat) : Int) := by have := HZ.out; omega
         have hd := aG3 HI.out (by rw [<- HYN.out]; exact hUy) hu1' (.inl hc1)
         have HD := Lib.hid hd
         have hw1 : IntKind.u64.wrap (((q : Nat) : Int) - 1) = ((q - 1 : Nat) : Int) := aDy (by omega) (by omega)
         have hw2 : IntKind.u64.wrap (((r : Nat) : Int) + ((n1 : Nat) : Int)) = ((r + n1 : Nat) : Int) := aDy (by omega) (by omega)
         generalize hq1 : q - 1 = q' at *
         generalize hr1 : r + n1 = r' at *
         have HQ1' := Lib.hid hq1
         clear hd hq1 hr1 hq hc1
         by_cases hc3 : 4294967296 <= r'
         · have hc3' : Z <= ((r' : Nat) : Int) := by have := HZ.out; omega
           have he := aF8 (r := r') (by omega) HD.out.2.1 HD.out.2.2.1 (Nat.le_trans (aG2 hn0' HD.out.2.2.2 hc3) (Nat.le_add_right _ _))
           have HE := Lib.hid he
           clear he hc3
           go_wp2_with fail
           go_meet
           exact ⟨by rw [HE.out, HQ1.out], ⟨_, rfl⟩, rfl⟩
         · have hc3' : ¬ (Z <= ((r' : Nat) : Int)) := by have := HZ.out; omega
           have HC3 := Lib.hid hc3
           clear hc3
           go_wp2_with fail
           go_round
           case rel => exact ⟨q', r', rfl, rfl, by have := HD.out.2.2.2; omega, by have := HC3.out; omega, HD.out.2.1, HD.out.2.2.1, by have := HD.out.2.2.2; omega, by have := HC3.out; omega⟩
           case measure => simp [intOf]; have := HQ1'.out; have := HD.out.1; omega
       · have hc1' : ¬ (Z <= ((q : Nat) : Int)) := by have := HZ.out; omega
         obtain ⟨P, hP⟩ : ∃ P, q * n0 = P := ⟨_, rfl⟩
         have hPb : P <= 4294967296 * 4294967296 - 1 := by
           rw [<- hP]
           have := Nat.mul_le_mul (show q <= 4294967295 by omega) (show n0 <= 4294967295 by omega)
           omega
         have hw0 : IntKind.u64.wrap (((q : Nat) : Int) * ((n0 : Nat) : Int)) = ((P : Nat) : Int) := aDy (by rw [<- hP]; simp) (by omega)
         obtain ⟨R0, hR0⟩ : ∃ R0, 4294967296 * r = R0 := ⟨_, rfl⟩
         obtain ⟨R, hR⟩ : ∃ R, 4294967296 * r + u1 = R := ⟨_, rfl⟩
         have hw4 : IntKind.u64.wrap (Z * ((r : Nat) : Int)) = ((R0 : Nat) : Int) := by rw [<- HZ.out]; exact aDy (by omega) (by omega)
         have hw3 : IntKind.u64.wrap (((R0 : Nat) : Int) + ((u1 : Nat) : Int)) = ((R : Nat) : Int) := aDy (by omega) (by omega)
         have HC1 := Lib.hid hc1
         clear hR0 hc1
         by_cases hc2 : R < P
         · have hd := aG3 HI.out (by rw [<- HYN.out]; exact hUy) hu1' (.inr (by rw [hR, hP]; exact hc2))
           have HD := Lib.hid hd
           have hw1 : IntKind.u64.wrap (((q : Nat) : Int) - 1) = ((q - 1 : Nat) : Int) := aDy (by omega) (by have := HC1.out; omega)
           have hw2 : IntKind.u64.wrap (((r : Nat) : Int) + ((n1 : Nat) : Int)) = ((r + n1 : Nat) : Int) := aDy (by omega) (by omega)
           generalize hq1 : q - 1 = q' at *
           generalize hr1 : r + n1 = r' at *
           have HQ1' := Lib.hid hq1
           clear hd hq1 hr1 hP hR hPb hq
           by_cases hc3 : 4294967296 <= r'
           · have hc3' : Z <= ((r' : Nat) : Int) := by have := HZ.out; omega
             have he := aF8 (r := r') (by omega) HD.out.2.1 HD.out.2.2.1 (Nat.le_trans (aG2 hn0' HD.out.2.2.2 hc3) (Nat.le_add_right _ _))
             have HE := Lib.hid he
             clear he hc3
             go_wp2_with fail
             go_meet
             exact ⟨by rw [HE.out, HQ1.out], ⟨_, rfl⟩, rfl⟩
           · have hc3' : ¬ (Z <= ((r' : Nat) : Int)) := by have := HZ.out; omega
             have HC3 := Lib.hid hc3
             clear hc3
             go_wp2_with fail
             go_round
             case rel => exact ⟨q', r', rfl, rfl, by have := HD.out.2.2.2; omega, by have := HC3.out; omega, HD.out.2.1, HD.out.2.2.1, by have := HD.out.2.2.2; omega, by have := HC3.out; omega⟩
             case measure => simp [intOf]; have := HQ1'.out; have := HD.out.1; omega
         · have he := aF8 (r := r) (by omega) HI.out.1 HI.out.2.1 (by rw [hR, hP]; omega)
           have HE := Lib.hid he
           clear he hP hR hPb hq
           go_wp2_with fail
           go_meet
           exact ⟨by rw [HE.out, HQ1.out], ⟨_, rfl⟩, rfl⟩
   case rest =>
     obtain ⟨rfl, ⟨_, rfl⟩, hw⟩ := hcut
     subst hw
     clear HST
     have hR1 := HR1.out
     have hR1y := HR1y.out
     obtain ⟨T3, hT3⟩ : ∃ T, Q1 * y = T := ⟨_, rfl⟩
     rw [Nat.mul_comm y, hT3] at hR1
     obtain ⟨T1, hT1⟩ : ∃ T, U * 4294967296 % 18446744073709551616 = T := ⟨_, rfl⟩
     obtain ⟨T2, hT2⟩ : ∃ T, (U * 4294967296 + u1) % 18446744073709551616 = T := ⟨_, rfl⟩
     obtain ⟨T4, hT4⟩ : ∃ T, T3 % 18446744073709551616 = T := ⟨_, rfl⟩
     have e1 : IntKind.u64.wrap (((U : Nat) : Int) * Z) = ((T1 : Nat) : Int) := by rw [<- HZ.out, IntKind.wrap_u64]; omega
     have e2 : IntKind.u64.wrap (((T1 : Nat) : Int) + ((u1 : Nat) : Int)) = ((T2 : Nat) : Int) := by rw [IntKind.wrap_u64]; omega
     have e3 : IntKind.u64.wrap (((Q1 : Nat) : Int) * ((y : Nat) : Int)) = ((T4 : Nat) : Int) := by
       rw [IntKind.wrap_u64, <- hT4, <- hT3]; simp
     have e4 : IntKind.u64.wrap (((T2 : Nat) : Int) - ((T4 : Nat) : Int)) = ((R1 : Nat) : Int) := by rw [IntKind.wrap_u64]; omega
     have hst := aJ9 (U := R1) (u1 := u0) (n1 := n1) (n0 := n0) (by omega) (by omega) (by omega) (by have := HYN.out; omega) (by omega)
     have hUdiv := Nat.div_add_mod R1 n1
     generalize hqq : R1 / n1 = q at *
     generalize R1 % n1 = r at *
     obtain ⟨P, hP⟩ : ∃ P, P = q * n1 := ⟨_, rfl⟩
     rw [Nat.mul_comm, <- hP] at hUdiv
     have e11 : IntKind.u64.wrap (((R1 : Nat) : Int) / ((n1 : Nat) : Int)) = ((q : Nat) : Int) := aDy (by simp [<- hqq]) (by have := Nat.div_le_self R1 n1; omega)
     have e12 : IntKind.u64.wrap (((q : Nat) : Int) * ((n1 : Nat) : Int)) = ((P : Nat) : Int) := aDy (by simp [hP]) (by omega)
     have e13 : IntKind.u64.wrap (((R1 : Nat) : Int) - ((P : Nat) : Int)) = ((r : Nat) : Int) := aDy (by omega) (by have := hst.2.2.2; omega)
     have HST := Lib.hid hst
     clear hst hT1 hT2 hT3 hT4 hR1 hqq hP hUdiv
     go_upto_block 2 with fail
     clear e1 e2 e3 e4 e11 e12 e13
     go_cut [18, 16] (fun u18 u16 wx => u18 = .int .u64 ((Q0 : Nat) : Int) /\ (∃ r, u16 = .int .u64 r) /\ wx = wc)
     case first =>
       go_wp2_with fail
       go_loop [18, 16] (fun u18 u16 => ∃ q r : Nat, u18 = .int .u64 ((q : Nat) : Int) /\ u16 = .int .u64 ((r : Nat) : Int) /\ q <= 4294967297 /\ r < 4294967296 /\ Hid (aLz R1 u0 n1 n0 q r)) (fun u18 _ => (intOf u18).toNat)
       case atStart => exact ⟨q, r, rfl, rfl, HST.out.2.2.1, HST.out.2.2.2, HST⟩
       case round =>
         clear HST
         obtain ⟨q, r, rfl, rfl, hq, hr, HI⟩ := hrel
         by_cases hc1 : 4294967296 <= q
         · have hc1' : Z <= ((q : Nat) : Int) := by have := HZ.out; omega
           have hd := aG3 HI.out (by rw [<- HYN.out]; exact hR1y) hu0' (.inl hc1)
           have HD := Lib.hid hd
           have hw1 : IntKind.u64.wrap (((q : Nat) : Int) - 1) = ((q - 1 : Nat) : Int) := aDy (by omega) (by omega)
           have hw2 : IntKind.u64.wrap (((r : Nat) : Int) + ((n1 : Nat) : Int)) = ((r + n1 : Nat) : Int) := aDy (by omega) (by omega)
           generalize hq1 : q - 1 = q' at *
           generalize hr1 : r + n1 = r' at *
           have HQ1' := Lib.hid hq1
           clear hd hq1 hr1 hq hc1
           by_cases hc3 : 4294967296 <= r'
           · have hc3' : Z <= ((r' : Nat) : Int) := by have := HZ.out; omega
             have he := aF8 (r := r') (by omega) HD.out.2.1 HD.out.2.2.1 (Nat.le_trans (aG2 hn0' HD.out.2.2.2 hc3) (Nat.le_add_right _ _))
             have HE := Lib.hid he
             clear he hc3
             go_wp2_with fail
             go_meet
             exact ⟨by rw [HE.out, HQ0.out], ⟨_, rfl⟩, rfl⟩
           · have hc3' : ¬ (Z <= ((r' : Nat) : Int)) := by have := HZ.out; omega
             have HC3 := Lib.hid hc3
             clear hc3
             go_wp2_with fail
             go_round
             case rel => exact ⟨q', r', rfl, rfl, by have := HD.out.2.2.2; omega, by have := HC3.out; omega, HD.out.2.1, HD.out.2.2.1, by have := HD.out.2.2.2; omega, by have := HC3.out; omega⟩
             case measure => simp [intOf]; have := HQ1'.out; have := HD.out.1; omega
         · have hc1' : ¬ (Z <= ((q : Nat) : Int)) := by have := HZ.out; omega
           obtain ⟨P, hP⟩ : ∃ P, q * n0 = P := ⟨_, rfl⟩
           have hPb : P <= 4294967296 * 4294967296 - 1 := by
             rw [<- hP]
             have := Nat.mul_le_mul (show q <= 4294967295 by omega) (show n0 <= 4294967295 by omega)
             omega
           have hw0 : IntKind.u64.wrap (((q : Nat) : Int) * ((n0 : Nat) : Int)) = ((P : Nat) : Int) := aDy (by rw [<- hP]; simp) (by omega)
           obtain ⟨R0, hR0⟩ : ∃ R0, 4294967296 * r = R0 := ⟨_, rfl⟩
           obtain ⟨R, hR⟩ : ∃ R, 4294967296 * r + u0 = R := ⟨_, rfl⟩
           have hw4 : IntKind.u64.wrap (Z * ((r : Nat) : Int)) = ((R0 : Nat) : Int) := by rw [<- HZ.out]; exact aDy (by omega) (by omega)
           have hw3 : IntKind.u64.wrap (((R0 : Nat) : Int) + ((u0 : Nat) : Int)) = ((R : Nat) : Int) := aDy (by omega) (by omega)
           have HC1 := Lib.hid hc1
           clear hR0 hc1
           by_cases hc2 : R < P
           · have hd := aG3 HI.out (by rw [<- HYN.out]; exact hR1y) hu0' (.inr (by rw [hR, hP]; exact hc2))
             have HD := Lib.hid hd
             have hw1 : IntKind.u64.wrap (((q : Nat) : Int) - 1) = ((q - 1 : Nat) : Int) := aDy (by omega) (by have := HC1.out; omega)
             have hw2 : IntKind.u64.wrap (((r : Nat) : Int) + ((n1 : Nat) : Int)) = ((r + n1 : Nat) : Int) := aDy (by omega) (by omega)
             generalize hq1 : q - 1 = q' at *
             generalize hr1 : r + n1 = r' at *
             have HQ1' := Lib.hid hq1
             clear hd hq1 hr1 hP hR hPb hq
             by_cases hc3 : 4294967296 <= r'
             · have hc3' : Z <= ((r' : Nat) : Int) := by have := HZ.out; omega
               have he := aF8 (r := r') (by omega) HD.out.2.1 HD.out.2.2.1 (Nat.le_trans (aG2 hn0' HD.out.2.2.2 hc3) (Nat.le_add_right _ _))
               have HE := Lib.hid he
               clear he hc3
               go_wp2_with fail
               go_meet
               exact ⟨by rw [HE.out, HQ0.out], ⟨_, rfl⟩, rfl⟩
             · have hc3' : ¬ (Z <= ((r' : Nat) : Int)) := by have := HZ.out; omega
               have HC3 := Lib.hid hc3
               clear hc3
               go_wp2_with fail
               go_round
               case rel => exact ⟨q', r', rfl, rfl, by have := HD.out.2.2.2; omega, by have := HC3.out; omega, HD.out.2.1, HD.out.2.2.1, by have := HD.out.2.2.2; omega, by have := HC3.out; omega⟩
               case measure => simp [intOf]; have := HQ1'.out; have := HD.out.1; omega
           · have he := aF8 (r := r) (by omega) HI.out.1 HI.out.2.1 (by rw [hR, hP]; omega)
             have HE := Lib.hid he
             clear he hP hR hPb hq
             go_wp2_with fail
             go_meet
             exact ⟨by rw [HE.out, HQ0.out], ⟨_, rfl⟩, rfl⟩
     case rest =>
       obtain ⟨rfl, ⟨_, rfl⟩, hw⟩ := hcut
       subst hw
       clear HST
       have hR0 := HR0.out
       have hR0y := HR0y.out
       have hQ1 := HQ1b.out
       have hQ0 := HQ0b.out
       obtain ⟨T3, hT3⟩ : ∃ T, Q0 * y = T := ⟨_, rfl⟩
       rw [Nat.mul_comm y, hT3] at hR0
       obtain ⟨T1, hT1⟩ : ∃ T, R1 * 4294967296 % 18446744073709551616 = T := ⟨_, rfl⟩
       obtain ⟨T2, hT2⟩ : ∃ T, (R1 * 4294967296 + u0) % 18446744073709551616 = T := ⟨_, rfl⟩
       obtain ⟨T4, hT4⟩ : ∃ T, T3 % 18446744073709551616 = T := ⟨_, rfl⟩
       obtain ⟨T5, hT5⟩ : ∃ T, Q1 * 4294967296 = T := ⟨_, rfl⟩
       obtain ⟨T6, hT6⟩ : ∃ T, T5 + Q0 = T := ⟨_, rfl⟩
       have e1 : IntKind.u64.wrap (((R1 : Nat) : Int) * Z) = ((T1 : Nat) : Int) := by rw [<- HZ.out, IntKind.wrap_u64]; omega
       have e2 : IntKind.u64.wrap (((T1 : Nat) : Int) + ((u0 : Nat) : Int)) = ((T2 : Nat) : Int) := by rw [IntKind.wrap_u64]; omega
       have e3 : IntKind.u64.wrap (((Q0 : Nat) : Int) * ((y : Nat) : Int)) = ((T4 : Nat) : Int) := by
         rw [IntKind.wrap_u64, <- hT4, <- hT3]; simp
       have e4 : IntKind.u64.wrap (((T2 : Nat) : Int) - ((T4 : Nat) : Int)) = ((R0 : Nat) : Int) := by rw [IntKind.wrap_u64]; omega
       have e5 : IntKind.u64.wrap (((Q1 : Nat) : Int) * Z) = ((T5 : Nat) : Int) := by rw [<- HZ.out]; exact aDy (by omega) (by omega)
       have e6 : IntKind.u64.wrap (((T5 : Nat) : Int) + ((Q0 : Nat) : Int)) = ((T6 : Nat) : Int) := aDy (by omega) (by omega)
       have HT6 := Lib.hid (show T6 = Q1 * 4294967296 + Q0 by omega)
       clear hT1 hT2 hT3 hT4 hT5 hT6 hR0 hQ0 hQ1
       go_wp2_with fail
       go_ret2
       exact ⟨by rw [HQ.out, HR.out, <- HT6.out, <- aD8]; rfl, 0, rfl⟩
end
section
set_option maxRecDepth 100000
set_option maxHeartbeats 2000000
open Go.RowKit
def vd (l : List Nat) (k : Nat) : Nat := valN (l.drop k)
theorem aJR (l : List Nat) (k : Nat) (h : l.length <= k) : vd l k = 0 := by unfold vd; rw [List.drop_of_length_le h]; rfl
theorem aEh (l : List Nat) : vd l 0 = valN l := rfl
theorem aIC (l : List Nat) (k : Nat) (h : k < l.length) : vd l k = gw l k + 18446744073709551616 * vd l (k + 1) := by
 unfold vd; rw [List.drop_eq_getElem_cons h, valN, aCN h]
theorem aP0 (l : List Nat) (k s : Nat) : vd (l.set k s) (k + 1) = vd l (k + 1) := by
 unfold vd; rw [List.drop_set_of_lt (by omega)]
def aIs (g : Nat) (w : World) (x : List Nat) (d : Nat) (u8 u7 : Value) (wr : World) : Prop :=
 ∃ (k r : Nat) (z : List Nat), k <= x.length /\ u8 = .int .i64 (((k : Nat) : Int) - 1) /\ u7 = .int .u64 ((r : Nat) : Int) /\ r < d /\ z.length = x.length /\ okW z /\ vd x k = vd z k * d + r /\ Blk wr g (wArr z) 23 /\ Below w.heap.size w wr
theorem aII {g : Nat} {w wr : World} {x z : List Nat} {d m r q r' : Nat} {e : Int} (hm : m < x.length) (he : e = ((m : Nat) : Int) - 1) (hd : r < d) (hdd : d < 18446744073709551616) (hok : okW x) (hq : q = (r * 18446744073709551616 + gw x m) / d) (hr : r' = (r * 18446744073709551616 + gw x m) % d)
   (hzl : z.length = x.length) (hzo : okW z) (hv : vd x (m + 1) = vd z (m + 1) * d + r) (hz : Blk wr g (wArr (z.set m q)) 23) (hb : Below w.heap.size w wr) : aIs g w x d (.int .i64 e) (.int .u64 ((r' : Nat) : Int)) wr := by
 have hx := aA3 hok m
 have hqlt : q < 18446744073709551616 := by
   rw [hq, Nat.div_lt_iff_lt_mul (by omega)]
   have : (r + 1) * 18446744073709551616 <= d * 18446744073709551616 := Nat.mul_le_mul_right _ hd
   rw [Nat.mul_comm d] at this
   omega
 refine ⟨m, r', z.set m q, by omega, by rw [he], rfl, by rw [hr]; exact Nat.mod_lt _ (by omega), by rw [List.length_set]; exact hzl, aCk hzo _ _ hqlt, ?_, hz, hb⟩
 have h1 := Nat.div_add_mod (r * 18446744073709551616 + gw x m) d
 rw [<- hq, <- hr] at h1
 rw [aIC x m hm, aIC (z.set m q) m (by rw [List.length_set]; omega), aP0, aBa _ _ _ (by omega), hv]
 clear hq hr hz hb
 generalize vd z (m + 1) = V at *
 generalize gw x m = t at *
 grind
def aMM (w : World) (q r : Nat) (e : Ending) (w' : World) : Prop := ∃ v, e = .returned (.tuple #[v, .int .u64 ((r : Nat) : Int)]) /\ Num w.heap.size w' v q /\ Below w.heap.size w w'
theorem aML (lo : Nat) (a : Value) (l : List Nat) (d : Nat) (w : World) (ha : aAE lo w a l) (hl : l.length <= 549755813888) (h0 : 0 < d) (hd : d < 18446744073709551616) :
   Calls Tryz.prog 182 #[a, .int .u64 ((d : Nat) : Int)] w (aMM w (valN l / d) (valN l % d)) := by
 have hok := ha.ok
 obtain ⟨x, cap, rfl, hcap, hcm, _, hx⟩ := ha
 have HX := Lib.hid hx
 clear hx
 have hmk := aBW 24 Tryz.underlying24 l.length (by omega)
 go_enter Tryz.func182, Tryz.ntmps182
 go_wp2_with fail
 clear hmk
 go_loopw [8, 7] (fun u8 u7 wr => aIs w.heap.size w l d u8 u7 wr) (fun u8 _ _ => (intOf u8 + 1).toNat)
 case atStart => exact ⟨l.length, 0, List.replicate l.length 0, Nat.le_refl _, rfl, rfl, h0, by simp, aBi _, by rw [aJR l _ (Nat.le_refl _), aJR _ _ (by simp)]; simp, Blk.new _ _ _, (Below.refl _ _).alloc (Nat.le_refl _) _⟩
 case round =>
   obtain ⟨k, r, z, hk, rfl, rfl, hr, hzl, hzo, hv, hz, hbl⟩ := hrel
   have HV := Lib.hid hv
   have HZ := Lib.hid hzl
   clear hv hzl
   by_cases hk0 : k = 0
   · subst hk0
     have hw2 := aAE.ofBlk_all (lo := w.heap.size) hz (Nat.le_refl _) hzo (by have := HZ.out; omega)
     rw [HZ.out] at hw2
     have hq : valN z = valN l / d := by
       have := HV.out
       rw [aEh, aEh, Nat.mul_comm] at this
       rw [this, Nat.mul_add_div h0, Nat.div_eq_of_lt hr, Nat.add_zero]
     have hr' : valN l % d = r := by
       have := HV.out
       rw [aEh, aEh, Nat.mul_comm] at this
       rw [this, Nat.mul_add_mod, Nat.mod_eq_of_lt hr]
     have HQ := Lib.hid hq
     have HR := Lib.hid hr'
     clear hq hr'
     go_wp2_with fail
     refine (aBM w.heap.size _ _ _ hw2).mono ?_
     rintro e w3 ⟨v, rfl, hvv, rfl⟩
     rw [HQ.out] at hvv
     go_wp2
     go_ret2
     exact ⟨_, by rw [HR.out]; rfl, hvv, hbl⟩
   · obtain ⟨m, rfl⟩ : ∃ m, k = m + 1 := ⟨k - 1, by omega⟩
     have hcast : (((m + 1 : Nat) : Int) - 1) = ((m : Nat) : Int) := by omega
     rw [hcast]
     clear hcast
     obtain ⟨b1, o1, rfl, _, hcx⟩ := HX.out m (by omega)
     have hcx' := (hbl.cell (World.block_lt_of_cell? w _ hcx)).trans hcx
     have hxi := aA3 hok m
     clear hcx
     go_wp2_with fail
     refine (aMQ r (gw l m) d hr hxi hd _).mono ?_
     rintro e w3 ⟨rfl, m3, rfl⟩
     have hb3 := aBQ wr.heap.size wr m3
     have zc := (hz.call hb3).cell m _ (aBK z m (by have := HZ.out; omega))
     have zf := (hz.call hb3).free m
     have hbl3 := hbl.trans (hb3.mono hbl.size)
     have hz3 := hz.call hb3
     go_wp2_with fail
     go_roundw
     case rel => exact aII (by omega) (by simp) hr hd hok rfl rfl HZ.out hzo HV.out (aB6 hz3 _ _) (hbl3.setCell (Nat.le_refl _) _)
     case measure => simp [intOf]
end
section
theorem aRP {y d : List Nat} {n Q : Nat} (hy : okW y) (hn : 2 <= n) (hQ : Q * vt d n <= vt y (n + 1)) :
   Q * (gw d (n - 1) * 18446744073709551616 + gw d (n - 2)) <= gw y n * (18446744073709551616 * 18446744073709551616) + gw y (n - 1) * 18446744073709551616 + gw y (n - 2) := by
 obtain ⟨m, rfl⟩ : ∃ m, n = m + 2 := ⟨n - 2, by omega⟩
 rw [show m + 2 - 1 = m + 1 by omega, show m + 2 - 2 = m by omega]
 rw [aAC, aAC, aAC, aAC, aAC, aBz (m + 1), aBz m] at hQ
 have h1 := aJE hy m
 generalize vt y m = Y at *
 generalize vt d m = D at *
 generalize gw y (m + 2) = y0 at *
 generalize gw y (m + 1) = y1 at *
 generalize gw y m = y2 at *
 generalize gw d (m + 1) = d1 at *
 generalize gw d m = d2 at *
 have hp := aHP m
 generalize pw m = P at *
 generalize 18446744073709551616 = M at *
 apply Nat.le_of_lt_succ
 have h2 : Q * (d1 * M + d2) * P < (y0 * (M * M) + y1 * M + y2 + 1) * P := by
   have e1 : Q * (D + d2 * P + d1 * (M * P)) = Q * D + Q * (d1 * M + d2) * P := by grind
   have e2 : Y + y2 * P + y1 * (M * P) + y0 * (M * (M * P)) = Y + (y0 * (M * M) + y1 * M + y2) * P := by grind
   rw [e1, e2] at hQ
   rw [Nat.add_mul _ 1]
   omega
 exact Nat.lt_of_mul_lt_mul_right h2
theorem aNI {M Q d1 d2 y0 y1 y2 : Nat} (hd : 0 < d1) (hy2 : y2 < M) (h : Q * (d1 * M + d2) <= y0 * (M * M) + y1 * M + y2) : Q <= (y0 * M + y1) / d1 := by
 rw [Nat.le_div_iff_mul_le hd]
 apply Nat.le_of_lt_succ
 have h1 : Q * d1 * M < (y0 * M + y1 + 1) * M := by
   have e1 : Q * (d1 * M + d2) = Q * d1 * M + Q * d2 := by grind
   have e2 : (y0 * M + y1 + 1) * M = y0 * (M * M) + y1 * M + M := by grind
   rw [e2]; rw [e1] at h
   generalize Q * d1 * M = A at *
   generalize Q * d2 = B at *
   omega
 exact Nat.lt_of_mul_lt_mul_right h1
theorem aPE {M Q g d1 d2 low y0 y1 y2 : Nat} (hg : g * d1 + low = y0 * M + y1) (h : Q * (d1 * M + d2) <= y0 * (M * M) + y1 * M + y2) (hc : low * M + y2 < g * d2) : Q < g := by
 have h1 : Q * (d1 * M + d2) < g * (d1 * M + d2) := by
   have e1 : g * (d1 * M + d2) = g * d1 * M + g * d2 := by grind
   have e2 : y0 * (M * M) + y1 * M = (g * d1 + low) * M := by rw [hg]; grind
   rw [e1]
   rw [e2, Nat.add_mul] at h
   generalize g * d1 * M = A at *
   generalize g * d2 = B at *
   generalize low * M = C at *
   omega
 exact Nat.lt_of_mul_lt_mul_right h1
theorem aKj {g d1 low E : Nat} (hg : g * d1 + low = E) (h : 0 < g) : (g - 1) * d1 + (low + d1) = E := by
 obtain ⟨k, rfl⟩ : ∃ k, g = k + 1 := ⟨g - 1, by omega⟩
 rw [Nat.add_sub_cancel]; rw [Nat.add_mul] at hg; omega
theorem aQb {V X D P g less less' carry carry' s low c p1 p0 x d : Nat} (h : V + g * D = X + (less + carry) * P) (hp : p0 + 18446744073709551616 * p1 = g * d) (hc : low + 18446744073709551616 * c = p0 + carry)
   (hcarry : carry' = p1 + c) (hs : s + low + less = x + 18446744073709551616 * less') : (V + s * P) + g * (D + d * P) = (X + x * P) + (less' + carry') * (18446744073709551616 * P) := by
 subst hcarry
 have e1 : g * (D + d * P) = g * D + g * d * P := by grind
 rw [e1, <- hp]
 generalize g * D = GD at *
 generalize 18446744073709551616 = M at *
 have hs' : s * P + low * P + less * P = x * P + M * less' * P := by rw [<- Nat.add_mul, <- Nat.add_mul, hs, Nat.add_mul]
 have hc' : low * P + M * c * P = p0 * P + carry * P := by rw [<- Nat.add_mul, <- Nat.add_mul, hc]
 grind
theorem aQc {V X D P g less less' carry s x M : Nat} (h : V + g * D = X + (less + carry) * P) (hs : s + carry + less = x + M * less') : (V + s * P) + g * D = (X + x * P) + less' * (M * P) := by
 have hs' : s * P + carry * P + less * P = x * P + M * less' * P := by rw [<- Nat.add_mul, <- Nat.add_mul, hs, Nat.add_mul]
 grind
theorem aSg {V V' D R g c W : Nat} (hg : 0 < g) (hc : c <= 1) (h : V + g * D = R + W) (h2 : V' + c * W = V + D) : V' + (g - 1) * D = R + (1 - c) * W := by
 obtain ⟨k, rfl⟩ : ∃ k, g = k + 1 := ⟨g - 1, by omega⟩
 rw [Nat.add_sub_cancel]
 rw [Nat.add_mul] at h
 have : c = 0 \/ c = 1 := by omega
 rcases this with rfl | rfl
 · simp at *; omega
 · simp at *; omega
theorem aKi {V D R g W : Nat} (h : V + g * D = R + W) (hV : V < W) : R / D < g := by
 rcases Nat.eq_zero_or_pos D with rfl | hD
 · simp at h; omega
 rw [Nat.div_lt_iff_lt_mul hD]; omega
theorem aRQ {V D R g : Nat} (hD : 0 < D) (h : V + g * D = R) (hQ : R / D <= g) : g = R / D /\ V = R % D := by
 have h1 : g <= R / D := by rw [Nat.le_div_iff_mul_le hD]; omega
 have h2 : g = R / D := by omega
 refine ⟨h2, ?_⟩
 have := Nat.div_add_mod R D
 rw [<- h2, Nat.mul_comm] at this
 omega
theorem aKh {R D M : Nat} (h : R < D * M) : R / D < M := by
 rcases Nat.eq_zero_or_pos D with rfl | hD
 · simp at h
 rw [Nat.div_lt_iff_lt_mul hD, Nat.mul_comm]; exact h
end
section
set_option maxRecDepth 100000
set_option maxHeartbeats 4000000
open Go.RowKit
def Mid (w : World) (b : Nat) (pre y post : List Nat) : Prop := Blk w b (wArr (pre ++ y ++ post)) 23
theorem Mid.cell {w : World} {b : Nat} {pre y post : List Nat} (h : Mid w b pre y post) (i : Nat) (hi : i < y.length) : w.cell? ⟨b, pre.length + i, none⟩ = some (.int .u64 ((gw y i : Nat) : Int)) := by
 have e : gw (pre ++ y ++ post) (pre.length + i) = gw y i := by
   rw [aEn, aEn, List.append_assoc, List.getElem?_append_right (by omega), show pre.length + i - pre.length = i by omega, List.getElem?_append_left hi]
 rw [<- e]
 exact Blk.cell h _ _ (aBK _ _ (by simp; omega))
theorem Mid.free {w : World} {b : Nat} {pre y post : List Nat} (h : Mid w b pre y post) (o : Nat) : w.frozen? ⟨b, o, none⟩ = false := Blk.free h o
theorem Mid.set {w : World} {b : Nat} {pre y post : List Nat} (h : Mid w b pre y post) (i : Nat) (hi : i < y.length) (x : Nat) : Mid (w.setCell ⟨b, pre.length + i, none⟩ (.int .u64 ((x : Nat) : Int))) b pre (y.set i x) post := by
 have := aB6 (h : Blk _ _ _ _) (pre.length + i) x
 unfold Mid
 have e : (pre ++ y ++ post).set (pre.length + i) x = pre ++ y.set i x ++ post := by
   rw [List.append_assoc, List.set_append_right _ _ (by omega), show pre.length + i - pre.length = i by omega, List.set_append_left _ _ hi, List.append_assoc]
 rw [e] at this; exact this
theorem Mid.drewN {w : World} {b : Nat} {pre y post : List Nat} (h : Mid w b pre y post) (n : Nat) : Mid (w.drewN n) b pre y post := h
theorem aQz {P : Program} {f : FuncId} {args : Array Value} {w : World} {k n : Nat} {v : Value}
   (h : Calls P f args (w.drewN (k + n)) fun e w' => e = .returned v /\ ∃ m, w' = (w.drewN (k + n)).drewN m) : Calls P f args (w.drewN (k + n)) fun e w'' => e = .returned v /\ ∃ m, w'' = w.drewN (k + m) :=
 h.mono fun _ _ ⟨he, m, hm⟩ => ⟨he, n + m, by rw [hm, World.drewN_drewN, Nat.add_assoc]⟩
def aSq (w : World) (b : Nat) (pre y post dl : List Nat) (g : Nat) (u95 u11 u10 : Value) (wr : World) : Prop :=
 ∃ (i carry less : Nat) (z : List Nat), i <= dl.length /\ u95 = .int .i64 i /\ u11 = .int .u64 carry /\ u10 = .int .u64 less /\ carry < 18446744073709551616 /\ less <= 1 /\ z.length = y.length /\ okW z /\
   Hid (∀ j, i <= j -> gw z j = gw y j) /\ Hid (vt z i + g * vt dl i = vt y i + (less + carry) * pw i) /\ Mid wr b pre z post /\ w.grownBy wr (some b)
def aSE (w : World) (b : Nat) (pre y post dl : List Nat) (u148 u17 : Value) (wr : World) : Prop :=
 ∃ (i c : Nat) (z : List Nat), i <= dl.length /\ u148 = .int .i64 i /\ u17 = .int .u64 c /\ c <= 1 /\ z.length = y.length /\ okW z /\
   Hid (∀ j, i <= j -> gw z j = gw y j) /\ Hid (vt z i + c * pw i = vt y i + vt dl i) /\ Mid wr b pre z post /\ w.grownBy wr (some b)
def aLy (w : World) (b : Nat) (pre y post dl : List Nat) (u6 u10 : Value) (wr : World) : Prop :=
 ∃ (g less : Nat) (z : List Nat), u6 = .int .u64 g /\ u10 = .int .u64 less /\ g < 18446744073709551616 /\ less <= 1 /\ z.length = y.length /\ okW z /\
   Hid (valN z + g * valN dl = valN y + less * pw y.length) /\ Hid (valN y / valN dl <= g) /\ Mid wr b pre z post /\ w.grownBy wr (some b)
def aUj (w : World) (b : Nat) (pre y post dl : List Nat) (e : Ending) (w' : World) : Prop :=
 e = .returned (.int .u64 ((valN y / valN dl : Nat) : Int)) /\ ∃ z, z.length = y.length /\ okW z /\ valN z = valN y % valN dl /\ Mid w' b pre z post /\ w.grownBy w' (some b)
theorem aT5 {g x c : Nat} (hg : g < 18446744073709551616) (hx : x < 18446744073709551616) (hc : c < 18446744073709551616) : mH g x + aC (mL g x) c 0 < 18446744073709551616 := by
 have h1 := aPr g x
 have h2 := aJO (mL g x) c 0
 have h3 := aRa g x
 have h4 := aWQ hg hx
 have : aC (mL g x) c 0 <= 1 := by unfold aC; omega
 omega
theorem aO1 {w wr : World} {b : Nat} {pre y post dl z : List Nat} {g i carry less : Nat} {e : Int} (hi : i < dl.length) (hzl : z.length = y.length) (hiz : i < z.length) (hzo : okW z)
   (hl : less <= 1) (gz : gw z i < 18446744073709551616) (hs : ∀ j, i <= j -> gw z j = gw y j) (hv : vt z i + g * vt dl i = vt y i + (less + carry) * pw i)
   (he : e = ((mH g (gw dl i) + aC (mL g (gw dl i)) carry 0 : Nat) : Int)) (hcl : mH g (gw dl i) + aC (mL g (gw dl i)) carry 0 < 18446744073709551616)
   (hz : Mid wr b pre (z.set i (sD (gw z i) (aS (mL g (gw dl i)) carry 0) less)) post) (hgb : w.grownBy wr (some b)) :
   aSq w b pre y post dl g (.int .i64 (((i : Nat) : Int) + 1)) (.int .u64 e) (.int .u64 ((sB (gw z i) (aS (mL g (gw dl i)) carry 0) less : Nat) : Int)) wr := by
 subst he
 refine ⟨i + 1, _, _, _, hi, by simp, rfl, rfl, hcl, aSW _ _ _, by rw [List.length_set]; exact hzl, aCk hzo _ _ (aSV _ _ _), fun j hj => ?_, ?_, hz, hgb⟩
 · rw [aBH _ _ _ _ (by omega)]; exact hs j (by omega)
 · show vt _ (i + 1) + g * vt dl (i + 1) = _
   rw [aAC, aEP _ _ _ _ (Nat.le_refl _), aBa _ _ _ hiz, aAC, aAC, aBz, <- hs i (Nat.le_refl _)]
   exact aQb hv (aPr g (gw dl i)) (by have := aJO (mL g (gw dl i)) carry 0; omega) rfl (by have := aSU gz (aJN (mL g (gw dl i)) carry 0) hl; omega)
theorem aSM {w wr : World} {b : Nat} {pre y post dl z : List Nat} {g n carry less : Nat} (hn : dl.length = n) (hyl : y.length = n + 1) (hzl : z.length = n + 1) (hzo : okW z) (gz : gw z n < 18446744073709551616)
   (hc : carry < 18446744073709551616) (hl : less <= 1) (hg : g < 18446744073709551616) (hs : ∀ j, n <= j -> gw z j = gw y j) (hv : vt z n + g * vt dl n = vt y n + (less + carry) * pw n) (hQ : valN y / valN dl <= g)
   (hz : Mid wr b pre (z.set n (sD (gw z n) carry less)) post) (hgb : w.grownBy wr (some b)) :
   aLy w b pre y post dl (.int .u64 ((g : Nat) : Int)) (.int .u64 ((sB (gw z n) carry less : Nat) : Int)) wr := by
 refine ⟨g, _, _, rfl, rfl, hg, aSW _ _ _, by rw [List.length_set]; omega, aCk hzo _ _ (aSV _ _ _), ?_, hQ, hz, hgb⟩
 show valN _ + g * valN dl = valN y + _ * pw y.length
 have h1 : valN (z.set n (sD (gw z n) carry less)) = vt z n + sD (gw z n) carry less * pw n := by
   rw [<- aBn _ (n + 1) (by rw [List.length_set]; omega), aAC, aEP _ _ _ _ (Nat.le_refl _), aBa _ _ _ (by omega)]
 have h2 : valN y = vt y n + gw z n * pw n := by rw [<- aBn y (n + 1) (by omega), aAC, hs n (Nat.le_refl _)]
 rw [h1, h2, hyl, aBz, <- aBn dl n (by omega)]
 exact aQc hv (by have := aSU gz hc hl; omega)
theorem aMf {z : List Nat} {less k : Nat} (hl : less <= 1) (h0 : less ≠ 0) (hz : okW z) (hk : z.length = k) : valN z < less * pw k := by
 obtain rfl : less = 1 := by omega
 rw [Nat.one_mul, <- hk]; exact aBr hz
theorem aPJ {w wr : World} {b : Nat} {pre y post dl x : List Nat} {i c c' t : Nat} (hi : i < dl.length) (hxl : x.length = y.length) (hix : i < x.length) (hxo : okW x) (hc' : c' <= 1) (ht : t < 18446744073709551616)
   (hst : t + 18446744073709551616 * c' = gw x i + gw dl i + c) (hs : ∀ j, i <= j -> gw x j = gw y j) (hv : vt x i + c * pw i = vt y i + vt dl i)
   (hz : Mid wr b pre (x.set i t) post) (hgb : w.grownBy wr (some b)) : aSE w b pre y post dl (.int .i64 (((i : Nat) : Int) + 1)) (.int .u64 ((c' : Nat) : Int)) wr := by
 refine ⟨i + 1, _, _, hi, by simp, rfl, hc', by rw [List.length_set]; exact hxl, aCk hxo _ _ ht, fun j hj => ?_, ?_, hz, hgb⟩
 · rw [aBH _ _ _ _ (by omega)]; exact hs j (by omega)
 · show vt _ (i + 1) + c' * pw (i + 1) = vt y (i + 1) + vt dl (i + 1)
   rw [aAC, aEP _ _ _ _ (Nat.le_refl _), aBa _ _ _ hix, aAC, aAC, aBz, <- hs i (Nat.le_refl _)]
   exact aId hv hst
theorem aUb {w wr : World} {b : Nat} {pre y z post dl x : List Nat} {n c g g' : Nat} {e : Int} (hn : dl.length = n) (hyl : y.length = n + 1) (hzl : z.length = y.length) (hxl : x.length = n + 1) (hxo : okW x) (hg : g < 18446744073709551616) (hg0 : 0 < g) (hg' : g - 1 = g')
   (hc : aC (gw x n) 0 c <= 1) (hQ : valN y / valN dl < g) (hs : ∀ j, n <= j -> gw x j = gw z j) (hv : vt x n + c * pw n = vt z n + vt dl n) (hV : valN z + g * valN dl = valN y + 1 * pw y.length)
   (hz : Mid wr b pre (x.set n (aS (gw x n) 0 c)) post) (hgb : w.grownBy wr (some b)) (he : e = ((1 - aC (gw x n) 0 c : Nat) : Int) := by go_num) :
   aLy w b pre y post dl (.int .u64 ((g' : Nat) : Int)) (.int .u64 e) wr := by
 subst he
 refine ⟨g', 1 - aC (gw x n) 0 c, _, rfl, rfl, by omega, by omega, by rw [List.length_set]; omega, aCk hxo _ _ (aJN _ _ _), ?_, by show _ <= g'; omega, hz, hgb⟩
 show valN _ + g' * valN dl = valN y + _ * pw y.length
 subst hg'
 refine aSg hg0 hc (W := pw y.length) (V := valN z) (by rw [hV, Nat.one_mul]) ?_
 have h1 : valN (x.set n (aS (gw x n) 0 c)) = vt x n + aS (gw x n) 0 c * pw n := by
   rw [<- aBn _ (n + 1) (by rw [List.length_set]; omega), aAC, aEP _ _ _ _ (Nat.le_refl _), aBa _ _ _ (by omega)]
 have h2 : valN z = vt z n + gw x n * pw n := by rw [<- aBn z (n + 1) (by omega), aAC, hs n (Nat.le_refl _)]
 rw [h1, h2, hyl, aBz, <- aBn dl n (by omega)]
 have h3 := aId (y := 0) hv (aJO (gw x n) 0 c)
 rw [Nat.zero_mul, Nat.add_zero] at h3
 rw [h3]
theorem aRN {y0 y1 d1 d2 y2 Q : Nat} (hlt : y0 < d1) (hy1 : y1 < 18446744073709551616) (hd1 : d1 < 18446744073709551616) (hy2 : y2 < 18446744073709551616)
   (htop : Q * (d1 * 18446744073709551616 + d2) <= y0 * (18446744073709551616 * 18446744073709551616) + y1 * 18446744073709551616 + y2) :
   ∃ q r : Nat, (∀ w, Calls Tryz.prog 195 #[.int .u64 ((y0 : Nat) : Int), .int .u64 ((y1 : Nat) : Int), .int .u64 ((d1 : Nat) : Int)] w (aSA w q r)) /\
     q * d1 + r = y0 * 18446744073709551616 + y1 /\ r < d1 /\ q < 18446744073709551616 /\ Q <= q := by
 refine ⟨_, _, fun w => aMQ y0 y1 d1 hlt hy1 hd1 w, by rw [Nat.mul_comm]; exact Nat.div_add_mod _ _, Nat.mod_lt _ (by omega), ?_, aNI (by omega) hy2 htop⟩
 rw [Nat.div_lt_iff_lt_mul (by omega)]
 have : (y0 + 1) * 18446744073709551616 <= d1 * 18446744073709551616 := Nat.mul_le_mul_right _ hlt
 rw [Nat.mul_comm d1] at this
 omega
theorem aSR (b : Nat) (pre y post dl : List Nat) (cap b' o' cap' n : Nat) (w : World) (hn : dl.length = n) (hn2 : 2 <= n) (hnb : n <= 549755813888) (hyl : y.length = n + 1) (hoky : okW y) (hokd : okW dl)
   (hm : Mid w b pre y post) (hbb : b' ≠ b) (hd : ∀ i, i < n -> w.cell? ⟨b', o' + i, none⟩ = some (.int .u64 ((gw dl i : Nat) : Int))) (hlt : valN y < valN dl * 18446744073709551616) :
   Calls Tryz.prog 194 #[.slice (some ⟨b, pre.length, none⟩) (n + 1) cap, .slice (some ⟨b', o', none⟩) n cap'] w (aUj w b pre y post dl) := by
 have HD := Lib.hid hd
 have HLT := Lib.hid hlt
 have HYL := Lib.hid hyl
 have HN := Lib.hid hn
 have hD : 0 < valN dl := by
   apply Nat.pos_of_ne_zero; intro e; rw [e] at hlt; simp at hlt
 have hD0 := Lib.hid hD
 obtain ⟨n1, hn1⟩ : ∃ k, n - 1 = k := ⟨_, rfl⟩
 obtain ⟨n2, hn2'⟩ : ∃ k, n - 2 = k := ⟨_, rfl⟩
 have hc1 := hd n1 (by omega)
 have hc2 := hd n2 (by omega)
 have yc0 := hm.cell n (by omega)
 have yc1 := hm.cell n1 (by omega)
 have yc2 := hm.cell n2 (by omega)
 have gd1 := aA3 hokd n1
 have gd2 := aA3 hokd n2
 have gy0 := aA3 hoky n
 have gy1 := aA3 hoky n1
 have gy2 := aA3 hoky n2
 have hQr := aKh hlt
 have htop := aRP (d := dl) (Q := valN y / valN dl) hoky hn2 (by
   rw [aBn dl n (by omega), aBn y (n + 1) (by omega), Nat.mul_comm]; exact Nat.mul_div_le _ _)
 rw [hn1, hn2'] at htop
 obtain ⟨Q, hQe⟩ : ∃ Q, valN y / valN dl = Q := ⟨_, rfl⟩
 rw [hQe] at htop hQr
 have HTOP := Lib.hid htop
 have HQR := Lib.hid hQr
 have HQE := Lib.hid hQe
 have e1 : ((n : Nat) : Int) - 1 = ((n1 : Nat) : Int) := by omega
 have e2 : ((n : Nat) : Int) - 2 = ((n2 : Nat) : Int) := by omega
 have hb1 : ((n : Nat) : Int) < ((n : Nat) : Int) + 1 := by omega
 have hb2 : ((n1 : Nat) : Int) < ((n : Nat) : Int) + 1 := by omega
 have hb3 : ((n1 : Nat) : Int) < ((n : Nat) : Int) := by omega
 have hb4 : ((n2 : Nat) : Int) < ((n : Nat) : Int) + 1 := by omega
 have hb5 : ((n2 : Nat) : Int) < ((n : Nat) : Int) := by omega
 clear hd hlt hyl hn hD hQr htop hn1 hn2' hQe
 go_enter Tryz.func194, Tryz.ntmps194
 go_wp2_with fail
 go_quiet (fail)
 go_upto_if 31 with fail
 go_cut [6] (fun u6 wx => ∃ g : Nat, u6 = .int .u64 ((g : Nat) : Int) /\ g < 18446744073709551616 /\ Q <= g /\ ∃ m, wx = w.drewN m)
 case first =>
   by_cases hlt : gw y n < gw dl n1
   · simp only [hlt, decide_true]
     go_wp2_with fail
     obtain ⟨q, r, hdiv, hdm, hr, hq, hfirst⟩ := aRN hlt gy1 gd1 gy2 HTOP.out
     go_quiet ((go_at_call 195; exact aQz (hdiv _)))
     clear hdiv
     have HDM := Lib.hid hdm
     have HF := Lib.hid hfirst
     clear hdm hfirst
     go_wp2_with fail
     go_loopw [6, 7] (fun u6 u7 wr => ∃ g low : Nat, u6 = .int .u64 ((g : Nat) : Int) /\ u7 = .int .u64 ((low : Nat) : Int) /\ g < 18446744073709551616 /\ low < 18446744073709551616 /\
       Hid (g * gw dl n1 + low = gw y n * 18446744073709551616 + gw y n1) /\ Hid (Q <= g) /\ ∃ m, wr = w.drewN m) (fun u6 _ _ => (intOf u6).toNat)
     case atStart => exact ⟨q, r, rfl, rfl, hq, by omega, HDM, HF, _, World.drewN_drewN _ _ _⟩
     case round =>
       clear HDM HF
       obtain ⟨g, low, rfl, rfl, hg, hlow, HG, HQG, m, rfl⟩ := hrel
       have hML := aPr g (gw dl n2)
       have hmb := aRa g (gw dl n2)
       have hml := aVC g (gw dl n2) hg gd2
       generalize mL g (gw dl n2) = mid at *
       generalize mH g (gw dl n2) = high at *
       have HML := Lib.hid hML
       clear hML
       go_wp2_with fail
       refine (hml _).mono ?_
       rintro e w3 ⟨rfl, rfl⟩
       have hless : low * 18446744073709551616 + gw y n2 < g * gw dl n2 -> Q < g := aPE HG.out HTOP.out
       rw [<- HML.out] at hless
       clear hml HML
       have hq0 := HQG.out
       by_cases hc1 : high < low
       · clear hless
         go_wp2_with fail
         go_meet
         exact ⟨g, rfl, hg, HQG.out, _, rfl⟩
       · by_cases hc2 : high = low
         · have hb2 : (((high : Nat) : Int) == ((low : Nat) : Int)) = true := by rw [hc2]; simp
           by_cases hc3 : mid <= gw y n2
           · clear hless hc2
             go_wp2_with fail
             go_meet
             exact ⟨g, rfl, hg, HQG.out, _, rfl⟩
           · have hless := hless (by omega)
             have HC2 := Lib.hid hc2
             clear hc2
             have hw1 : IntKind.u64.wrap (((g : Nat) : Int) - 1) = ((g - 1 : Nat) : Int) := aDy (by omega) (by omega)
             have hdn := aKj HG.out (by omega)
             have HDN := Lib.hid hdn
             have HLE := Lib.hid (show Q <= g - 1 by omega)
             generalize hg1 : g - 1 = g' at *
             have HG1 := Lib.hid hg1
             clear hless hdn hg1
             by_cases hov : low + gw dl n1 < 18446744073709551616
             · go_wp2_with fail
               go_roundw
               case rel => exact ⟨g', low + gw dl n1, rfl, by simp, by have := HG1.out; omega, hov, HDN, HLE, _, rfl⟩
               case measure => simp [intOf]; have := HG1.out; omega
             · have hw2 : IntKind.u64.wrap (((low : Nat) : Int) + ((gw dl n1 : Nat) : Int)) = ((low + gw dl n1 - 18446744073709551616 : Nat) : Int) := by rw [IntKind.wrap_u64]; omega
               have hw3 : low + gw dl n1 - 18446744073709551616 < gw dl n1 := by omega
               generalize low + gw dl n1 - 18446744073709551616 = low' at *
               go_wp2_with fail
               go_meet
               exact ⟨g', rfl, by have := HG1.out; omega, HLE.out, _, rfl⟩
         · have hb2 : (((high : Nat) : Int) == ((low : Nat) : Int)) = false := beq_eq_false_iff_ne.2 (by omega)
           have hless := hless (by omega)
           have hw1 : IntKind.u64.wrap (((g : Nat) : Int) - 1) = ((g - 1 : Nat) : Int) := aDy (by omega) (by omega)
           have hdn := aKj HG.out (by omega)
           have HDN := Lib.hid hdn
           have HLE := Lib.hid (show Q <= g - 1 by omega)
           generalize hg1 : g - 1 = g' at *
           have HG1 := Lib.hid hg1
           clear hless hdn hg1
           by_cases hov : low + gw dl n1 < 18446744073709551616
           · go_wp2_with fail
             go_roundw
             case rel => exact ⟨g', low + gw dl n1, rfl, by simp, by have := HG1.out; omega, hov, HDN, HLE, _, rfl⟩
             case measure => simp [intOf]; have := HG1.out; omega
           · have hw2 : IntKind.u64.wrap (((low : Nat) : Int) + ((gw dl n1 : Nat) : Int)) = ((low + gw dl n1 - 18446744073709551616 : Nat) : Int) := by rw [IntKind.wrap_u64]; omega
             have hw3 : low + gw dl n1 - 18446744073709551616 < gw dl n1 := by omega
             generalize low + gw dl n1 - 18446744073709551616 = low' at *
             go_wp2_with fail
             go_meet
             exact ⟨g', rfl, by have := HG1.out; omega, HLE.out, _, rfl⟩
   · go_wp2_with fail
     go_meet
     exact ⟨18446744073709551615, rfl, by omega, by have := HQR.out; omega, _, rfl⟩
 case rest =>
   clear hb1 hb2 hb3 hb4 hb5 e1 e2 yc0 yc1 yc2 hc1 hc2
   obtain ⟨g, rfl, hg, hQg, m, rfl⟩ := hcut
   go_wp2_with fail
   go_loopw [95, 11, 10] (fun u95 u11 u10 wr => aSq w b pre y post dl g u95 u11 u10 wr) (fun u95 _ _ _ => n - (intOf u95).toNat)
   case atStart => exact ⟨0, 0, 0, y, Nat.zero_le _, rfl, rfl, rfl, by decide, by decide, rfl, hoky, fun _ _ => rfl, by show vt y 0 + g * vt dl 0 = _; simp [vt], hm.drewN m, aTC _ _ _⟩
   case round =>
     obtain ⟨i, carry, less, z, hi, rfl, rfl, rfl, hc, hl, hzl, hzo, HSame, HSum, hz, hgb⟩ := hrel
     rw [HN.out] at hi
     rw [HYL.out] at hzl
     have HZ := Lib.hid hzl
     clear hzl
     by_cases hlt : i < n
     · have dc := hgb.cell (HD.out i hlt) (by intro e; injection e with e; exact hbb e)
       have zc := hz.cell i (by have := HZ.out; omega)
       have zf := hz.free (pre.length + i)
       have gd := aA3 hokd i
       have gz := aA3 hzo i
       have hml := aVC g (gw dl i) hg gd
       have hadd := aLx (mL g (gw dl i)) carry
       have hcl := aT5 hg gd hc
       have hsub := aSP (gw z i) (aS (mL g (gw dl i)) carry 0) less hl
       go_wp2_with fail
       refine (hml _).mono ?_
       rintro e w3 ⟨rfl, rfl⟩
       go_wp2_with fail
       go_roundw
       case rel => exact aO1 (by rw [HN.out]; exact hlt) (by rw [HZ.out, HYL.out]) (by have := HZ.out; omega) hzo hl gz HSame.out HSum.out (by simp) hcl (hz.set i (by have := HZ.out; omega) _) (aF9 hgb (aFm _ _ _ _ _))
       case measure => simp [intOf]; omega
     · obtain rfl : i = n := by omega
       have zc := hz.cell i (by have := HZ.out; omega)
       have zf := hz.free (pre.length + i)
       have gz := aA3 hzo i
       have hsub := aSP (gw z i) carry less hl
       have hLR : aLy w b pre y post dl (.int .u64 ((g : Nat) : Int)) (.int .u64 ((sB (gw z i) carry less : Nat) : Int)) (wr.setCell ⟨b, pre.length + i, none⟩ (.int .u64 ((sD (gw z i) carry less : Nat) : Int))) :=
         aSM HN.out HYL.out HZ.out hzo gz hc hl hg HSame.out HSum.out (by rw [HQE.out]; exact hQg) (hz.set i (by have := HZ.out; omega) _) (aF9 hgb (aFm _ _ _ _ _))
       go_wp2_with fail
       clear hsub HSame HSum zc zf gz
       go_loopw [6, 10] (fun u6 u10 wr => aLy w b pre y post dl u6 u10 wr) (fun u6 _ _ => (intOf u6).toNat)
       case atStart => exact hLR
       case round =>
         clear hLR hz hgb HZ
         obtain ⟨g, less, z, rfl, rfl, hg, hl, hzl, hzo, HV, HQG, hz, hgb⟩ := hrel
         have HZ := Lib.hid hzl
         clear hzl
         by_cases hl0 : less = 0
         · have hb0 : (((less : Nat) : Int) != 0) = false := by rw [hl0]; rfl
           have hend := HV.out
           rw [hl0, Nat.zero_mul, Nat.add_zero] at hend
           obtain ⟨h1, h2⟩ := aRQ hD0.out hend HQG.out
           have H1 := Lib.hid h1
           have H2 := Lib.hid h2
           clear hl0 hend h1 h2
           go_wp2_with fail
           go_ret
           exact ⟨by rw [H1.out]; rfl, z, HZ.out, hzo, H2.out, hz, hgb⟩
         · have hb0 : (((less : Nat) : Int) != 0) = true := by rw [bne_iff_ne]; omega
           have hg0 : 0 < g := Nat.lt_of_le_of_lt (Nat.zero_le _) (aKi HV.out (aMf hl hl0 hzo HZ.out))
           have hover := aKi HV.out (aMf hl hl0 hzo HZ.out)
           have HOV := Lib.hid hover
           have hw1 : IntKind.u64.wrap (((g : Nat) : Int) - 1) = ((g - 1 : Nat) : Int) := aDy (by omega) (by omega)
           obtain ⟨g', hg'⟩ : ∃ g', g - 1 = g' := ⟨_, rfl⟩
           rw [hg'] at hw1
           have HG' := Lib.hid hg'
           obtain rfl : less = 1 := by omega
           clear hg' hover hl0
           obtain ⟨wo, rfl⟩ : ∃ wo : World, wo = wr := ⟨_, rfl⟩
           go_wp2_with fail
           go_loopw [148, 17] (fun u148 u17 wr => aSE wo b pre z post dl u148 u17 wr) (fun u148 _ _ => i - (intOf u148).toNat)
           case atStart => exact ⟨0, 0, z, Nat.zero_le _, rfl, rfl, by decide, rfl, hzo, fun _ _ => rfl, by show vt z 0 + 0 * _ = vt z 0 + vt dl 0; simp [vt], hz, aVM _ _⟩
           case round =>
             obtain ⟨j, c, x, hj, rfl, rfl, hc, hxl, hxo, HSame, HSum, hx, hgx⟩ := hrel
             rw [HN.out] at hj
             have HX := Lib.hid hxl
             clear hxl
             by_cases hlt2 : j < i
             · have dc := (aF9 hgb hgx).cell (HD.out j hlt2) (by intro e; injection e with e; exact hbb e)
               have xc := hx.cell j (by have := HX.out; have := HZ.out; have := HYL.out; omega)
               have xf := hx.free (pre.length + j)
               have gd := aA3 hokd j
               have gx := aA3 hxo j
               have hadd := aSn (gw x j) (gw dl j) c hc
               go_wp2_with fail
               go_roundw
               case rel => exact aPJ (by rw [HN.out]; exact hlt2) (by rw [HX.out]) (by have := HX.out; have := HZ.out; have := HYL.out; omega) hxo (aPL gx gd hc) (aJN _ _ _) (aJO _ _ _) HSame.out HSum.out (hx.set j (by have := HX.out; have := HZ.out; have := HYL.out; omega) _) (aF9 hgx (aFm _ _ _ _ _))
               case measure => simp [intOf]; omega
             · obtain rfl : j = i := by omega
               have xc := hx.cell j (by have := HX.out; have := HZ.out; have := HYL.out; omega)
               have xf := hx.free (pre.length + j)
               have gx := aA3 hxo j
               have hadd := aLw (gw x j) c hc
               have hcb := aPL (y := 0) gx (by decide) hc
               go_wp2_with fail
               go_roundw
               case rel => exact aUb HN.out HYL.out HZ.out (by have := HX.out; have := HZ.out; have := HYL.out; omega) hxo hg hg0 HG'.out hcb HOV.out HSame.out HSum.out HV.out (hx.set j (by have := HX.out; have := HZ.out; have := HYL.out; omega) _) (aF9 hgb (aF9 hgx (aFm _ _ _ _ _)))
               case measure => simp [intOf]; have := HG'.out; omega
end
section
theorem aQq {B n s : Nat} (hB : B ≠ 0) (hn : (limbsOf B).length = n) (hs : s = 64 - bl (gw (limbsOf B) (n - 1))) : (limbsOf (B * 2 ^ s)).length = n /\ B * 2 ^ s < pw n /\ s < 64 := by
 have hl := aFH hB
 rw [hn] at hl
 have hn0 : n ≠ 0 := by rw [<- hn]; rw [Ne, aAG]; exact hB
 obtain ⟨m, rfl⟩ : ∃ m, n = m + 1 := ⟨n - 1, by omega⟩
 rw [Nat.add_sub_cancel] at *
 have hg := aA3 (aBg B) m
 have hlt := aQ0 hg
 rw [<- hs] at hlt
 have hv : B = vt (limbsOf B) m + gw (limbsOf B) m * pw m := by
   conv => lhs; rw [<- aAi B]
   rw [<- aBn _ (m + 1) (by omega), aAC]
 have hvl := aJE (aBg B) m
 have hbl := aD6 hl
 have hb64 : bl (gw (limbsOf B) m) <= 64 := aC8 hg
 have hs64 : s < 64 := by omega
 have htop : (gw (limbsOf B) m + 1) * 2 ^ s <= 18446744073709551616 := by
   have h1 := aDO (gw (limbsOf B) m)
   have e : (18446744073709551616 : Nat) = 2 ^ bl (gw (limbsOf B) m) * 2 ^ s := by rw [<- Nat.pow_add, show bl (gw (limbsOf B) m) + s = 64 by omega]
   rw [e]
   exact Nat.mul_le_mul_right _ h1
 have hup : B * 2 ^ s < pw (m + 1) := by
   have h1 : B < (gw (limbsOf B) m + 1) * pw m := by rw [Nat.add_mul, Nat.one_mul]; omega
   rw [aBz]
   calc B * 2 ^ s < (gw (limbsOf B) m + 1) * pw m * 2 ^ s := Nat.mul_lt_mul_of_pos_right h1 (Nat.two_pow_pos s)
     _ = (gw (limbsOf B) m + 1) * 2 ^ s * pw m := by rw [Nat.mul_right_comm]
     _ <= _ := Nat.mul_le_mul_right _ htop
 refine ⟨?_, hup, hs64⟩
 have h1 := aA4 hup
 have h2 := aF5 hB
 rw [hn, Nat.add_sub_cancel] at h2
 have h3 := aHv (B * 2 ^ s)
 rcases Nat.lt_or_ge (limbsOf (B * 2 ^ s)).length (m + 1) with h | h
 · have h4 := aVo (show (limbsOf (B * 2 ^ s)).length <= m by omega)
   have h5 : B <= B * 2 ^ s := Nat.le_mul_of_pos_right _ (Nat.two_pow_pos s)
   omega
 · omega
theorem aRf {A B n lx s m : Nat} (hA : A < pw lx) (hB : pw (n - 1) <= B) (hn : 0 < n) (hm : m = lx - n + 1) (hl : n <= lx) : A * 2 ^ s < B * 2 ^ s * pw m := by
 have e : pw lx = pw (n - 1) * pw m := by rw [<- aGm]; congr 1; omega
 calc A * 2 ^ s < pw lx * 2 ^ s := Nat.mul_lt_mul_of_pos_right hA (Nat.two_pow_pos s)
   _ = pw (n - 1) * pw m * 2 ^ s := by rw [e]
   _ <= B * pw m * 2 ^ s := Nat.mul_le_mul_right _ (Nat.mul_le_mul_right _ hB)
   _ = _ := by rw [Nat.mul_right_comm]
theorem aPt {z : List Nat} {j n : Nat} (hj : j + n + 1 <= z.length) : z = z.take j ++ (z.drop j).take (n + 1) ++ z.drop (j + n + 1) /\ (z.take j).length = j /\ ((z.drop j).take (n + 1)).length = n + 1 := by
 refine ⟨?_, by rw [List.length_take]; omega, by rw [List.length_take, List.length_drop]; omega⟩
 conv => lhs; rw [<- List.take_append_drop j z, <- List.take_append_drop (n + 1) (z.drop j), List.drop_drop]
 rw [List.append_assoc]; rfl
theorem aPu {pre y post : List Nat} {D j n : Nat} (hp : pre.length = j) (hy : y.length = n + 1) (hD : D < pw n) (hv : valN (pre ++ y ++ post) < D * pw (j + 1)) : valN post = 0 /\ valN y < D * 18446744073709551616 := by
 rw [aB8, aB8, List.length_append, hp, hy] at hv
 have h1 : D * pw (j + 1) < pw (j + (n + 1)) := by
   rw [show j + (n + 1) = n + (j + 1) by omega, aGm n]
   exact Nat.mul_lt_mul_of_pos_right hD (aHP _)
 have h0 : valN post = 0 := by
   apply Nat.eq_zero_of_not_pos
   intro hpos
   have h2 : pw (j + (n + 1)) * 1 <= pw (j + (n + 1)) * valN post := Nat.mul_le_mul_left _ hpos
   omega
 refine ⟨h0, ?_⟩
 rw [h0, Nat.mul_zero, Nat.add_zero, aBz] at hv
 have h3 : pw j * valN y < pw j * (D * 18446744073709551616) := by
   have e : D * (18446744073709551616 * pw j) = pw j * (D * 18446744073709551616) := by rw [Nat.mul_comm 18446744073709551616, <- Nat.mul_assoc, Nat.mul_comm D, Nat.mul_assoc]
   rw [e] at hv; omega
 exact Nat.lt_of_mul_lt_mul_left h3
theorem aRe {pre y y' post q : List Nat} {D A j : Nat} (hD : 0 < D) (hp : pre.length = j) (_ : y'.length = y.length) (hok : okW pre) (h0 : valN post = 0) (hy : valN y' = valN y % D) (hq : j < q.length)
   (hv : valN (pre ++ y ++ post) + D * (vd q (j + 1) * pw (j + 1)) = A) :
   valN (pre ++ y' ++ post) + D * (vd (q.set j (valN y / D)) j * pw j) = A /\ valN (pre ++ y' ++ post) < D * pw j := by
 rw [aB8, aB8, List.length_append, hp, h0, Nat.mul_zero, Nat.add_zero] at hv
 have hpl := aBr hok
 rw [hp] at hpl
 have hdm := Nat.div_add_mod (valN y) D
 have hm := Nat.mod_lt (valN y) hD
 rw [aB8, aB8, List.length_append, hp, h0, Nat.mul_zero, Nat.add_zero, hy]
 constructor
 · rw [aIC _ _ (by rw [List.length_set]; exact hq), aP0, aBa _ _ _ hq, <- hv, aBz]
   generalize valN y / D = Q at *
   generalize valN y % D = R at *
   rw [<- hdm]
   generalize vd q (j + 1) = V at *
   generalize pw j = P at *
   grind
 · generalize valN y % D = R at *
   have h1 : pw j * (R + 1) <= pw j * D := Nat.mul_le_mul_left _ hm
   rw [Nat.mul_add, Nat.mul_one] at h1
   rw [Nat.mul_comm D]; omega
theorem aTv {A B s z q : Nat} (_ : 0 < B) (hv : z + B * 2 ^ s * q = A * 2 ^ s) (hz : z < B * 2 ^ s) : q = A / B /\ z / 2 ^ s = A % B := by
 have h1 : A * 2 ^ s / (B * 2 ^ s) = q := by
   rw [<- hv, Nat.add_comm, Nat.mul_add_div (by omega), Nat.div_eq_of_lt hz, Nat.add_zero]
 have h2 : A * 2 ^ s % (B * 2 ^ s) = z := by
   rw [<- hv, Nat.add_comm, Nat.mul_add_mod, Nat.mod_eq_of_lt hz]
 rw [Nat.mul_div_mul_right _ _ (Nat.two_pow_pos s)] at h1
 rw [Nat.mul_mod_mul_right] at h2
 exact ⟨h1.symm, by rw [<- h2, Nat.mul_div_cancel _ (Nat.two_pow_pos s)]⟩
end
section
open Go.RowKit
theorem aLv (b off j : Nat) : (⟨b, off, none⟩ : Addr).add j = ⟨b, off + j, none⟩ := by
 unfold Addr.add
 by_cases h : j = 0
 · subst h; rfl
 · simp [h]
def aC5 (z : List Nat) : List Value := z.map (fun n : Nat => Value.int .u64 (n : Int))
theorem aLG (z : List Nat) : (aC5 z).toArray = wArr z := rfl
theorem aDi (z : List Nat) : (aC5 z).length = z.length := by simp [aC5]
theorem aIA {z : List Nat} {j : Nat} {u : Value} (h : (aC5 z)[j]? = some u) : j < z.length /\ u = .int .u64 ((gw z j : Nat) : Int) := by
 unfold aC5 at h
 rw [List.getElem?_map] at h
 cases hz : z[j]? with
 | none => rw [hz] at h; cases h
 | some x =>
   rw [hz] at h
   have hj : j < z.length := by
     rcases Nat.lt_or_ge j z.length with h1 | h1
     · exact h1
     · rw [List.getElem?_eq_none h1] at hz; cases hz
   refine ⟨hj, ?_⟩
   rw [aEn, hz]
   simpa using h.symm
theorem aIz {z : List Nat} : ∀ u ∈ aC5 z, u.oneCell' = true := by
 intro u hu
 unfold aC5 at hu
 obtain ⟨n, _, rfl⟩ := List.mem_map.1 hu
 rfl
theorem aAE.ofRow {w : World} {lo base : Nat} {e : TypeId} {v : Value} {l : List Nat} (h : w.ownsRow base e 1 v l.length (aC5 l)) (hlo : lo <= base) (hok : okW l) : aAE lo w v l := by
 obtain ⟨_, h⟩ := h
 rcases h with ⟨rfl, hn⟩ | ⟨g, cap, cur, rfl, hb, hg, hc, hm, hs, ht⟩
 · obtain rfl : l = [] := List.eq_nil_of_length_eq_zero hn
   exact aAE.nil _ _ _ _ (by omega)
 · refine ⟨_, cap, rfl, hc, by unfold maxLen at hm; omega, ⟨hok, fun e => by cases e⟩, fun i hi => ⟨g, 0, rfl, Nat.le_trans hlo hb, ?_⟩⟩
   have h1 : (aC5 l)[i]? = some (.int .u64 ((gw l i : Nat) : Int)) := by
     unfold aC5; rw [List.getElem?_map, List.getElem?_eq_getElem hi, aCN hi]; rfl
   rw [<- ht, Nat.mul_one, List.getElem?_take, if_pos hi, Array.getElem?_toList] at h1
   simp [World.cell?, hg, h1]
theorem aH0 {P : Program} {t t' ty e e' : TypeId} (ht : P.underlying t = some (.slice e)) (ht' : P.underlying t' = some (.slice e')) (s x : Value) (w : World) :
   (Builtin.append_ #[t, t'] ty #[s, x]).run P w = (Builtin.append_ #[t, t] ty #[s, x]).run P w := by
 cases s <;> simp [Builtin.append_, Sem.run_bind, run_underlying ht, run_underlying ht']
theorem aE4 {w : World} {ops : Array Oper} {rest : List Oper} {o : Oper} {a : Act} {Q : Exit -> Act -> World -> Prop} (hgd : o.guard = none) (s x : Operand) (t t' : TypeId)
   (ho : o.op = .call { callee := .builtin .append, args := #[s, x], argTypes := #[t, t'] }) (ht : Tryz.prog.underlying t = some (.slice 23)) (ht' : Tryz.prog.underlying t' = some (.slice 23))
   (hs : a.eval s = .slice none 0 0) (lo : Nat) (l : List Nat) (hx : aAE lo w (a.eval x) l) (hl : l.length <= 17592186044416)
   (h : ∀ v' w', aAE w.heap.size w' v' l -> Below w.heap.size w w' -> wpList Tryz.prog ops Q rest (a.put o.dst v') w') : wpList Tryz.prog ops Q (o :: rest) a w := by
 obtain ⟨i0, hi, hz0, hz1, hz2⟩ := info_parts Tryz.infoW
 obtain ⟨p, cap, hxe, hcap, hcm, ⟨hok, hnil⟩, hc⟩ := hx
 refine wpList_plain hgd fun K hK => ?_
 cases p with
 | none =>
   obtain rfl := hnil rfl
   obtain rfl : l = [] := List.eq_nil_of_length_eq_zero (by omega)
   have hr := run_append_owned_none (P := Tryz.prog) (w := w) w.heap.size t o.type 23 i0 1 ht hi _ 0 [] (World.ownsRow_nil _ _ _ _)
   rw [<- aH0 ht ht'] at hr
   unfold Oper.wp execOp
   simp only [ho, resolve, invoke, builtin, Sem.run_bind, Sem.run_pure, Result.andThen_ok, List.map_toArray, List.map_cons, List.map_nil, hs, hxe, List.length_nil, hr]
   exact hK _ _ (h _ _ (aAE.nil _ _ _ _ (by omega)) (Below.refl _ _))
 | some ad =>
   have hcell : ∀ j u, (aC5 l)[j]? = some u -> w.cell? (ad.add j) = some u := by
     intro j u hu
     obtain ⟨hj, rfl⟩ := aIA hu
     obtain ⟨b, off, e, _, hcc⟩ := hc j hj
     have e := Option.some.inj e
     subst e
     rw [aLv]; exact hcc
   have hml : 0 + l.length <= maxLen := by simp only [maxLen]; omega
   obtain ⟨v', w', hr, h2, h3, _⟩ := run_append_own (P := Tryz.prog) w w.heap.size t o.type 23 i0 (.int .u64 0) 1 8 ht hi hz0 hz1 hz2 rfl (by decide) _ 0 [] (World.ownsRow_nil _ _ _ _) ad l.length cap (aC5 l) (by rw [aDi, Nat.mul_one]) hcell aIz
     hml (by omega) (Nat.le_refl _)
   rw [<- aH0 ht ht'] at hr
   unfold Oper.wp execOp
   simp only [ho, resolve, invoke, builtin, Sem.run_bind, Sem.run_pure, Result.andThen_ok, List.map_toArray, List.map_cons, List.map_nil, hs, hxe, hr]
   rw [List.nil_append, Nat.zero_add] at h2
   exact hK _ _ (h v' w' (aAE.ofRow h2 (Nat.le_refl _) hok) ⟨h3.os, h3.tape, h3.output, h3.size, fun k hk => h3.block k hk (by simp [Value.ownBlock])⟩)
theorem aLD {w : World} {ops : Array Oper} {rest : List Oper} {o : Oper} {a : Act} {Q : Exit -> Act -> World -> Prop} (hgd : o.guard = none) (s x : Operand) (t : TypeId)
   (ho : o.op = .call { callee := .builtin .append, args := #[s, x], argTypes := #[t, t] }) (ht : Tryz.prog.underlying t = some (.slice 23))
   (hs : a.eval s = .slice none 0 0) (lo : Nat) (l : List Nat) (hx : aAE lo w (a.eval x) l) (hl : l.length <= 17592186044416)
   (h : ∀ v' w', aAE w.heap.size w' v' l -> Below w.heap.size w w' -> wpList Tryz.prog ops Q rest (a.put o.dst v') w') : wpList Tryz.prog ops Q (o :: rest) a w :=
 aE4 hgd s x t t ho ht ht hs lo l hx hl h
theorem aHj {w w0 : World} {ops : Array Oper} {rest : List Oper} {o : Oper} {a : Act} {Q : Exit -> Act -> World -> Prop} (hgd : o.guard = none) (d s : Operand) (dT sT : TypeId)
   (ho : o.op = .call { callee := .builtin .copy, args := #[d, s], argTypes := #[dT, sT] }) (hu : Tryz.prog.underlying dT = some (.slice 23))
   (g dCap : Nat) (z l : List Nat) (hd : a.eval d = .slice (some ⟨g, 0, none⟩) z.length dCap) (lo : Nat) (hs : aAE lo w (a.eval s) l) (hg : Blk w g (wArr z) 23) (hl : l.length <= z.length)
   (hb : Below w0.heap.size w0 w) (hBg : w0.heap.size <= g)
   (h : ∀ w', Hid (Blk w' g (wArr (l ++ z.drop l.length)) 23) -> Below w0.heap.size w0 w' -> wpList Tryz.prog ops Q rest (a.put o.dst (goInt l.length)) w') : wpList Tryz.prog ops Q (o :: rest) a w := by
 obtain ⟨p, cap, hxe, hcap, hcm, ⟨hok, hnil⟩, hc⟩ := hs
 refine wpList_copy_splice hgd d s dT sT ho 23 hu (by have := Tryz.infoW; obtain ⟨i0, hi, hz0, hz1, hz2⟩ := info_parts this; rw [hi]; simp [hz1]) (some ⟨g, 0, none⟩) p z.length dCap l.length cap hd hxe g 0 (aC5 z) 23 hg (aC5 l)
   (by rw [aDi]; exact (Nat.min_eq_left hl).symm) ?_ (by rw [aDi, aDi]; omega) aIz w0.heap.size w0 hb hBg ?_
 · intro hpos
   rw [aDi] at hpos
   obtain ⟨b, off, e, _, _⟩ := hc 0 hpos
   refine ⟨rfl, _, e, ?_⟩
   intro j u hu
   obtain ⟨hj, rfl⟩ := aIA hu
   obtain ⟨b', off', e', _, hcc⟩ := hc j hj
   rw [e] at e'
   have e2 := Option.some.inj e'
   have e3 : off' = off := by have := congrArg Addr.off e2; exact this.symm
   have e4 : b' = b := by have := congrArg Addr.block e2; exact this.symm
   subst e3; subst e4
   rw [aLv]; exact hcc
 · intro w' h1 h2
   rw [aDi]
   refine h w' ?_ h2
   have := h1.out
   have e : splice (aC5 z) 0 (aC5 l) = aC5 (l ++ z.drop l.length) := by simp [splice, aC5]
   rw [e] at this
   exact this
end
section
set_option maxRecDepth 100000
set_option maxHeartbeats 4000000
open Go.RowKit
def aUp (w : World) (q r : Nat) (e : Ending) (w' : World) : Prop := ∃ v1 v2, e = .returned (.tuple #[v1, v2]) /\ Num w.heap.size w' v1 q /\ Num w.heap.size w' v2 r /\ Below w.heap.size w w'
def aUX (w : World) (gr gq : Nat) (D A lr m n b' o' : Nat) (dl : List Nat) (u12 : Value) (wr : World) : Prop :=
 ∃ (k : Nat) (z q : List Nat), k <= m /\ u12 = .int .i64 (((k : Nat) : Int) - 1) /\ z.length = lr /\ okW z /\ q.length = m /\ okW q /\ Blk wr gr (wArr z) 23 /\ Blk wr gq (wArr q) 23 /\
   Hid (valN z + D * (vd q k * pw k) = A) /\ Hid (valN z < D * pw k) /\ Hid (∀ i, i < n -> wr.cell? ⟨b', o' + i, none⟩ = some (.int .u64 ((gw dl i : Nat) : Int))) /\ Below w.heap.size w wr
theorem aIw {lo : Nat} {w : World} {v : Value} {l : List Nat} (h : aAE lo w v l) (h0 : 0 < l.length) : ∃ b o cap, v = .slice (some ⟨b, o, none⟩) l.length cap /\ l.length <= cap /\ cap <= 9223372036854775807 /\ lo <= b /\ b < w.heap.size /\
   ∀ i, i < l.length -> w.cell? ⟨b, o + i, none⟩ = some (.int .u64 ((gw l i : Nat) : Int)) := by
 obtain ⟨x, cap, rfl, hc, hm, _, h⟩ := h
 obtain ⟨b, o, rfl, hb, hcell⟩ := h 0 h0
 refine ⟨b, o, cap, rfl, hc, hm, hb, World.block_lt_of_cell? w _ hcell, fun i hi => ?_⟩
 obtain ⟨b', o', e, _, hc'⟩ := h i hi
 have e2 := Option.some.inj e
 have e3 : o' = o := by have := congrArg Addr.off e2; exact this.symm
 have e4 : b' = b := by have := congrArg Addr.block e2; exact this.symm
 subst e3; subst e4
 exact hc'
theorem aWn (lo : Nat) (a b : Value) (xa xb : List Nat) (w : World) (ha : aAE lo w a xa) (hb : aAE lo w b xb) (hla : xa.length <= 137438953472) (hlb : xb.length <= 137438953472) (hB : valN xb ≠ 0) (hT : TabW w) :
   Calls Tryz.prog 175 #[a, b] w (aUp w (valN xa / valN xb) (valN xa % valN xb)) := by
 have hlen1 := aA4 (aBr ha.ok)
 have hlen2 := aA4 (aBr hb.ok)
 go_enter Tryz.func175, Tryz.ntmps175
 go_wp2_with fail
 refine (aBM lo _ xa _ ha).mono ?_
 rintro e w1 ⟨v1, rfl, hv1, hw⟩
 subst hw
 go_wp2_with fail
 refine (aBM lo _ xb _ hb).mono ?_
 rintro e w1 ⟨v2, rfl, hv2, hw⟩
 subst hw
 have hx := hv1.words
 have hy := hv2.words
 clear hv1 hv2 ha hb
 have ex := aAi (valN xa)
 have ey := aAi (valN xb)
 have hyl := aFH hB
 have hyg := aF5 hB
 have hxl := aHv (valN xa)
 have hcl := @aNK (valN xa) (valN xb)
 have hy0 : (limbsOf (valN xb)).length ≠ 0 := by rw [Ne, aAG]; exact hB
 have hsl := fun s => @aQq (valN xb) (limbsOf (valN xb)).length s hB rfl
 generalize valN xa = A at *
 generalize valN xb = B at *
 have hlx : (limbsOf A).length <= 137438953472 := Nat.le_trans hlen1 hla
 have hly : (limbsOf B).length <= 137438953472 := Nat.le_trans hlen2 hlb
 clear hlen1 hlen2 hla hlb
 have HX := Lib.hid hx
 have HY := Lib.hid hy
 have EX := Lib.hid ex
 have EY := Lib.hid ey
 have HYL := Lib.hid hyl
 have HYG := Lib.hid hyg
 have HXL := Lib.hid hxl
 have HCL := Lib.hid hcl
 have HSL := Lib.hid hsl
 have HB := Lib.hid hB
 clear hx hy ex ey hyl hyg hxl hcl hsl hB
 go_wp2_with fail
 refine (aSC lo _ _ (limbsOf A) (limbsOf B) _ HX.out HY.out).mono ?_
 rintro e w1 ⟨rfl, hb1⟩
 rw [EX.out, EY.out]
 have hx1 := HX.out.call hb1
 have hy1 := HY.out.call hb1
 have HX1 := Lib.hid hx1
 have HY1 := Lib.hid hy1
 have HT := Lib.hid hT
 clear HX HY hx1 hy1 hT
 by_cases hAB : A < B
 · have hc : cmpN A B = -1 := by unfold cmpN; rw [if_pos hAB]
   rw [hc]
   clear hc
   go_wp2_with (at_builtin; refine aLD rfl _ _ 24 rfl Tryz.underlying24 rfl lo (limbsOf A) HX1.out (by omega) ?_; intro v' w' hv' hb')
   go_ret2
   refine ⟨_, _, rfl, ?_, ?_, hb1.trans (hb'.mono hb1.size)⟩
   · rw [Nat.div_eq_of_lt hAB]; exact Num.zero _ _ _ _ (by omega)
   · rw [Nat.mod_eq_of_lt hAB]; exact aAE.mono hv' hb1.size
 · have hc : 0 <= cmpN A B := by unfold cmpN; rw [if_neg hAB]; split <;> omega
   have hln : (limbsOf B).length <= (limbsOf A).length := by
     rcases Nat.lt_or_ge (limbsOf A).length (limbsOf B).length with h | h
     · exact absurd (HCL.out h) hAB
     · exact h
   obtain ⟨by1, oy1, cy, rfl, hcy, hcy2, hly1, hly2, hcells⟩ := aIw HY1.out (by omega)
   by_cases h1 : (limbsOf B).length = 1
   · have hbl1 : ((((limbsOf B).length : Nat) : Int) == 1) = true := by rw [h1]; rfl
     have hd : gw (limbsOf B) 0 = B := by
       have := EY.out
       rw [<- aBn _ 1 (by omega), aAC] at this
       simpa [vt, aEJ] using this
     have hc0 := hcells 0 (by omega)
     rw [Nat.add_zero] at hc0
     have hg := aA3 (aBg B) 0
     have hpos : 0 < gw (limbsOf B) 0 := by rw [hd]; exact Nat.pos_of_ne_zero HB.out
     have hb0 : (0 : Int) < (((limbsOf B).length : Nat) : Int) := by omega
     have hsh := aML lo _ (limbsOf A) (gw (limbsOf B) 0) w1 HX1.out (by omega) hpos hg
     rw [hd] at hsh hc0 hg
     have HD := Lib.hid hd
     have hr64 : A % B < 18446744073709551616 := Nat.lt_trans (Nat.mod_lt A (Nat.pos_of_ne_zero HB.out)) (by rw [<- hd]; exact aA3 (aBg B) 0)
     clear h1 hcells hd hpos
     rw [EX.out] at hsh
     go_wp2_with fail
     refine hsh.mono ?_
     rintro e w2 ⟨v, rfl, hv, hb2⟩
     go_wp2_with fail
     refine (aUV (((A % B : Nat) : Int)) _ (by omega) (by omega)).mono ?_
     rintro e w3 ⟨v', rfl, hv', hb3⟩
     go_wp2_with fail
     go_ret2
     rw [Int.toNat_natCast] at hv'
     have hb12 := hb1.trans (hb2.mono hb1.size)
     exact ⟨_, _, rfl, (hv.call hb3).mono hb1.size, hv'.mono hb12.size, hb12.trans (hb3.mono hb12.size)⟩
   · have hbl1 : ((((limbsOf B).length : Nat) : Int) == 1) = false := beq_eq_false_iff_ne.2 (by omega)
     obtain ⟨n, hn⟩ : ∃ n, (limbsOf B).length = n := ⟨_, rfl⟩
     obtain ⟨n1, hn1⟩ : ∃ n1, n - 1 = n1 := ⟨_, rfl⟩
     have hc1 := hcells n1 (by omega)
     have hg1 := aA3 (aBg B) n1
     have hsl := HSL.out (64 - bl (gw (limbsOf B) n1)) (by rw [hn, hn1])
     rw [hn] at hsl
     have hlz := lz64 (gw (limbsOf B) n1) hg1
     have e1 : ((n : Nat) : Int) - 1 = ((n1 : Nat) : Int) := by omega
     have hi1 : IntKind.i64.wrap ((n1 : Nat) : Int) = ((n1 : Nat) : Int) := by rw [IntKind.wrap_i64]; omega
     have hb5 : ((n1 : Nat) : Int) < ((n : Nat) : Int) := by omega
     rw [hn] at hbl1 hly hln hcy hcells hy0 h1
     have HY2 := HY1.out
     rw [hn] at HY2
     have HY3 := Lib.hid HY2
     have HYG2 := HYG.out
     rw [hn] at HYG2
     have HYG3 := Lib.hid HYG2
     have HN := Lib.hid hn
     have hn1p : n1 + 1 = n := by omega
     have HN1 := Lib.hid hn1p
     clear HY1 HSL HY2 HYG HYG2 hn1 hcells HYL hn1p
     generalize 64 - bl (gw (limbsOf B) n1) = s at *
     have HSL := Lib.hid hsl
     have hs64 := hsl.2.2
     simp only [hn]
     clear hn hsl
     go_wp2_with fail
     refine (hlz _).mono ?_
     rintro e w2 ⟨rfl, hw⟩
     subst hw
     clear hlz hc1 hg1 e1 hi1 hb5
     obtain ⟨bx, ox, cx, rfl, hcx, hcx2, hlx1, hlx2, _⟩ := aIw HX1.out (by omega)
     obtain ⟨lx, hlxe⟩ : ∃ lx, (limbsOf A).length = lx := ⟨_, rfl⟩
     have HX2 := HX1.out
     have hAlt := HXL.out
     rw [hlxe] at HX2 hcx hln hlx hAlt
     have HX3 := Lib.hid HX2
     have HLX := Lib.hid hlxe
     have HAL := Lib.hid hAlt
     simp only [hlxe]
     clear HX1 HX2 hlxe hAlt HCL HXL
     go_wp2_with fail
     refine (aNU lo _ (limbsOf B) s _ HY3.out (by have := HN.out; omega) (by omega)).mono ?_
     rintro e w2 ⟨vd, rfl, hvd, hb2⟩
     rw [EY.out] at hvd
     have hvdw := hvd.words
     have hdlen := HSL.out.1
     obtain ⟨bd, od, cd, rfl, hcd, hcd2, hld1, hld2, hdc⟩ := aIw hvdw (by omega)
     rw [hdlen] at hcd hdc
     simp only [hdlen]
     have HDC := Lib.hid hdc
     clear hvd hvdw hdlen hdc
     have hmk := aBW 24 Tryz.underlying24 (lx + 1) (by omega)
     have hmk' : ∀ w : World, (Instr.makeSlice 24 (.int .i64 (((lx : Nat) : Int) + 1)) (.int .i64 (((lx : Nat) : Int) + 1))).run Tryz.prog w = .ok (.slice (some ⟨w.heap.size, 0, none⟩) (lx + 1) (lx + 1)) (w.alloc (.cells (wArr (List.replicate (lx + 1) 0)) 23)) := fun w => by
       rw [show ((lx : Nat) : Int) + 1 = ((lx + 1 : Nat) : Int) by omega]; exact hmk w
     clear hmk
     go_wp2_with fail
     clear hmk'
     have hb12 := hb1.trans (hb2.mono hb1.size)
     have hbr := (Below.refl w2.heap.size w2).alloc (Nat.le_refl _) (.cells (wArr (List.replicate (lx + 1) 0)) 23)
     refine (aNU lo _ (limbsOf A) s _ ((HX3.out.call hb2).call hbr) (by have := HLX.out; omega) (by omega)).mono ?_
     rintro e w3 ⟨va, rfl, hva, hb3⟩
     rw [EX.out] at hva
     have hz := (Blk.new w2 (wArr (List.replicate (lx + 1) 0)) 23).call hb3
     have hb23 := hbr.trans (hb3.mono hbr.size)
     have hzl : (List.replicate (lx + 1) 0).length = lx + 1 := by simp
     have hal : (limbsOf (A * 2 ^ s)).length <= lx + 1 := aA4 (by
       rw [aBz, Nat.mul_comm 18446744073709551616]
       have h1 : A * 2 ^ s < pw lx * 2 ^ s := Nat.mul_lt_mul_of_pos_right HAL.out (Nat.two_pow_pos s)
       have h2 : pw lx * 2 ^ s <= pw lx * 18446744073709551616 := Nat.mul_le_mul_left _ (Nat.pow_le_pow_right (by decide) (show s <= 64 by omega))
       exact Nat.lt_of_lt_of_le h1 h2)
     have hrep : valN ((List.replicate (lx + 1) 0).drop (limbsOf (A * 2 ^ s)).length) = 0 := by rw [List.drop_replicate]; exact aCX _
     have hrok := aBi (lx + 1)
     generalize List.replicate (lx + 1) 0 = z0 at *
     have HVA := Lib.hid hva
     clear hva
     rw [<- hzl]
     have HAL2 := Lib.hid hal
     have HREP := Lib.hid hrep
     have HZL := Lib.hid hzl
     clear hal hrep hzl
     go_wp2_with (refine aHj (w0 := w2) rfl _ _ _ _ rfl Tryz.underlying24 w2.heap.size _ z0 (limbsOf (A * 2 ^ s)) rfl _ HVA.out.words hz (by have := HAL2.out; have := HZL.out; omega) hb23 (Nat.le_refl _) ?_; intro w4 hz4 hb24)
     have hmk := aBW 24 Tryz.underlying24 (lx - n + 1) (by omega)
     have hmk' : ∀ w : World, (Instr.makeSlice 24 (.int .i64 (((lx : Nat) : Int) - ((n : Nat) : Int) + 1)) (.int .i64 (((lx : Nat) : Int) - ((n : Nat) : Int) + 1))).run Tryz.prog w = .ok (.slice (some ⟨w.heap.size, 0, none⟩) (lx - n + 1) (lx - n + 1)) (w.alloc (.cells (wArr (List.replicate (lx - n + 1) 0)) 23)) := fun w => by
       rw [show ((lx : Nat) : Int) - ((n : Nat) : Int) + 1 = ((lx - n + 1 : Nat) : Int) by omega]; exact hmk w
     clear hmk
     have hrl : (limbsOf (A * 2 ^ s) ++ z0.drop (limbsOf (A * 2 ^ s)).length).length = lx + 1 := by
       rw [List.length_append, List.length_drop]; have := HAL2.out; have := HZL.out; omega
     have hrv : valN (limbsOf (A * 2 ^ s) ++ z0.drop (limbsOf (A * 2 ^ s)).length) = A * 2 ^ s := by
       rw [aB8, HREP.out, aAi]; simp
     have hrk : okW (limbsOf (A * 2 ^ s) ++ z0.drop (limbsOf (A * 2 ^ s)).length) := aF1 (aBg _) (aIh hrok _)
     have hroom := aRf (s := s) (m := lx - n + 1) HAL.out HYG3.out (by omega) rfl hln
     have HZ4 := hz4
     clear hz4 hz
     generalize limbsOf (A * 2 ^ s) ++ z0.drop (limbsOf (A * 2 ^ s)).length = z at *
     have hz4 := HZ4.out
     clear HZ4
     rw [HZL.out]
     obtain ⟨m, hme⟩ : ∃ m, lx - n + 1 = m := ⟨_, rfl⟩
     rw [hme] at hroom
     have hml : m = lx - n + 1 := hme.symm
     clear hme
     have HRL := Lib.hid hrl
     have HRV := Lib.hid hrv
     have HRM := Lib.hid hroom
     have HML := Lib.hid hml
     clear hrl hrv hroom
     have hcells : ∀ i, i < n -> w4.cell? ⟨bd, od + i, none⟩ = some (.int .u64 ((gw (limbsOf (B * 2 ^ s)) i : Nat) : Int)) := fun i hi => (hb24.cell (p := ⟨bd, od + i, none⟩) hld2).trans (HDC.out i hi)
     have HC4 := Lib.hid hcells
     have hbw4 : Below w.heap.size w w4 := hb12.trans (hb24.mono hb12.size)
     clear hcells HDC hbr hb3 hb23 HVA hml
     go_wp2_with fail
     rw [hmk' w4, <- HML.out]
     clear hmk'
     have hgr := hz4.lt
     have hm1 : 1 <= m := by have := HML.out; omega
     have hmx : m + n = lx + 1 := by have := HML.out; omega
     have hD0 : 0 < B * 2 ^ s := Nat.mul_pos (Nat.pos_of_ne_zero HB.out) (Nat.two_pow_pos s)
     have hmb : m <= 137438953473 := by have := HML.out; omega
     have HMX := Lib.hid hmx
     have HD0 := Lib.hid hD0
     clear hmx hD0
     go_wp2_with fail
     go_loopw [12] (fun u12 wr => aUX w w2.heap.size w4.heap.size (B * 2 ^ s) (A * 2 ^ s) (lx + 1) m n bd od (limbsOf (B * 2 ^ s)) u12 wr) (fun u12 _ => (intOf u12 + 1).toNat)
     case atStart =>
       have hba := (Below.refl w4.heap.size w4).alloc (Nat.le_refl _) (.cells (wArr (List.replicate m 0)) 23)
       exact ⟨m, z, List.replicate m 0, Nat.le_refl _, by go_num, HRL.out, hrk, by simp, aBi _, hz4.alloc _, Blk.new _ _ _,
         by show valN z + _ * (vd _ m * _) = _; rw [aJR _ _ (by simp), HRV.out]; simp, by show valN z < _; rw [HRV.out]; exact HRM.out,
         fun i hi => (hba.cell (p := ⟨bd, od + i, none⟩) (Nat.lt_trans hld2 hgr)).trans (HC4.out i hi), hbw4.alloc hbw4.size _⟩
     case round =>
       clear HRL HRV HRM HC4 hz4 hrk
       obtain ⟨k, z, q, hk, rfl, hzl, hzo, hql, hqo, hz, hq, HV, HLT, HC, hbl⟩ := hrel
       have HZ := Lib.hid hzl
       have HQ := Lib.hid hql
       clear hzl hql
       by_cases hk0 : k = 0
       · subst hk0
         have hv := HV.out
         have hlt := HLT.out
         rw [aEh, aEJ, Nat.mul_one] at hv
         rw [aEJ, Nat.mul_one] at hlt
         obtain ⟨hqv, hrv⟩ := aTv (Nat.pos_of_ne_zero HB.out) hv hlt
         have HQV := Lib.hid hqv
         have HRV := Lib.hid hrv
         have hzw := aAE.ofBlk_all (lo := w.heap.size) hz hb12.size hzo (by have := HZ.out; omega)
         have hqw := aAE.ofBlk_all (lo := w.heap.size) hq hbw4.size hqo (by have := HQ.out; omega)
         rw [HZ.out] at hzw
         rw [HQ.out] at hqw
         clear hv hlt hqv hrv
         go_wp2_with fail
         refine (aNT w.heap.size _ z s wr hzw (by have := HZ.out; omega) (by omega) (HT.out.call hbl)).mono ?_
         rintro e w6 ⟨v6, rfl, hv6, hb6⟩
         rw [HRV.out] at hv6
         have hb06 := hbl.trans (hb6.mono hbl.size)
         go_wp2_with fail
         refine (aBM w.heap.size _ q w6 (hqw.call hb6)).mono ?_
         rintro e w7 ⟨v7, rfl, hv7, hw7⟩
         subst hw7
         rw [HQV.out] at hv7
         go_wp2_with fail
         go_ret2
         exact ⟨_, _, rfl, hv7, hv6.mono hbl.size, hb06⟩
       · obtain ⟨j, rfl⟩ : ∃ j, k = j + 1 := ⟨k - 1, by omega⟩
         have hcast : (((j + 1 : Nat) : Int) - 1) = ((j : Nat) : Int) := by omega
         rw [hcast]
         clear hcast hk0
         obtain ⟨hze, hpl, hyl⟩ := aPt (z := z) (j := j) (n := n) (by have := HZ.out; have := HMX.out; omega)
         have hpo := aFZ hzo j
         have hyo := aFZ (aIh hzo j) (n + 1)
         have hso := aIh hzo (j + n + 1)
         generalize z.take j = pre at *
         generalize (z.drop j).take (n + 1) = y at *
         generalize z.drop (j + n + 1) = post at *
         subst hze
         obtain ⟨hp0, hylt⟩ := aPu hpl hyl HSL.out.2.1 HLT.out
         have hgrq : w2.heap.size ≠ w4.heap.size := by omega
         have hstep := aSR w2.heap.size pre y post (limbsOf (B * 2 ^ s)) (lx + 1 - j) bd od cd n wr HSL.out.1 (by omega) (by omega) hyl hyo (aBg _) hz (by omega) HC.out (by rw [aAi]; exact hylt)
         rw [hpl] at hstep
         have hjm : j < m := by omega
         have HPL := Lib.hid hpl
         have HYL2 := Lib.hid hyl
         have HP0 := Lib.hid hp0
         have HDL := Lib.hid (aKh hylt)
         have hjb : ((j : Nat) : Int) + ((n : Nat) : Int) + 1 <= ((lx : Nat) : Int) + 1 := by have := HMX.out; omega
         clear hpl hyl hp0 hylt
         go_wp2_with fail
         rw [show j + n + 1 - j = n + 1 by omega]
         refine hstep.mono ?_
         rintro e w5 ⟨rfl, y', hyl', hyo', hyv', hz', hgb'⟩
         rw [aAi] at hyv' ⊢
         have hq' := hq.gb hgb' (Ne.symm hgrq)
         have qc := hq'.cell j _ (aBK q j (by have := HQ.out; omega))
         have qf := hq'.free j
         obtain ⟨hA, hR⟩ := aRe (q := q) HD0.out HPL.out hyl' hpo HP0.out hyv' (by have := HQ.out; omega) HV.out
         have hdl := HDL.out
         have hbd1 : bd ≠ w2.heap.size := by omega
         have hbd2 : bd ≠ w4.heap.size := by omega
         have hclose : aUX w w2.heap.size w4.heap.size (B * 2 ^ s) (A * 2 ^ s) (lx + 1) m n bd od (limbsOf (B * 2 ^ s)) (.int .i64 (((j : Nat) : Int) - 1)) (w5.setCell ⟨w4.heap.size, j, none⟩ (.int .u64 ((valN y / (B * 2 ^ s) : Nat) : Int))) := by
           refine ⟨j, pre ++ y' ++ post, q.set j (valN y / (B * 2 ^ s)), by omega, rfl, ?_, aF1 (aF1 hpo hyo') hso, by rw [List.length_set]; exact HQ.out, aCk hqo _ _ hdl, (hz' : Blk _ _ _ _).set_other hgrq _ _, aB6 hq' _ _, hA, hR, fun i hi => ?_, ?_⟩
           · have := HZ.out
             simp only [List.length_append] at this ⊢
             omega
           · exact (aFm w5 w4.heap.size j none _).cell (hgb'.cell (HC.out i hi) (by intro e; exact hbd1 (Option.some.inj e))) (by intro e; exact hbd2 (Option.some.inj e))
           · exact (hbl.trans (aNO hgb' hb12.size hbl.size)).setCell (by have := hbw4.size; exact this) _
         have HCL := Lib.hid hclose
         clear hA hR hclose hyv'
         go_wp2_with fail
         go_roundw
         case rel => exact HCL.out
         case measure => simp [intOf]
end
section
set_option maxRecDepth 100000
set_option maxHeartbeats 2000000
open Go.RowKit
def Dy (lo : Nat) (w : World) (v : Value) (neg : Bool) (m : Nat) (e : Int) : Prop := ∃ a, v = .agg #[.bool neg, a, .int .i64 e] /\ Num lo w a m
theorem Dy.call {lo : Nat} {w w' : World} {v : Value} {neg : Bool} {m : Nat} {e : Int} (h : Dy lo w v neg m e) (hb : Below w.heap.size w w') : Dy lo w' v neg m e := by
 obtain ⟨a, h1, h2⟩ := h; exact ⟨a, h1, h2.call hb⟩
theorem Dy.mono {lo lo' : Nat} {w : World} {v : Value} {neg : Bool} {m : Nat} {e : Int} (h : Dy lo w v neg m e) (hl : lo' <= lo) : Dy lo' w v neg m e := by
 obtain ⟨a, h1, h2⟩ := h; exact ⟨a, h1, h2.mono hl⟩
def aMP (w : World) (neg : Bool) (m : Nat) (x : Int) (e : Ending) (w' : World) : Prop := ∃ v, e = .returned v /\ Dy w.heap.size w' v neg m x /\ Below w.heap.size w w'
def fNeg (neg : Bool) (n : Nat) : Bool := if n = 0 then false else neg
def fAbs (n : Nat) : Nat := n / 2 ^ tz n
def fExp (n : Nat) (e : Int) : Int := if n = 0 then 0 else e + ((tz n : Nat) : Int)
theorem aAE.gb {lo b : Nat} {w w' : World} {v : Value} {l : List Nat} (h : aAE lo w v l) (hg : w.grownBy w' (some b)) (hb : b < lo) : aAE lo w' v l := by
 obtain ⟨x, cap, h1, h2, h3, h4, h5⟩ := h
 refine ⟨x, cap, h1, h2, h3, h4, fun i hi => ?_⟩
 obtain ⟨b', off, e, hlo, hc⟩ := h5 i hi
 exact ⟨b', off, e, hlo, hg.cell hc (by intro e2; have := Option.some.inj e2; dsimp only at this; omega)⟩
theorem Num.gb {lo b : Nat} {w w' : World} {v : Value} {n : Nat} (h : Num lo w v n) (hg : w.grownBy w' (some b)) (hb : b < lo) : Num lo w' v n := aAE.gb h hg hb
theorem aAE.slice {lo : Nat} {w : World} {v : Value} {l : List Nat} (h : aAE lo w v l) : ∃ x n cap, v = .slice x n cap := by
 obtain ⟨x, cap, h, _⟩ := h; exact ⟨_, _, _, h⟩
theorem Num.slice {lo : Nat} {w : World} {v : Value} {n : Nat} (h : Num lo w v n) : ∃ x n cap, v = .slice x n cap := aAE.slice h
theorem aIq {l : List Nat} (h : okW l) : bl (valN l) <= 64 * l.length := aC8 (by rw [<- aDo]; exact aBr h)
theorem aMO (lo : Nat) (neg : Bool) (a : Value) (l : List Nat) (exp : Int) (w : World) (ha : aAE lo w a l) (hl : (limbsOf (valN l)).length <= 549755813888) (he : -4611686018427387904 <= exp) (he2 : exp <= 4611686018427387904) (hT : TabW w) :
   Calls Tryz.prog 86 #[.bool neg, a, .int .i64 exp] w (aMP w (fNeg neg (valN l)) (fAbs (valN l)) (fExp (valN l) exp)) := by
 have hlen := aA4 (aBr ha.ok)
 have hbl := aIq (aBg (valN l))
 rw [aAi] at hbl
 have e0 := @aAG (valN l)
 have E1 := Lib.hid (aAi (valN l))
 go_enter Tryz.func86, Tryz.ntmps86
 have hba := (Below.refl w.heap.size w).alloc (Nat.le_refl _) (.cells #[.bool false, .slice none 0 0, .int .i64 0] 27)
 have hda := Blk.new w #[.bool false, .slice none 0 0, .int .i64 0] 27
 go_wp2_with fail
 refine (aBM lo _ l _ (ha.call hba)).mono ?_
 rintro e w1 ⟨v1, rfl, hv1, hw⟩
 subst hw
 have hv := hv1.words
 have HV := Lib.hid hv
 obtain ⟨px, cx, rfl, hcx, hcx2, _, _⟩ := hv
 have E0 := Lib.hid e0
 clear hv1 ha e0
 have hT1 := hT.call hba
 have HT := Lib.hid hT1
 have HDA := Lib.hid hda
 have HBA := Lib.hid hba
 clear hT hT1
 by_cases hz : (limbsOf (valN l)).length = 0
 · have hb : ((((limbsOf (valN l)).length : Nat) : Int) == 0) = true := by rw [hz]; rfl
   have hv0 := E0.out.1 hz
   have HV0 := Lib.hid hv0
   clear hz hv0
   have d0 := hda.cell 0 _ rfl
   have d1 := hda.cell 1 _ rfl
   have d2 := hda.cell 2 _ rfl
   go_wp2
   refine bodyPost_ret (v := .agg #[.bool false, .slice none 0 0, .int .i64 0]) (by simp [results, Tryz.results86, go_sem, d0, d1, d2]; try rfl) rfl ⟨_, rfl, ⟨_, by unfold fNeg fExp; rw [HV0.out]; rfl, ?_⟩, HBA.out⟩
   rw [show fAbs (valN l) = 0 by unfold fAbs; rw [HV0.out]; exact Nat.zero_div _]
   exact Num.zero _ _ _ _ (by omega)
 · have hb : ((((limbsOf (valN l)).length : Nat) : Int) == 0) = false := beq_eq_false_iff_ne.2 (by omega)
   have hv0 : valN l ≠ 0 := fun h => hz (E0.out.2 h)
   have HV0 := Lib.hid hv0
   clear hz hv0 hda hba
   go_wp2_with fail
   refine (aNW lo _ (limbsOf (valN l)) _ HV.out (by omega) HT.out).mono ?_
   rintro e w1 ⟨rfl, hw⟩
   subst hw
   rw [E1.out]
   go_wp2_with fail
   have htz := aMW HV0.out
   refine (aNT lo _ (limbsOf (valN l)) (tz (valN l)) _ HV.out (by omega) (by omega) HT.out).mono ?_
   rintro e w1 ⟨v2, rfl, hv2, hb2⟩
   rw [E1.out] at hv2
   obtain ⟨x2, n2, c2, rfl⟩ := hv2.slice
   have hd2 := HDA.out.call hb2
   have d0 := hd2.cell 0 _ rfl
   have d1 := hd2.cell 1 _ rfl
   have d2 := hd2.cell 2 _ rfl
   have f0 := hd2.free 0
   have f1 := hd2.free 1
   have f2 := hd2.free 2
   have hb3 := HBA.out.trans (hb2.mono HBA.out.size)
   go_wp2
   have hd3 := ((hd2.set 0 (.bool neg)).set 1 (.slice x2 n2 c2)).set 2 (.int .i64 (exp + ((tz (valN l) : Nat) : Int)))
   have o0 := hd3.cell 0 _ rfl
   have o1 := hd3.cell 1 _ rfl
   have o2 := hd3.cell 2 _ rfl
   refine bodyPost_ret (v := .agg #[.bool neg, .slice x2 n2 c2, .int .i64 (exp + ((tz (valN l) : Nat) : Int))]) (by simp [results, Tryz.results86, go_sem, o0, o1, o2]; try rfl) rfl ⟨_, rfl, ⟨_, by unfold fNeg fExp; rw [if_neg HV0.out, if_neg HV0.out], ?_⟩, ?_⟩
   · exact Num.mono (((hv2.gb (aFm _ _ _ _ _) (by simp)).gb (aFm _ _ _ _ _) (by simp)).gb (aFm _ _ _ _ _) (by simp)) (by simp)
   · exact ((hb3.setCell (Nat.le_refl _) _).setCell (Nat.le_refl _) _).setCell (Nat.le_refl _) _
theorem aOW (lo : Nat) (neg : Bool) (a : Value) (l : List Nat) (exp : Int) (w : World) (ha : aAE lo w a l) (hl : l.length <= 549755813888) (he : -4611686018427387904 <= exp) (he2 : exp <= 4611686018427387904) (hT : TabW w) :
   Calls Tryz.prog 86 #[.bool neg, a, .int .i64 exp] w (aMP w (fNeg neg (valN l)) (fAbs (valN l)) (fExp (valN l) exp)) :=
 aMO lo neg a l exp w ha (Nat.le_trans (aA4 (aBr ha.ok)) hl) he he2 hT
end
section
set_option maxHeartbeats 1000000
open Go.RowKit
theorem aGW {a b : Bool} (h : a = b) : Ending.returned (.bool a) = .returned (.bool b) := by rw [h]
def DyW (lo : Nat) (w : World) (v : Value) (neg : Bool) (l : List Nat) (e : Int) : Prop := ∃ a, v = .agg #[.bool neg, a, .int .i64 e] /\ aAE lo w a l
theorem Dy.any {lo : Nat} {w : World} {v : Value} {neg : Bool} {m : Nat} {e : Int} (h : Dy lo w v neg m e) : DyW lo w v neg (limbsOf m) e := h
theorem DyW.call {lo : Nat} {w w' : World} {v : Value} {neg : Bool} {l : List Nat} {e : Int} (h : DyW lo w v neg l e) (hb : Below w.heap.size w w') : DyW lo w' v neg l e := by
 obtain ⟨a, h1, h2⟩ := h; exact ⟨a, h1, h2.call hb⟩
theorem aOT (lo : Nat) (v : Value) (neg : Bool) (l : List Nat) (x : Int) (w : World) (hd : DyW lo w v neg l x) :
   Calls Tryz.prog 49 #[v] w fun e w' => e = .returned (.bool (valN l == 0)) /\ Below w.heap.size w w' := by
 obtain ⟨a, rfl, ha⟩ := hd
 have e0 := @aAG (valN l)
 have E0 := Lib.hid e0
 clear e0
 obtain ⟨x1, n1, c1, rfl⟩ := ha.slice
 go_enter Tryz.func49, Tryz.ntmps49
 have hba := (Below.refl w.heap.size w).alloc (Nat.le_refl _) (.cells #[.bool neg, .slice x1 n1 c1, .int .i64 x] 27)
 go_wp2_with fail
 refine (aBM lo _ l _ (ha.call hba)).mono ?_
 rintro e w1 ⟨v1, rfl, hv1, hw⟩
 subst hw
 obtain ⟨px, cx, rfl, hcx, hcx2, _, _⟩ := hv1.words
 go_wp2
 go_ret
 exact ⟨aGW (by rw [Bool.eq_iff_iff, beq_iff_eq, beq_iff_eq]; have := E0.out; omega), hba⟩
end
end Go.Proofs.YtgdkokgeldnliaaGreatDoor
