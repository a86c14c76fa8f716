/- Contracts of functions and plain lemmas that the laws of this seat lean on. -/
import Derived.Test.YtgdkokgeldnliaaGreatDoorKEfaa
import Derived.Test.YtgdkokgeldnliaaGreatDoorKEfab
import Derived.Test.YtgdkokgeldnliaaGreatDoorKEfac
import Derived.Test.YtgdkokgeldnliaaGreatDoorKEfad
import Derived.Test.YtgdkokgeldnliaaGreatDoorKEfae
import Derived.Test.YtgdkokgeldnliaaGreatDoorKEfai
import Derived.Test.YtgdkokgeldnliaaGreatDoorKEfaj
import Derived.Test.YtgdkokgeldnliaaGreatDoorRows
import Derived.WalkKit
import Derived.WalkSpells
import Derived.WalkLawsBesides
import Derived.Lib.Hide
import Derived.Deep.QuietTactic
import Derived.BigQuiet
import Derived.Laws.AppendOwnNone
import Derived.Laws.AppendOwn
import Derived.Laws.CopyOwn
import Derived.Test.YtgdkokgeldnliaaGreatDoorShelf
import Derived.Lib.BitFns
import Derived.Lib.ItoaNum
import Derived.Lib.TrailingZeros
import Derived.Deep.DeepCutAuto
import Derived.Deep.CutBlock
import Derived.StillTail
import Derived.Below
import Derived.Deep.MidRow
import Derived.Laws.Tables
import Derived.Laws.CopyRow
import Derived.IntWalk
import Derived.RegionTactic
namespace Go.Proofs.YtgdkokgeldnliaaGreatDoor
set_option linter.unusedSimpArgs false
set_option linter.unusedVariables false
set_option linter.unusedSectionVars false
set_option linter.constructorNameAsVariable false
set_option linter.unnecessarySimpa false
section
set_option maxRecDepth 100000
set_option maxHeartbeats 2000000
open Go.RowKit
theorem aKU {a b : Nat} (ha : a < 4294967296) (hb : b < 4294967296) : a * b <= 18446744065119617025 := by
 have : a * b <= 4294967295 * 4294967295 := Nat.mul_le_mul (by omega) (by omega)
 omega
theorem aPx {x y : Nat} {a b c d : Nat} (hx : x = a + 4294967296 * b) (hy : y = c + 4294967296 * d) : x * y = a * c + 4294967296 * (b * c + a * d) + 18446744073709551616 * (b * d) := by
 subst hx hy
 grind
theorem aP9 (x y : Nat) (w : World) (hx : x < 18446744073709551616) (hy : y < 18446744073709551616) :
   Calls Tryz.prog 110 #[.int .u64 ((x : Nat) : Int), .int .u64 ((y : Nat) : Int)] w fun e w' => e = .returned (.tuple #[.int .u64 ((mL x y : Nat) : Int), .int .u64 ((mH x y : Nat) : Int)]) /\ w = w' := by
 obtain ⟨a, ha⟩ : ∃ a, x % 4294967296 = a := ⟨_, rfl⟩
 obtain ⟨b, hb⟩ : ∃ b, x / 4294967296 = b := ⟨_, rfl⟩
 obtain ⟨c, hc⟩ : ∃ c, y % 4294967296 = c := ⟨_, rfl⟩
 obtain ⟨d, hd⟩ : ∃ d, y / 4294967296 = d := ⟨_, rfl⟩
 have hxi : x = a + 4294967296 * b := by omega
 have hyi : y = c + 4294967296 * d := by omega
 have hmul := aPx hxi hyi
 have p1 := aKU (a := a) (b := c) (by omega) (by omega)
 have p2 := aKU (a := b) (b := c) (by omega) (by omega)
 have p3 := aKU (a := a) (b := d) (by omega) (by omega)
 have p4 := aKU (a := b) (b := d) (by omega) (by omega)
 have i1 : ((x : Nat) : Int) % 4294967296 = ((a : Nat) : Int) := by omega
 have i2 : ((x : Nat) : Int) / 4294967296 = ((b : Nat) : Int) := by omega
 have i3 : ((y : Nat) : Int) % 4294967296 = ((c : Nat) : Int) := by omega
 have i4 : ((y : Nat) : Int) / 4294967296 = ((d : Nat) : Int) := by omega
 have e1 : ((a : Nat) : Int) * ((c : Nat) : Int) = ((a * c : Nat) : Int) := by simp
 have e2 : ((b : Nat) : Int) * ((c : Nat) : Int) = ((b * c : Nat) : Int) := by simp
 have e3 : ((a : Nat) : Int) * ((d : Nat) : Int) = ((a * d : Nat) : Int) := by simp
 have e4 : ((b : Nat) : Int) * ((d : Nat) : Int) = ((b * d : Nat) : Int) := by simp
 have hL := aPr x y
 have hLl := aRa x y
 generalize mL x y = L at *
 generalize mH x y = H at *
 generalize x * y = xy at *
 generalize a * c = P at *
 generalize b * c = Q at *
 generalize a * d = R at *
 generalize b * d = S at *
 obtain ⟨l0, hl0⟩ : ∃ v, P % 4294967296 = v := ⟨_, rfl⟩
 obtain ⟨l1, hl1⟩ : ∃ v, P / 4294967296 = v := ⟨_, rfl⟩
 obtain ⟨mid, hmid⟩ : ∃ v, Q + l1 = v := ⟨_, rfl⟩
 obtain ⟨m0, hm0⟩ : ∃ v, mid % 4294967296 = v := ⟨_, rfl⟩
 obtain ⟨m1, hm1⟩ : ∃ v, mid / 4294967296 = v := ⟨_, rfl⟩
 obtain ⟨o, ho⟩ : ∃ v, R + m0 = v := ⟨_, rfl⟩
 obtain ⟨o0, ho0⟩ : ∃ v, o % 4294967296 = v := ⟨_, rfl⟩
 obtain ⟨o1, ho1⟩ : ∃ v, o / 4294967296 = v := ⟨_, rfl⟩
 obtain ⟨t, ht⟩ : ∃ v, o0 * 4294967296 = v := ⟨_, rfl⟩
 obtain ⟨s, hs⟩ : ∃ v, S + m1 = v := ⟨_, rfl⟩
 have w1 : IntKind.u64.wrap (((a : Nat) : Int) * ((c : Nat) : Int)) = ((P : Nat) : Int) := by rw [e1, IntKind.wrap_u64]; omega
 have w2 : IntKind.u64.wrap (((b : Nat) : Int) * ((c : Nat) : Int)) = ((Q : Nat) : Int) := by rw [e2, IntKind.wrap_u64]; omega
 have w3 : IntKind.u64.wrap (((a : Nat) : Int) * ((d : Nat) : Int)) = ((R : Nat) : Int) := by rw [e3, IntKind.wrap_u64]; omega
 have w4 : IntKind.u64.wrap (((b : Nat) : Int) * ((d : Nat) : Int)) = ((S : Nat) : Int) := by rw [e4, IntKind.wrap_u64]; omega
 have j1 : ((P : Nat) : Int) % 4294967296 = ((l0 : Nat) : Int) := by omega
 have j2 : ((P : Nat) : Int) / 4294967296 = ((l1 : Nat) : Int) := by omega
 have w5 : IntKind.u64.wrap (((Q : Nat) : Int) + ((l1 : Nat) : Int)) = ((mid : Nat) : Int) := by rw [IntKind.wrap_u64]; omega
 have j3 : ((mid : Nat) : Int) % 4294967296 = ((m0 : Nat) : Int) := by omega
 have j4 : ((mid : Nat) : Int) / 4294967296 = ((m1 : Nat) : Int) := by omega
 have w6 : IntKind.u64.wrap (((R : Nat) : Int) + ((m0 : Nat) : Int)) = ((o : Nat) : Int) := by rw [IntKind.wrap_u64]; omega
 have j5 : ((o : Nat) : Int) % 4294967296 = ((o0 : Nat) : Int) := by omega
 have j6 : ((o : Nat) : Int) / 4294967296 = ((o1 : Nat) : Int) := by omega
 have w7 : IntKind.u64.wrap (((o0 : Nat) : Int) * 4294967296) = ((t : Nat) : Int) := by rw [IntKind.wrap_u64]; omega
 have w8 : IntKind.u64.wrap (((l0 : Nat) : Int) + ((t : Nat) : Int)) = ((L : Nat) : Int) := by rw [IntKind.wrap_u64]; omega
 have w9 : IntKind.u64.wrap (((S : Nat) : Int) + ((m1 : Nat) : Int)) = ((s : Nat) : Int) := by rw [IntKind.wrap_u64]; omega
 have w10 : IntKind.u64.wrap (((s : Nat) : Int) + ((o1 : Nat) : Int)) = ((H : Nat) : Int) := by rw [IntKind.wrap_u64]; omega
 have v1 : IntKind.u64.wrap ((b : Nat) : Int) = ((b : Nat) : Int) := by rw [IntKind.wrap_u64]; omega
 have v2 : IntKind.u64.wrap ((d : Nat) : Int) = ((d : Nat) : Int) := by rw [IntKind.wrap_u64]; omega
 have v3 : IntKind.u64.wrap ((l1 : Nat) : Int) = ((l1 : Nat) : Int) := by rw [IntKind.wrap_u64]; omega
 have v4 : IntKind.u64.wrap ((m1 : Nat) : Int) = ((m1 : Nat) : Int) := by rw [IntKind.wrap_u64]; omega
 have v5 : IntKind.u64.wrap ((o1 : Nat) : Int) = ((o1 : Nat) : Int) := by rw [IntKind.wrap_u64]; omega
 clear ha hb hc hd hxi hyi hmul p1 p2 p3 p4 e1 e2 e3 e4 hL hLl hl0 hl1 hmid hm0 hm1 ho ho0 ho1 ht hs hx hy
 go_enter Tryz.func110, Tryz.ntmps110
 go_wp2_with fail
 go_ret2
 exact ⟨rfl, rfl⟩
end
section
set_option maxRecDepth 100000
set_option maxHeartbeats 4000000
open Go.RowKit
def aOU (g : Nat) (w : World) (x y : List Nat) (i : Nat) (u8 u35 : Value) (wr : World) : Prop :=
 ∃ (j c : Nat) (z : List Nat), j <= y.length /\ u35 = .int .i64 ((j : Nat) : Int) /\ u8 = .int .u64 ((c : Nat) : Int) /\ c < 18446744073709551616 /\ Hid (z.length = x.length + y.length + 1) /\ okW z /\
   Hid (vt z (i + y.length) + c * pw (i + j) = vt x i * valN y + gw x i * pw i * vt y j /\ ∀ j, i + y.length <= j -> gw z j = 0) /\ Blk wr g (wArr z) 23 /\ Below w.heap.size w wr
def aSv (g : Nat) (w : World) (x y : List Nat) (u28 : Value) (wr : World) : Prop :=
 ∃ (i : Nat) (z : List Nat), i <= x.length /\ u28 = .int .i64 ((i : Nat) : Int) /\ Hid (z.length = x.length + y.length + 1) /\ okW z /\ Hid (vt z (i + y.length) = vt x i * valN y /\ ∀ j, i + y.length <= j -> gw z j = 0) /\ Blk wr g (wArr z) 23 /\ Below w.heap.size w wr
theorem aN2 {z : List Nat} {k : Nat} (h : ∀ j, k <= j -> gw z j = 0) : ∀ d, vt z (k + d) = vt z k
 | 0 => rfl
 | d + 1 => by rw [<- Nat.add_assoc, aAC, h _ (by omega), aN2 h d]; simp
theorem aWW (n j : Nat) : gw (List.replicate n 0) j = 0 := by
 by_cases h : j < (List.replicate n 0).length
 · rw [aCN h]; simp
 · exact aGk (by omega)
theorem aK1 {g : Nat} {w wr : World} {x y z : List Nat} {i j c s h : Nat} {e : Int} (he : e = ((h : Nat) : Int)) (hg : w.heap.size <= g) (hi : i < x.length) (hj : j < y.length) (hzl : z.length = x.length + y.length + 1) (hzo : okW z)
   (hs : vt z (i + y.length) + c * pw (i + j) = vt x i * valN y + gw x i * pw i * vt y j /\ ∀ j, i + y.length <= j -> gw z j = 0) (h1 : s < 18446744073709551616) (h2 : h <= 18446744073709551615)
   (h3 : s + 18446744073709551616 * h = gw x i * gw y j + c + gw z (i + j)) (hz : Blk wr g (wArr z) 23) (hb : Below w.heap.size w wr) :
   aOU g w x y i (.int .u64 e) (.int .i64 (((j : Nat) : Int) + 1)) (wr.setCell ⟨g, i + j, none⟩ (.int .u64 ((s : Nat) : Int))) := by
 subst he
 obtain ⟨hs, hz0⟩ := hs
 refine ⟨j + 1, h, z.set (i + j) s, by omega, by go_num, rfl, by omega, by show _ = _; rw [List.length_set]; exact hzl, aCk hzo _ _ h1, ⟨?_, fun k hk => ?_⟩, aB6 hz (i + j) s, hb.setCell hg _⟩
 · have e := aIB z (i + j) s (by omega) (i + y.length) (by omega)
   rw [aAC, <- Nat.add_assoc, aBz, aGm]
   rw [aGm] at e hs
   generalize vt (z.set (i + j) s) (i + y.length) = V' at *
   generalize vt z (i + y.length) = V at *
   generalize gw z (i + j) = zk at *
   generalize gw x i = xi at *
   generalize gw y j = yj at *
   generalize pw i = P at *
   generalize pw j = Q at *
   generalize vt y j = Yj at *
   generalize vt x i * valN y = W at *
   grind
 · rw [aBH _ _ _ _ (by omega)]
   exact hz0 k hk
theorem aJK {g : Nat} {w wr : World} {x y z : List Nat} {i c : Nat} (hg : w.heap.size <= g) (hi : i < x.length) (hzl : z.length = x.length + y.length + 1) (hzo : okW z) (hc : c < 18446744073709551616)
   (hs : vt z (i + y.length) + c * pw (i + y.length) = vt x i * valN y + gw x i * pw i * vt y y.length /\ ∀ j, i + y.length <= j -> gw z j = 0) (hz : Blk wr g (wArr z) 23) (hb : Below w.heap.size w wr) :
   aSv g w x y (.int .i64 (((i : Nat) : Int) + 1)) (wr.setCell ⟨g, i + y.length, none⟩ (.int .u64 ((c : Nat) : Int))) := by
 obtain ⟨hs, hz0⟩ := hs
 refine ⟨i + 1, z.set (i + y.length) c, by omega, by go_num, by show _ = _; rw [List.length_set]; exact hzl, aCk hzo _ _ hc, ⟨?_, fun k hk => ?_⟩, aB6 hz _ c, hb.setCell hg _⟩
 · rw [show i + 1 + y.length = (i + y.length) + 1 by omega, aAC, aEP _ _ _ _ (Nat.le_refl _), aBa _ _ _ (by omega), hs, aBn y _ (Nat.le_refl _), aAC, Nat.add_mul]
 · rw [aBH _ _ _ _ (by omega)]
   exact hz0 k (by omega)
theorem aSw (lo : Nat) (a b : Value) (xa xb : List Nat) (w : World) (ha : aAE lo w a xa) (hb : aAE lo w b xb) (hla : xa.length <= 1000000000) (hlb : xb.length <= 1000000000) :
   Calls Tryz.prog 73 #[a, b] w (aCW w w.heap.size (valN xa * valN xb)) := by
 have hna := aA4 (aBr ha.ok)
 have hnb := aA4 (aBr hb.ok)
 have e1 := aAi (valN xa)
 have e2 := aAi (valN xb)
 go_enter Tryz.func73, Tryz.ntmps73
 go_wp2_with fail
 refine (aBN lo _ xa _ ha (by omega)).mono ?_
 rintro e w1 ⟨v1, rfl, hv1, hb1⟩
 go_wp2_with fail
 refine (aBN lo _ xb _ (hb.call hb1) (by omega)).mono ?_
 rintro e w2 ⟨v2, rfl, hv2, hb2⟩
 have hv1' := (hv1.call hb2).words
 have hv2' := hv2.words
 have hb12 := hb1.trans (hb2.mono hb1.size)
 clear hv1 hv2 ha hb hb1 hb2
 generalize limbsOf (valN xa) = x at *
 generalize limbsOf (valN xb) = y at *
 have E1 := Lib.hid e1
 have E2 := Lib.hid e2
 clear e1 e2
 have hokx := hv1'.ok
 have hoky := hv2'.ok
 obtain ⟨pa, ca, rfl, hca, hcma, _, hxa⟩ := hv1'
 obtain ⟨pb, cb, rfl, hcb, hcmb, _, hxb⟩ := hv2'
 have HXA := Lib.hid hxa
 have HXB := Lib.hid hxb
 have hlx : x.length <= 1000000000 := Nat.le_trans hna hla
 have hly : y.length <= 1000000000 := Nat.le_trans hnb hlb
 clear hxa hxb hna hnb hla hlb
 have hmk := aBW 25 Tryz.underlying25 (x.length + y.length + 1) (by omega)
 have hmk' : ∀ w : World, (Instr.makeSlice 25 (.int .i64 (((x.length : Nat) : Int) + ((y.length : Nat) : Int) + 1)) (.int .i64 (((x.length : Nat) : Int) + ((y.length : Nat) : Int) + 1))).run Tryz.prog w = .ok (.slice (some ⟨w.heap.size, 0, none⟩) (x.length + y.length + 1) (x.length + y.length + 1)) (w.alloc (.cells (wArr (List.replicate (x.length + y.length + 1) 0)) 23)) := fun w => by
   rw [show ((x.length : Nat) : Int) + ((y.length : Nat) : Int) + 1 = ((x.length + y.length + 1 : Nat) : Int) by omega]; exact hmk w
 clear hmk
 go_wp2_with fail
 clear hmk'
 have hsz := hb12.size
 go_loopw [28] (fun u28 wr => aSv w2.heap.size w x y u28 wr /\ Below w2.heap.size w2 wr) (fun u28 _ => x.length - (intOf u28).toNat)
 case atStart => exact ⟨⟨0, List.replicate (x.length + y.length + 1) 0, by omega, rfl, by show _ = _; simp, aBi _, ⟨by rw [aDT]; simp [vt], fun j _ => aWW _ j⟩, Blk.new _ _ _, hb12.alloc hsz _⟩, (Below.refl _ _).alloc (Nat.le_refl _) _⟩
 case round =>
   obtain ⟨⟨i, z, hi, rfl, hzl, hzo, hsum, hz, hbl⟩, hbl2⟩ := hrel
   by_cases hlt : i < x.length
   · obtain ⟨b1, o1, rfl, hb1lo, hcx⟩ := HXA.out i hlt
     have hcx' := (hbl2.cell (World.block_lt_of_cell? w2 _ hcx)).trans hcx
     have hxi := aA3 hokx i
     have start : aOU w2.heap.size w x y i (.int .u64 0) (.int .i64 0) wr := ⟨0, 0, z, by omega, rfl, rfl, by omega, hzl, hzo, ⟨by rw [hsum.out.1]; simp [vt], hsum.out.2⟩, hz, hbl⟩
     clear hcx hzl hzo hsum hz hbl
     go_wp2_with fail
     obtain ⟨wo, hwo⟩ : ∃ wo : World, wo = wr := ⟨_, rfl⟩
     go_loopw [8, 35] (fun u8 u35 wr => aOU w2.heap.size w x y i u8 u35 wr /\ Below w2.heap.size w2 wr) (fun _ u35 _ => y.length - (intOf u35).toNat)
     case atStart => exact ⟨start, hbl2⟩
     case round =>
       clear start hcx' hbl2 hwo
       obtain ⟨⟨j, c, z, hj, rfl, rfl, hc, HZ, hzo, HS, hz, hbl⟩, hbl2⟩ := hrel
       by_cases hlt2 : j < y.length
       · obtain ⟨b2, o2, rfl, _, hcy⟩ := HXB.out j hlt2
         have hcy' := (hbl2.cell (World.block_lt_of_cell? w2 _ hcy)).trans hcy
         have hyj := aA3 hoky j
         have hzk := aA3 hzo (i + j)
         have zc := hz.cell (i + j) _ (aBK z (i + j) (by have := HZ.out; omega))
         have zf := hz.free (i + j)
         have htm := fun w => aP9 (gw x i) (gw y j) w hxi hyj
         have hlh := aPr (gw x i) (gw y j)
         have hll := aRa (gw x i) (gw y j)
         have hhl := aWQ hxi hyj
         have hpr : gw x i * gw y j <= 18446744073709551615 * 18446744073709551615 := Nat.mul_le_mul (by omega) (by omega)
         have hcl : ∀ s h : Nat, s < 18446744073709551616 -> h <= 18446744073709551615 -> s + 18446744073709551616 * h = gw x i * gw y j + c + gw z (i + j) -> aOU w2.heap.size w x y i (.int .u64 ((h : Nat) : Int)) (.int .i64 (((j : Nat) : Int) + 1)) (wr.setCell ⟨w2.heap.size, i + j, none⟩ (.int .u64 ((s : Nat) : Int))) :=
           fun s h h1 h2 h3 => aK1 rfl hsz hlt hlt2 HZ.out hzo HS.out h1 h2 h3 hz hbl
         have HCL := Lib.hid hcl
         clear hcy hcl HS hz hbl hzo
         generalize gw x i * gw y j = pr at *
         generalize mL (gw x i) (gw y j) = low at *
         generalize mH (gw x i) (gw y j) = high at *
         generalize gw z (i + j) = zk at *
         obtain ⟨s, hs⟩ : ∃ v, (zk + low) % 18446744073709551616 = v := ⟨_, rfl⟩
         obtain ⟨k1, hk1⟩ : ∃ v, (zk + low) / 18446744073709551616 = v := ⟨_, rfl⟩
         obtain ⟨t, ht⟩ : ∃ v, (s + c) % 18446744073709551616 = v := ⟨_, rfl⟩
         obtain ⟨k2, hk2⟩ : ∃ v, (s + c) / 18446744073709551616 = v := ⟨_, rfl⟩
         have w1 : IntKind.u64.wrap (((zk : Nat) : Int) + ((low : Nat) : Int)) = ((s : Nat) : Int) := by rw [IntKind.wrap_u64]; omega
         have w2' : IntKind.u64.wrap (((s : Nat) : Int) + ((c : Nat) : Int)) = ((t : Nat) : Int) := by rw [IntKind.wrap_u64]; omega
         have HT := Lib.hid htm
         clear htm
         have hbset := hbl2.setCell (show w2.heap.size <= (⟨w2.heap.size, i + j, none⟩ : Addr).block from Nat.le_refl _) (.int .u64 ((t : Nat) : Int))
         by_cases c1 : k1 = 0
         · have d1 : decide (s < low) = false := decide_eq_false (by omega)
           by_cases c2 : k2 = 0
           · have d2 : decide (t < c) = false := decide_eq_false (by omega)
             have hfin := Lib.hid (HCL.out t high (by omega) (by omega) (by omega))
             clear hs hk1 ht hk2 c1 c2 HCL hlh hpr
             go_wp2_with fail
             refine (HT.out _).mono ?_
             rintro e w3 ⟨rfl, hw⟩
             subst hw
             go_wp2_with fail
             go_roundw
             case rel => exact ⟨hfin.out, hbset⟩
             case measure => simp [intOf]; omega
           · have d2 : decide (t < c) = true := decide_eq_true (by omega)
             have w3 : IntKind.u64.wrap (((high : Nat) : Int) + 1) = ((high + 1 : Nat) : Int) := by rw [IntKind.wrap_u64]; omega
             have hfin := Lib.hid (HCL.out t (high + 1) (by omega) (by omega) (by omega))
             generalize hh1 : high + 1 = high1 at *
             clear hs hk1 ht hk2 c1 c2 HCL hlh hpr hh1
             go_wp2_with fail
             refine (HT.out _).mono ?_
             rintro e w3 ⟨rfl, hw⟩
             subst hw
             go_wp2_with fail
             go_roundw
             case rel => exact ⟨hfin.out, hbset⟩
             case measure => simp [intOf]; omega
         · have d1 : decide (s < low) = true := decide_eq_true (by omega)
           have w3 : IntKind.u64.wrap (((high : Nat) : Int) + 1) = ((high + 1 : Nat) : Int) := by rw [IntKind.wrap_u64]; omega
           by_cases c2 : k2 = 0
           · have d2 : decide (t < c) = false := decide_eq_false (by omega)
             have hfin := Lib.hid (HCL.out t (high + 1) (by omega) (by omega) (by omega))
             generalize hh1 : high + 1 = high1 at *
             clear hs hk1 ht hk2 c1 c2 HCL hlh hpr hh1
             go_wp2_with fail
             refine (HT.out _).mono ?_
             rintro e w3 ⟨rfl, hw⟩
             subst hw
             go_wp2_with fail
             go_roundw
             case rel => exact ⟨hfin.out, hbset⟩
             case measure => simp [intOf]; omega
           · have d2 : decide (t < c) = true := decide_eq_true (by omega)
             have w4 : IntKind.u64.wrap (((high + 1 : Nat) : Int) + 1) = ((high + 2 : Nat) : Int) := by rw [IntKind.wrap_u64]; omega
             have hfin := Lib.hid (HCL.out t (high + 2) (by omega) (by omega) (by omega))
             generalize hh1 : high + 1 = high1 at *
             generalize hh2 : high + 2 = high2 at *
             clear hs hk1 ht hk2 c1 c2 HCL hlh hpr hh1 hh2
             go_wp2_with fail
             refine (HT.out _).mono ?_
             rintro e w3 ⟨rfl, hw⟩
             subst hw
             go_wp2_with fail
             go_roundw
             case rel => exact ⟨hfin.out, hbset⟩
             case measure => simp [intOf]; omega
       · obtain rfl : j = y.length := by omega
         have zc := hz.cell (i + y.length) _ (aBK z (i + y.length) (by have := HZ.out; omega))
         have zf := hz.free (i + y.length)
         have hfin := Lib.hid (aJK hsz hlt HZ.out hzo hc HS.out hz hbl)
         have hbset := hbl2.setCell (show w2.heap.size <= (⟨w2.heap.size, i + y.length, none⟩ : Addr).block from Nat.le_refl _) (.int .u64 ((c : Nat) : Int))
         clear HS
         go_wp2_with fail
         go_roundw
         case rel => exact ⟨hfin.out, hbset⟩
         case measure => simp [intOf]; omega
   · obtain rfl : i = x.length := by omega
     have hw2 := aAE.ofBlk_all (lo := w2.heap.size) hz (Nat.le_refl _) hzo (by have := hzl.out; omega)
     have hval : valN z = valN xa * valN xb := by
       obtain ⟨h1, h2⟩ := hsum.out
       have h3 := aN2 h2 1
       rw [aBn z _ (by have := hzl.out; omega), h1, aBn x _ (Nat.le_refl _), E1.out, E2.out] at h3
       exact h3
     rw [hzl.out] at hw2
     have hN := aBN w2.heap.size _ z wr hw2 (by have := hzl.out; omega)
     rw [hval] at hN
     have HN := Lib.hid hN
     clear hN hval hsum hw2
     go_wp2_with fail
     refine HN.out.mono ?_
     rintro e w3 ⟨v, rfl, hv, hb3⟩
     go_wp2_with fail
     go_ret
     exact ⟨_, rfl, hv.mono hbl.size, hbl.trans (hb3.mono hbl.size)⟩
end
section
open Go.RowKit
theorem aIj (a b : Nat) (ha : Sr a) (hb : Sr b) : AC Tryz.prog TabW 73 [.num a, .num b] (.num (a * b)) := by
 refine ⟨by kernel_rfl, fun S β w vs hI hS h => ?_⟩
 simp only [RepL, Rep] at h
 obtain ⟨va, _, rfl, h1, vb, _, rfl, h2, rfl⟩ := h
 have := aSw 0 va vb _ _ w h1.1 h2.1 (by have := aDl ha; omega) (by have := aDl hb; omega)
 rw [aAi, aAi] at this
 exact this.mono fun e w' h => aCC hS h
end
end Go.Proofs.YtgdkokgeldnliaaGreatDoor
