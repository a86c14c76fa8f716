/- DecB PriA PriB PriC -/
import Derived.Test.YtkfbailpifmdcaaGreatDoorMak
import Derived.Laws.BitsAll
section
namespace Go.Proofs.YtkfbailpifmdcaaGreatDoor
open Go.RowKit

theorem TabP.call {w w' : World} (h : TabP w) (hb : Below w.heap.size w w') : TabP w' := by
  unfold TabP Lib.TabIs at *
  cases hg : Tryz.prog.globalNamed "internal/strconv.uint64pow10" with
  | none => unfold World.var? at h; rw [hg] at h; cases h
  | some g =>
    refine var?_below hb hg ?_ h
    unfold World.var? at h
    rw [hg] at h
    simp only [Option.bind_some] at h
    rcases Nat.lt_or_ge g w.heap.size with h1 | h1
    · exact h1
    · rw [Array.getElem?_eq_none h1] at h; cases h
theorem ownsRow_call {w w' : World} {B n : Nat} {e : TypeId} {v : Value} {xs : List Value} (h : w.ownsRow B e 1 v n xs) (hb : Below w.heap.size w w') : w'.ownsRow B e 1 v n xs := by
  obtain ⟨h1, h2⟩ := h
  refine ⟨h1, ?_⟩
  rcases h2 with h2 | ⟨g, cap, cur, a, b, c, d⟩
  · exact .inl h2
  · exact .inr ⟨g, cap, cur, a, b, (hb.block g (lt_of_block c)).trans c, d⟩

theorem Num.grown {lo n : Nat} {w w' : World} {v : Value} {row : Option Nat} (h : Num lo w v n) (hg : w.grownBy w' row) (hr : ∀ k, row = some k → k < lo) : Num lo w' v n := by
  obtain ⟨x, cap, h1, h2, h3, h4, h5⟩ := h
  refine ⟨x, cap, h1, h2, h3, h4, fun i hi => ?_⟩
  obtain ⟨b, off, e, hl, hc⟩ := h5 i hi
  exact ⟨b, off, e, hl, hg.cell hc (fun e => by have := hr b e.symm; omega)⟩

theorem parts_step {ps : List (List UInt8)} {j : Nat} {p : List UInt8} (hj : j < ps.length) (hp : ps[j]'hj = p) :
    (ps.drop j).reverse.flatten = (ps.drop (j + 1)).reverse.flatten ++ p ∧ ((ps.drop (j + 1)).reverse.flatten).length + p.length ≤ (ps.reverse.flatten).length := by
  have h1 : (ps.drop j).reverse.flatten = (ps.drop (j + 1)).reverse.flatten ++ p := by
    rw [List.drop_eq_getElem_cons hj, hp]; simp
  refine ⟨h1, ?_⟩
  have h2 : ps.reverse.flatten = (ps.drop j).reverse.flatten ++ (ps.take j).reverse.flatten := by
    rw [← List.flatten_append, ← List.reverse_append, List.take_append_drop]
  rw [h2, h1]
  simp

def strV (ps : List (List UInt8)) : List Value := ps.map (fun p => Value.string ⟨p.toArray⟩)
theorem strV_len (ps : List (List UInt8)) : (strV ps).length = ps.length := by simp [strV]
theorem Tryz.infoS : (Tryz.prog.info? 9).map (fun i => (i.zero, i.size, i.bytes)) = some (some (.string ⟨#[]⟩), 1, 16) := by kernel_rfl

theorem chunk_bl {m : Nat} (h : m ≠ 0) : bl (m / 10000000000000000000) + 1 ≤ bl m := by
  have h1 := bl_pos h
  have h2 : m / 10000000000000000000 < 2 ^ (bl m - 1) := by
    have h3 := bl_lt m
    rw [show bl m = (bl m - 1) + 1 by omega, Nat.pow_succ] at h3
    omega
  have := bl_le h2
  omega
theorem dec_bl (n : Nat) (h : n ≠ 0) : (Lib.decDigits n).length ≤ bl n := by
  refine dec_len_le (bl n) n (bl_pos h) (Nat.lt_of_lt_of_le (bl_lt n) ?_)
  exact Nat.pow_le_pow_left (by decide) _

set_option maxRecDepth 1000000 in
set_option maxHeartbeats 4000000 in
theorem decimals_any (lo : Nat) (a : Value) (n : Nat) (w : World) (ha : Num lo w a n) (hn : bl n ≤ 1000000) (hP : TabP w) :
    Calls Tryz.prog 41 #[a] w fun e w' => e = .returned (.string ⟨(Lib.decDigits n).toArray⟩) ∧ Below w.heap.size w w' := by
  obtain ⟨i0, hi, hz0, hz1, hz2⟩ := info_parts Tryz.infoS
  have hlz := @limbsOf_len_zero n
  by_cases h0 : n = 0
  · subst h0
    obtain ⟨x1, c1, rfl⟩ := ha.slice'
    have e0 : (limbsOf 0).length = 0 := by rw [limbsOf_zero]; rfl
    have e1 : Lib.decDigits 0 = [48] := dec_small (by decide)
    rw [e1]
    clear hlz
    go_enter Tryz.func41, Tryz.ntmps41
    go_wp2_with fail
    go_ret
    exact ⟨rfl, Below.refl _ _⟩
  obtain ⟨x1, c1, rfl⟩ := ha.slice'
  have e0 : ((((limbsOf n).length : Nat) : Int) == 0) = false := beq_eq_false_iff_ne.2 (by have := mt hlz.1 h0; omega)
  have H0 := Lib.hid h0
  clear hlz h0
  go_enter Tryz.func41, Tryz.ntmps41
  generalize hZ' : (10000000000000000000 : Int) = Z
  have hZ := Lib.hid hZ'
  clear hZ'
  go_wp2_with fail
  go_loopw [0, 3] (fun u0 u3 wr => ∃ (m : Nat) (ps : List (List UInt8)), Num 0 wr u0 m ∧ wr.ownsRow w.heap.size 9 1 u3 ps.length (strV ps) ∧ Below w.heap.size w wr ∧ Hid (Lib.decDigits n = decR0 m ++ ps.reverse.flatten) ∧ bl m + ps.length ≤ bl n) (fun _ u3 _ => bl n - lenOf u3)
  case atStart => exact ⟨n, [], ha.mono (Nat.zero_le _), World.ownsRow_nil _ _ _ _, Below.refl _ _, by simp [Hid, decR0, H0.out], by simp⟩
  case round =>
    obtain ⟨m, ps, hm, hown, hbw, HD, hbl⟩ := hrel
    obtain ⟨x0, c0, rfl⟩ := hm.slice'
    have hmz := @limbsOf_len_zero m
    by_cases hm0 : m = 0
    · subst hm0
      generalize hWW : wr = W1 at *
      clear hWW
      have hd := HD.out
      rw [decR0, if_pos rfl, List.nil_append] at hd
      have HD2 := Lib.hid hd
      have e2 : (limbsOf 0).length = 0 := by rw [limbsOf_zero]; rfl
      obtain ⟨x3, c3, rfl⟩ := ownsRow_slice hown
      have hbb := (Below.refl W1.heap.size W1).alloc (Nat.le_refl _) (.cells #[.pointer none, .slice none 0 0] 114)
      have hpl : ps.length ≤ 1000000 := by omega
      have hpl1 : -9223372036854775808 ≤ ((ps.length : Nat) : Int) - 1 := by omega
      have hlenD := dec_bl n H0.out
      have hisb : Lib.IsBuilder 114 5 W1.heap.size W1.heap.size (Lib.byteCells []) (W1.alloc (.cells #[.pointer none, .slice none 0 0] 114)) :=
        Or.inl ⟨Nat.le_refl _, _, heap_alloc_new W1 _, World.ownsRow_nil _ _ _ _, by simp [Value.ownBlock]⟩
      clear hd HD e0 hm hmz
      simp only [e2]
      go_wp2_with fail
      go_loopw [8] (fun u8 wx => ∃ k : Nat, k ≤ ps.length ∧ u8 = .int .i64 (((k : Nat) : Int) - 1) ∧ Lib.IsBuilder 114 5 W1.heap.size W1.heap.size (Lib.byteCells (ps.drop k).reverse.flatten) wx ∧ Below W1.heap.size W1 wx) (fun u8 _ => (intOf u8 + 1).toNat)
      case atStart => exact ⟨ps.length, Nat.le_refl _, rfl, by simpa using hisb, hbb⟩
      case round =>
        obtain ⟨k, hk, rfl, hib, hbx⟩ := hrel
        have hsx := hbx.size
        by_cases hk0 : k = 0
        · subst hk0
          rw [List.drop_zero, ← HD2.out] at hib
          go_wp2_with fail
          refine (Tryz.Builder_String_any W1.heap.size W1.heap.size (Lib.decDigits n) _ hib hsx).mono ?_
          rintro e w5 ⟨rfl, hb5⟩
          go_wp2_with fail
          go_ret
          exact ⟨rfl, hbw.trans ((hbx.trans hb5).mono hbw.size)⟩
        · obtain ⟨j, rfl⟩ : ∃ j, k = j + 1 := ⟨k - 1, by omega⟩
          have hcast : (((j + 1 : Nat) : Int) - 1) = ((j : Nat) : Int) := by omega
          rw [hcast]
          have hownx := ownsRow_call hown hbx
          have hjl : j < ps.length := by omega
          obtain ⟨p, hp⟩ : ∃ p, ps[j]'hjl = p := ⟨_, rfl⟩
          obtain ⟨hdrop, hlen⟩ := parts_step hjl hp
          have hlen2 : ((ps.drop (j + 1)).reverse.flatten).length + p.length ≤ 1000000 := by rw [← HD2.out] at hlen; omega
          have HDR := Lib.hid hdrop
          rcases hownx.2 with ⟨_, h0⟩ | ⟨g, cap, cur, hv, _, _⟩
          · omega
          · cases hv
            have hcell := hownx.cells (g := g) rfl j (.string ⟨p.toArray⟩) (by simp [strV, List.getElem?_eq_getElem hjl, hp])
            have hc2 : wr.cell? ⟨g, j, none⟩ = some (.string ⟨p.toArray⟩) := by
              by_cases h0 : j = 0
              · subst h0; simpa [Addr.add] using hcell
              · simpa [Addr.add, h0] using hcell
            have hji : ((j : Nat) : Int) < ((ps.length : Nat) : Int) := by omega
            have hsz : (⟨p.toArray⟩ : ByteArray).size = p.length := by simp [ByteArray.size]
            clear hcell hdrop hlen hcast hk0 hk hownx hisb hbb hown hp
            go_wp2_with fail
            refine (WriteString_any W1.heap.size W1.heap.size _ ⟨p.toArray⟩ wr hib (by rw [hsz]; simp only [Lib.byteCells, List.length_map]; omega) hsx).mono ?_
            rintro e w5 ⟨rfl, hat, hb5⟩
            go_wp2_with fail
            go_roundw
            case rel =>
              refine ⟨j, by omega, by go_num, Or.inr ?_, hbx.trans hb5⟩
              rw [HDR.out]
              have e5 : Lib.byteCells ((ps.drop (j + 1)).reverse.flatten ++ p) = Lib.byteCells (ps.drop (j + 1)).reverse.flatten ++ Lib.strCells ⟨p.toArray⟩ := by
                simp [Lib.byteCells, Lib.strCells]
              rw [e5]
              exact hat
            case measure => simp [intOf]
    · have e1 : decide (0 < (limbsOf m).length) = true := decide_eq_true (by have := mt hmz.1 hm0; omega)
      have hcb := chunk_bl hm0
      have hlm := limbs_bl (n := m) (k := 1000000) (by omega)
      have hd := HD.out
      rw [decR0, if_neg hm0] at hd
      have HD2 := Lib.hid hd
      have HM0 := Lib.hid hm0
      clear HD hd hm0 hmz e0
      have hshort := Short_any 0 _ (limbsOf m) 10000000000000000000 wr hm.words (by omega) (by decide) (by decide)
      rw [valN_limbsOf] at hshort
      have hz2' : ((10000000000000000000 : Nat) : Int) = Z := hZ.out
      rw [hz2'] at hshort
      clear hz2'
      have hrlt : m % 10000000000000000000 < 10000000000000000000 := Nat.mod_lt _ (by decide)
      have HCH := Lib.hid (@dec_chunk m)
      obtain ⟨q, hq⟩ : ∃ q, m / 10000000000000000000 = q := ⟨_, rfl⟩
      obtain ⟨r, hr⟩ : ∃ q, m % 10000000000000000000 = q := ⟨_, rfl⟩
      rw [hq, hr] at hshort HCH
      rw [hq] at hcb
      rw [hr] at hrlt
      have hmqr : m = q * 10000000000000000000 + r := by omega
      have HQR := Lib.hid hmqr
      clear hq hr hmqr
      go_wp2_with fail
      refine hshort.mono ?_
      rintro e w1 ⟨v1, rfl, hv1, hb1⟩
      clear hshort
      have hbw1 := hbw.trans (hb1.mono hbw.size)
      go_wp2_with fail
      refine (FormatUint_any r (by omega) w1 (hP.call hbw1)).mono ?_
      rintro e w2 ⟨rfl, hb2⟩
      have hbw2 := hbw1.trans (hb2.mono hbw1.size)
      obtain ⟨x2, c2, rfl⟩ := hv1.slice'
      have hqz := @limbsOf_len_zero q
      have hown2 := ownsRow_call (ownsRow_call hown hb1) hb2
      have hs2 := hbw2.size
      have hblm : 0 < bl m := bl_pos HM0.out
      obtain ⟨x3, c3, rfl⟩ := ownsRow_slice hown2
      by_cases hq0 : q = 0
      · subst hq0
        have e2 : (limbsOf 0).length = 0 := by rw [limbsOf_zero]; rfl
        go_wp2_with (at_builtin; refine wpList_append1 rfl _ _ 108 rfl w.heap.size 9 i0 (.string ⟨#[]⟩) 16 Tryz.underlying108 hi hz0 hz1 hz2 rfl _ _ _ rfl hown2 _ _ rfl rfl (by unfold maxLen; omega) (by omega) (by omega) ?_; intro v' w3 hown3 hg3)
        have hg4 : w2.grownBy w3 (Value.slice x3 ps.length c3).ownBlock := hg3
        have hbw3 := Below.grownB hbw2 hg4 hs2 hown2
        have hnum3 : Num 0 w3 (.slice x2 0 c2) 0 := by
          obtain ⟨x2', c2', h1, _, h3, h4, _⟩ := hv1
          cases h1
          exact Num.zero _ _ _ _ h3 h4.2
        obtain ⟨x4, c4, rfl⟩ := ownsRow_slice hown3
        go_roundw
        case rel =>
          refine ⟨0, ps ++ [Lib.decDigits r], hnum3, ?_, hbw3, ?_, ?_⟩
          · rw [List.length_append, List.length_singleton, strV, List.map_append]
            exact hown3
          · show Lib.decDigits n = _
            rw [HD2.out]
            have hmr : m = r := by have := HQR.out; omega
            rw [hmr]
            simp [decR0]
          · rw [List.length_append, List.length_singleton, bl_zero]; omega
        case measure => simp only [lenOf]; omega
      · have e2 : decide (0 < (limbsOf q).length) = true := decide_eq_true (by have := mt hqz.1 hq0; omega)
        have hdl := dec_len_le 19 r (by decide) hrlt
        have hdl2 : IntKind.i64.wrap (19 - (((Lib.decDigits r).length : Nat) : Int)) = ((19 - (Lib.decDigits r).length : Nat) : Int) := by rw [IntKind.wrap_i64]; omega
        have hwr : wrap64 (19 - (((Lib.decDigits r).length : Nat) : Int)) = ((19 - (Lib.decDigits r).length : Nat) : Int) := by unfold wrap64; omega
        have hpad := pad_dec 19 r (by decide) hrlt
        have hch := HCH.out hq0
        have hch2 : Lib.decDigits m = Lib.decDigits q ++ padL 19 r := by rw [HQR.out]; rw [HQR.out] at hch; exact hch
        have HPAD := Lib.hid hpad
        have HCH2 := Lib.hid hch2
        have hszr : (⟨(Lib.decDigits r).toArray⟩ : ByteArray).size = (Lib.decDigits r).length := by simp [ByteArray.size]
        clear hpad hch hch2 hqz
        go_wp2_with fail
        refine (Tryz.strings_Repeat ⟨#[48]⟩ (19 - (Lib.decDigits r).length) w2 (by omega) (by show 1 * _ ≤ _; omega)).mono ?_
        rintro e w3 ⟨rfl, hb3⟩
        have e48 : (⟨(Lib.repeatL (⟨#[48]⟩ : ByteArray).data.toList (19 - (Lib.decDigits r).length)).toArray⟩ : ByteArray) ++ ⟨(Lib.decDigits r).toArray⟩ = ⟨(padL 19 r).toArray⟩ := by
          rw [← HPAD.out, ← repeatL_zero]
          apply ByteArray.ext
          simp
        have hbw3 := hbw2.trans (hb3.mono hbw2.size)
        have hown3 := ownsRow_call hown2 hb3
        have hs3 := hbw3.size
        have hz1s : (⟨(Lib.repeatL (⟨#[48]⟩ : ByteArray).data.toList (19 - (Lib.decDigits r).length)).toArray⟩ : ByteArray).size ≤ 19 := by
          rw [repeatL_zero]; simp [ByteArray.size]
        generalize (⟨(Lib.repeatL (⟨#[48]⟩ : ByteArray).data.toList (19 - (Lib.decDigits r).length)).toArray⟩ : ByteArray) = Z1 at *
        go_wp2_with (at_builtin; refine wpList_append1 rfl _ _ 108 rfl w.heap.size 9 i0 (.string ⟨#[]⟩) 16 Tryz.underlying108 hi hz0 hz1 hz2 rfl _ _ _ rfl hown3 _ _ rfl rfl (by unfold maxLen; omega) (by omega) (by omega) ?_; intro v' w4 hown4 hg3)
        have hg4 : w3.grownBy w4 (Value.slice x3 ps.length c3).ownBlock := hg3
        have hbw4 := Below.grownB hbw3 hg4 hs3 hown3
        have hnum4 : Num 0 w4 (.slice x2 (limbsOf q).length c2) q := by
          exact (((hv1.call hb2).call hb3).grown hg4 (fun k hk => (hown.lt k hk).2)).mono (Nat.zero_le _)
        obtain ⟨x4, c4, rfl⟩ := ownsRow_slice hown4
        go_roundw
        case rel =>
          refine ⟨q, ps ++ [padL 19 r], hnum4, ?_, hbw4, ?_, ?_⟩
          · rw [List.length_append, List.length_singleton, strV, List.map_append]
            exact hown4
          · show Lib.decDigits n = _
            rw [HD2.out, HCH2.out, decR0, if_neg hq0]
            simp
          · rw [List.length_append, List.length_singleton]; omega
        case measure => simp only [lenOf]; omega
end Go.Proofs.YtkfbailpifmdcaaGreatDoor
end

section
namespace Go.Proofs.YtkfbailpifmdcaaGreatDoor
open Go.RowKit

/-- The sign's bit. -/
def sgnB (x : Nat) : Bool := decide (9223372036854775808 ≤ x)
def absN (x : Nat) : Nat := x % 9223372036854775808
def signL (x : Nat) (s : List UInt8) : List UInt8 := if sgnB x then 45 :: s else s

theorem and_sign {x : Nat} (hx : x < 18446744073709551616) : x &&& 9223372036854775808 = if sgnB x then 9223372036854775808 else 0 := by
  have hb : x.testBit 63 = sgnB x := by
    rw [Nat.testBit, Nat.shiftRight_eq_div_pow, show (2 : Nat) ^ 63 = 9223372036854775808 from rfl]
    unfold sgnB
    by_cases h1 : 9223372036854775808 ≤ x
    · rw [decide_eq_true h1, show x / 9223372036854775808 = 1 by omega]; rfl
    · rw [decide_eq_false h1, show x / 9223372036854775808 = 0 by omega]; rfl
  apply Nat.eq_of_testBit_eq
  intro i
  rw [Nat.testBit_and, show (9223372036854775808 : Nat) = 2 ^ 63 from rfl, Nat.testBit_two_pow]
  by_cases hi : 63 = i
  · subst hi
    rw [hb]
    cases sgnB x
    · simp
    · have h := Nat.testBit_two_pow (n := 63) (m := 63)
      rw [show (2 : Nat) ^ 63 = 9223372036854775808 from rfl] at h
      simp [h]
  · cases sgnB x
    · simp [hi]
    · have h := Nat.testBit_two_pow (n := 63) (m := i)
      rw [show (2 : Nat) ^ 63 = 9223372036854775808 from rfl] at h
      simp [hi, h]

set_option maxHeartbeats 1000000 in
theorem signed_any (x : Nat) (s : ByteArray) (w : World) (hx : x < 18446744073709551616) (hs : s.size ≤ 1000000) :
    Calls Tryz.prog 45 #[.int .u64 ((x : Nat) : Int), .string s] w fun e w' => e = .returned (.string ⟨(signL x s.data.toList).toArray⟩) ∧ w = w' := by
  have hand : bits BinOp.and IntKind.u64 ((x : Nat) : Int) 9223372036854775808 = ((x &&& 9223372036854775808 : Nat) : Int) := bits_and_u64_nat x 9223372036854775808 hx (by decide)
  rw [and_sign hx] at hand
  unfold signL
  have hsz : (⟨#[45]⟩ : ByteArray).size = 1 := rfl
  cases hb : sgnB x with
  | true =>
    rw [hb, if_pos rfl] at hand
    rw [if_pos rfl]
    have hcat : (⟨#[45]⟩ : ByteArray) ++ s = ⟨(45 :: s.data.toList).toArray⟩ := by
      apply ByteArray.ext; apply Array.ext'; simp
    generalize (⟨(45 :: s.data.toList).toArray⟩ : ByteArray) = Z at *
    have hb1 : (bits BinOp.and IntKind.u64 ((x : Nat) : Int) 9223372036854775808 != 0) = true := by rw [hand]; rfl
    clear hb hand
    go_enter Tryz.func45, Tryz.ntmps45
    go_wp2
    go_ret
    exact ⟨rfl, rfl⟩
  | false =>
    rw [hb, if_neg (by decide)] at hand
    rw [if_neg (by decide)]
    have hb1 : (bits BinOp.and IntKind.u64 ((x : Nat) : Int) 9223372036854775808 != 0) = false := by rw [hand]; rfl
    clear hb hsz hand
    go_enter Tryz.func45, Tryz.ntmps45
    go_wp2
    go_ret
    exact ⟨rfl, rfl⟩
theorem andNot_sign {x : Nat} (hx : x < 18446744073709551616) : bits BinOp.andNot IntKind.u64 ((x : Nat) : Int) 9223372036854775808 = ((absN x : Nat) : Int) := by
  have h : bits BinOp.andNot IntKind.u64 ((x : Nat) : Int) 9223372036854775808 = ((x &&& (18446744073709551615 - 9223372036854775808) : Nat) : Int) := u64_andNot_nat x 9223372036854775808 hx (by decide)
  rw [h]
  have h2 := Nat.and_two_pow_sub_one_eq_mod x 63
  rw [show (2 : Nat) ^ 63 - 1 = 18446744073709551615 - 9223372036854775808 from rfl] at h2
  rw [h2]
  rfl

/-- The text of what has no digits. -/
def plainP (x : Nat) (zero : List UInt8) : List UInt8 × Bool :=
  if 9218868437227405312 < absN x then ([110, 97, 110], true) else if absN x = 9218868437227405312 then (signL x [105, 110, 102], true) else
  if absN x = 0 then (signL x zero, true) else ([], false)

set_option maxRecDepth 100000 in
set_option maxHeartbeats 2000000 in
theorem plain_any (x : Nat) (z : ByteArray) (w : World) (hx : x < 18446744073709551616) (hz : z.size ≤ 1000) :
    Calls Tryz.prog 34 #[.int .u64 ((x : Nat) : Int), .string z] w fun e w' => e = .returned (.tuple #[.string ⟨(plainP x z.data.toList).1.toArray⟩, .bool (plainP x z.data.toList).2]) ∧ w = w' := by
  obtain ⟨R, hR⟩ : ∃ R, plainP x z.data.toList = R := ⟨_, rfl⟩
  rw [hR]
  unfold plainP at hR
  have han := andNot_sign hx
  have halt : absN x < 9223372036854775808 := Nat.mod_lt _ (by decide)
  obtain ⟨a, ha⟩ : ∃ a, absN x = a := ⟨_, rfl⟩
  rw [ha] at han halt hR
  have HR := Lib.hid hR
  clear hR ha
  by_cases h1 : 9218868437227405312 < a
  · have hr := HR.out
    rw [if_pos h1] at hr
    subst hr
    have e1 : decide ((9218868437227405312 : Int) < ((a : Nat) : Int)) = true := decide_eq_true (by omega)
    clear HR h1 halt
    go_enter Tryz.func34, Tryz.ntmps34
    generalize hZ' : (9218868437227405312 : Int) = Z at *
    clear hZ'
    go_wp2
    go_ret2
    exact ⟨rfl, rfl⟩
  have hr := HR.out
  rw [if_neg h1] at hr
  have e1 : decide ((9218868437227405312 : Int) < ((a : Nat) : Int)) = false := decide_eq_false (by omega)
  by_cases h2 : a = 9218868437227405312
  · rw [if_pos h2] at hr
    subst hr
    have e2 : (((a : Nat) : Int) == 9218868437227405312) = true := beq_iff_eq.2 (by omega)
    clear HR h1 halt h2
    go_enter Tryz.func34, Tryz.ntmps34
    generalize hZ' : (9218868437227405312 : Int) = Z at *
    clear hZ'
    go_wp2_with fail
    refine (signed_any x ⟨#[105, 110, 102]⟩ w hx (by decide)).mono ?_
    rintro e w1 ⟨rfl, hw⟩
    subst hw
    go_wp2
    go_ret2
    exact ⟨rfl, rfl⟩
  rw [if_neg h2] at hr
  have e2 : (((a : Nat) : Int) == 9218868437227405312) = false := beq_eq_false_iff_ne.2 (by omega)
  by_cases h3 : a = 0
  · rw [if_pos h3] at hr
    subst hr h3
    have e1z : decide ((9218868437227405312 : Int) < 0) = false := by decide
    have e2z : ((0 : Int) == 9218868437227405312) = false := by decide
    clear HR h1 halt h2 e1 e2
    go_enter Tryz.func34, Tryz.ntmps34
    generalize hZ' : (9218868437227405312 : Int) = Z at *
    clear hZ'
    go_wp2_with fail
    refine (signed_any x z w hx (by omega)).mono ?_
    rintro e w1 ⟨rfl, hw⟩
    subst hw
    go_wp2
    go_ret2
    exact ⟨rfl, rfl⟩
  · rw [if_neg h3] at hr
    subst hr
    have e3 : (((a : Nat) : Int) == 0) = false := beq_eq_false_iff_ne.2 (by omega)
    clear HR h1 halt h2 h3
    go_enter Tryz.func34, Tryz.ntmps34
    generalize hZ' : (9218868437227405312 : Int) = Z at *
    clear hZ'
    go_wp2
    go_ret2
    exact ⟨rfl, rfl⟩
/-- A finite number's whole part and exponent. -/
def expN (x : Nat) : Nat := x / 4503599627370496 % 2048
def vM (x : Nat) : Nat := if expN x = 0 then x % 4503599627370496 else x % 4503599627370496 + 4503599627370496
def vE (x : Nat) : Int := if expN x = 0 then -1074 else ((expN x : Nat) : Int) - 1075

theorem and_low {x k : Nat} (hk : k ≤ 63) (hx : x < 18446744073709551616) : bits BinOp.and IntKind.u64 ((x : Nat) : Int) (((2 ^ k - 1 : Nat)) : Int) = ((x % 2 ^ k : Nat) : Int) := by
  have h2 := Nat.pow_le_pow_right (n := 2) (by decide) hk
  rw [bits_and_u64_nat x (2 ^ k - 1) hx (by omega), Nat.and_two_pow_sub_one_eq_mod]
theorem or_high {f : Nat} (h : f < 4503599627370496) : bits BinOp.or IntKind.u64 ((f : Nat) : Int) 4503599627370496 = ((f + 4503599627370496 : Nat) : Int) := by
  have h1 : bits BinOp.or IntKind.u64 ((f : Nat) : Int) 4503599627370496 = ((f ||| 4503599627370496 : Nat) : Int) := u64_or_nat f 4503599627370496 (by omega) (by decide)
  rw [h1]
  have h2 := Nat.two_pow_add_eq_or_of_lt (i := 52) (b := f) (by omega) 1
  rw [show (2 : Nat) ^ 52 * 1 = 4503599627370496 from rfl] at h2
  rw [Nat.or_comm, ← h2, Nat.add_comm]

set_option maxRecDepth 100000 in
set_option maxHeartbeats 2000000 in
theorem value_any (x : Nat) (w : World) (hx : x < 18446744073709551616) (hT : TabW w) :
    Calls Tryz.prog 35 #[.int .u64 ((x : Nat) : Int)] w (DyPost w false (fAbs (vM x)) (fExp (vM x) (vE x))) := by
  have h11 := and_low (x := x / 4503599627370496) (k := 11) (by decide) (by omega)
  have h52 := and_low (x := x) (k := 52) (by decide) hx
  have hfn : ∀ m, fNeg false m = false := fun m => by unfold fNeg; split <;> rfl
  have hmt : x % 4503599627370496 < 4503599627370496 := Nat.mod_lt _ (by decide)
  have hor := or_high hmt
  have hel : expN x < 2048 := Nat.mod_lt _ (by decide)
  rw [show (2 : Nat) ^ 11 = 2048 from rfl, show x / 4503599627370496 % 2048 = expN x from rfl] at h11
  rw [show (2 : Nat) ^ 52 = 4503599627370496 from rfl] at h52
  have hshr : ((x : Nat) : Int) / 4503599627370496 = ((x / 4503599627370496 : Nat) : Int) := by omega
  obtain ⟨V, hV⟩ : ∃ V, vM x = V := ⟨_, rfl⟩
  obtain ⟨E, hE⟩ : ∃ V, vE x = V := ⟨_, rfl⟩
  rw [hV, hE]
  unfold vM at hV
  unfold vE at hE
  have HV := Lib.hid hV
  have HE := Lib.hid hE
  clear hV hE
  generalize x % 4503599627370496 = f at *
  generalize expN x = e at *
  generalize x / 4503599627370496 = d at *
  have h11' : bits BinOp.and IntKind.u64 ((d : Nat) : Int) 2047 = ((e : Nat) : Int) := h11
  have h52' : bits BinOp.and IntKind.u64 ((x : Nat) : Int) 4503599627370495 = ((f : Nat) : Int) := h52
  have hwe : IntKind.i64.wrap ((e : Nat) : Int) = ((e : Nat) : Int) := wi64 (by omega) (by omega)
  clear h11 h52
  go_enter Tryz.func35, Tryz.ntmps35
  have hb1 := (Below.refl w.heap.size w).alloc (Nat.le_refl _) (.cells #[.bool false, .slice none 0 0, .int .i64 0] 62)
  have hk1 := Blk.new w #[.bool false, .slice none 0 0, .int .i64 0] 62
  by_cases he : e = 0
  · have hv := HV.out
    have hee := HE.out
    rw [if_pos he] at hv hee
    subst he
    subst hv hee
    have h11'' : bits BinOp.and IntKind.u64 ((d : Nat) : Int) 2047 = 0 := h11'
    clear h11' hwe
    generalize hVf : f = V at *
    generalize hEE : (-1074 : Int) = E at *
    have hE1 : (1 : Int) - 1075 = E := by omega
    have hb2 := hb1.alloc (by simp) (.cells (wArr [V]) 22)
    have hk2 := hk1.alloc (.cells (wArr [V]) 22)
    have hwv := Blk.new2 w (.cells #[.bool false, .slice none 0 0, .int .i64 0] 62) (wArr [V]) 22
    have hwords := Words.ofBlk_all (lo := w.heap.size + 1) hwv (Nat.le_refl _) (okW_cons (by omega) okW_nil) (by simp)
    have hform := Form_any (w.heap.size + 1) false _ [V] E _ hwords (by simp) (by omega) (by omega) (hT.call hb2)
    have hv1 : valN [V] = V := by simp [valN]
    rw [hv1, hfn] at hform
    clear hwords hwv
    go_wp2_with fail
    refine hform.mono ?_
    rintro en w3 ⟨v3, rfl, ⟨a3, rfl, ha3⟩, hb3⟩
    clear hform
    have hb4 := hb2.trans (hb3.mono hb2.size)
    have hk3 := hk2.call hb3
    obtain ⟨x3, n3, c3, rfl⟩ := ha3.slice
    have k0 := hk3.cell 0 _ rfl
    have k1 := hk3.cell 1 _ rfl
    have k2 := hk3.cell 2 _ rfl
    have f0 := hk3.free 0
    have f1 := hk3.free 1
    have f2 := hk3.free 2
    go_wp2_with fail
    have hd3 := ((hk3.set 0 (.bool false)).set 1 (.slice x3 n3 c3)).set 2 (.int .i64 (fExp V E))
    have o0 := hd3.cell 0 _ rfl
    have o1 := hd3.cell 1 _ rfl
    have o2 := hd3.cell 2 _ rfl
    refine bodyPost_ret (v := .agg #[.bool false, .slice x3 n3 c3, .int .i64 (fExp V E)]) (by simp [results, Tryz.results35, go_sem, o0, o1, o2]; try rfl) rfl ⟨_, rfl, ⟨_, rfl, ?_⟩, ((hb4.setCell (by simp) _).setCell (by simp) _).setCell (by simp) _⟩
    exact Num.mono (((ha3.gb (gb_set _ _ _ _ _) hk2.lt).gb (gb_set _ _ _ _ _) hk2.lt).gb (gb_set _ _ _ _ _) hk2.lt) hb2.size
  · have he2 : (((e : Nat) : Int) == 0) = false := beq_eq_false_iff_ne.2 (by omega)
    have hv := HV.out
    have hee := HE.out
    rw [if_neg he] at hv hee
    have hb2 := hb1.alloc (by simp) (.cells (wArr [V]) 22)
    have hk2 := hk1.alloc (.cells (wArr [V]) 22)
    have hwv := Blk.new2 w (.cells #[.bool false, .slice none 0 0, .int .i64 0] 62) (wArr [V]) 22
    have hwords := Words.ofBlk_all (lo := w.heap.size + 1) hwv (Nat.le_refl _) (okW_cons (by omega) okW_nil) (by simp)
    have hform := Form_any (w.heap.size + 1) false _ [V] E _ hwords (by simp) (by omega) (by omega) (hT.call hb2)
    have hv1 : valN [V] = V := by simp [valN]
    rw [hv1, hfn] at hform
    clear hwords hwv
    go_wp2_with fail
    refine hform.mono ?_
    rintro en w3 ⟨v3, rfl, ⟨a3, rfl, ha3⟩, hb3⟩
    clear hform
    have hb4 := hb2.trans (hb3.mono hb2.size)
    have hk3 := hk2.call hb3
    obtain ⟨x3, n3, c3, rfl⟩ := ha3.slice
    have k0 := hk3.cell 0 _ rfl
    have k1 := hk3.cell 1 _ rfl
    have k2 := hk3.cell 2 _ rfl
    have f0 := hk3.free 0
    have f1 := hk3.free 1
    have f2 := hk3.free 2
    go_wp2_with fail
    have hd3 := ((hk3.set 0 (.bool false)).set 1 (.slice x3 n3 c3)).set 2 (.int .i64 (fExp V E))
    have o0 := hd3.cell 0 _ rfl
    have o1 := hd3.cell 1 _ rfl
    have o2 := hd3.cell 2 _ rfl
    refine bodyPost_ret (v := .agg #[.bool false, .slice x3 n3 c3, .int .i64 (fExp V E)]) (by simp [results, Tryz.results35, go_sem, o0, o1, o2]; try rfl) rfl ⟨_, rfl, ⟨_, rfl, ?_⟩, ((hb4.setCell (by simp) _).setCell (by simp) _).setCell (by simp) _⟩
    exact Num.mono (((ha3.gb (gb_set _ _ _ _ _) hk2.lt).gb (gb_set _ _ _ _ _) hk2.lt).gb (gb_set _ _ _ _ _) hk2.lt) hb2.size
end Go.Proofs.YtkfbailpifmdcaaGreatDoor
end

section
namespace Go.Proofs.YtkfbailpifmdcaaGreatDoor
open Go.RowKit

/-- A number times 10^k, as a fraction. -/
def scN (m : Nat) (x k : Int) : Nat := m * 2 ^ x.toNat * 10 ^ k.toNat
def scD (x k : Int) : Nat := 2 ^ (-x).toNat * 10 ^ (-k).toNat
theorem scD_pos (x k : Int) : 0 < scD x k := Nat.mul_pos (Nat.two_pow_pos _) (Nat.pow_pos (by decide))
def ScaledPost (w : World) (N D : Nat) (e : Ending) (w' : World) : Prop :=
  ∃ v, e = .returned (.tuple #[v, .int .i64 (cmpN (N % D * 2) D), .bool (!(N % D == 0))]) ∧ Num w.heap.size w' v (N / D) ∧ Below w.heap.size w w'

set_option maxRecDepth 100000 in
set_option maxHeartbeats 4000000 in
theorem scaled_any (lo : Nat) (v : Value) (neg : Bool) (m : Nat) (x k : Int) (w : World) (hd : Dy lo w v neg m x) (hm : bl m ≤ 2000) (hx1 : -5000 ≤ x) (hx2 : x ≤ 5000) (hk1 : -20000 ≤ k) (hk2 : k ≤ 20000) (hT : TabW w) :
    Calls Tryz.prog 37 #[v, .int .i64 k] w (ScaledPost w (scN m x k) (scD x k)) := by
  obtain ⟨a, rfl, ha⟩ := hd
  obtain ⟨x1, c1, rfl⟩ := ha.slice'
  have hlm := limbs_bl (n := m) (k := 100) (by omega)
  go_enter Tryz.func37, Tryz.ntmps37
  have hb1 := (Below.refl w.heap.size w).alloc (Nat.le_refl _) (.cells #[.bool neg, .slice x1 (limbsOf m).length c1, .int .i64 x] 62)
  have hp1 := Blk.new w #[.bool neg, .slice x1 (limbsOf m).length c1, .int .i64 x] 62
  go_wp2_with (at_builtin; refine wpList_clone2 rfl _ _ _ _ rfl Tryz.underlying50 Tryz.underlying51 rfl 0 (limbsOf m) ((ha.call hb1).words.mono (Nat.zero_le _)) (by omega) ?_; intro v2 w2 hv2 hb2)
  have hb12 := hb1.trans (hb2.mono hb1.size)
  have hp2 := hp1.call hb2
  go_wp2_with fail
  refine (Of_any 1 w2 (by decide) (by decide)).mono ?_
  rintro e w3 ⟨v3, rfl, hv3, hb3⟩
  have hb13 := hb12.trans (hb3.mono hb12.size)
  have hp3 := hp2.call hb3
  have hv2' := (hv2.call hb3).mono (Nat.zero_le _)
  have p0 := hp3.cell 0 _ rfl
  have p1 := hp3.cell 1 _ rfl
  have p2 := hp3.cell 2 _ rfl
  clear hb2 hb3 hb1 hv2 hp1 hp2
  go_upto_if 17 with fail
  go_cut [7, 8] (fun u7 u8 wx => Num 0 wx u7 (m * 2 ^ x.toNat) ∧ Num 0 wx u8 (2 ^ (-x).toNat) ∧ Below w3.heap.size w3 wx)
  case first =>
    by_cases h0 : 0 ≤ x
    · obtain ⟨n, rfl⟩ : ∃ n : Nat, x = (n : Int) := ⟨x.toNat, by omega⟩
      have e1 : (((n : Nat) : Int)).toNat = n := Int.toNat_natCast n
      have e2 : (-((n : Nat) : Int)).toNat = 0 := by omega
      have hshl := Shl_any 0 v2 (limbsOf m) n w3 hv2' (by omega) (by omega)
      rw [valN_limbsOf] at hshl
      have hb : (0 : Int) ≤ ((n : Nat) : Int) := h0
      have HS := Lib.hid hshl
      have HE := Lib.hid (And.intro e1 e2)
      clear hshl e1 e2 h0
      go_wp2_with fail
      refine HS.out.mono ?_
      rintro e w4 ⟨v4, rfl, hv4, hb4⟩
      go_wp2_with fail
      go_meet
      rw [HE.out.1, HE.out.2]
      exact ⟨hv4.mono (Nat.zero_le _), (hv3.call hb4).mono (Nat.zero_le _), hb4⟩
    · obtain ⟨n, hn⟩ : ∃ n : Nat, -x = (n : Int) := ⟨(-x).toNat, by omega⟩
      have e1 : x.toNat = 0 := by omega
      have e2 : (-x).toNat = n := by omega
      have hshl := Shl_any 0 v3 (limbsOf 1) n w3 (hv3.words.mono (Nat.zero_le _)) (by have := ten_len 0; rw [Nat.pow_zero] at this; omega) (by omega)
      rw [valN_limbsOf, Nat.one_mul] at hshl
      have HS := Lib.hid hshl
      have HE := Lib.hid (And.intro e1 e2)
      clear hshl e1 e2
      go_wp2_with fail
      refine HS.out.mono ?_
      rintro e w4 ⟨v4, rfl, hv4, hb4⟩
      go_wp2_with fail
      go_meet
      rw [HE.out.1, HE.out.2, Nat.pow_zero, Nat.mul_one]
      exact ⟨(hv2'.call hb4), hv4.mono (Nat.zero_le _), hb4⟩
  case rest =>
    obtain ⟨hn1, hd1, hb4⟩ := hcut
    have hb14 := hb13.trans (hb4.mono hb13.size)
    clear hv2' hv3 hp3 p0 p1 p2
    have hA := bl_mul m (2 ^ x.toNat)
    rw [bl_two] at hA
    have hA1 : bl (m * 2 ^ x.toNat) ≤ 7001 := by omega
    have hB1 : bl (2 ^ (-x).toNat) ≤ 5001 := by rw [bl_two]; omega
    have hND : scN m x k = m * 2 ^ x.toNat * 10 ^ k.toNat := rfl
    have hDD : scD x k = 2 ^ (-x).toNat * 10 ^ (-k).toNat := rfl
    have hD0 := scD_pos x k
    generalize m * 2 ^ x.toNat = A at *
    generalize 2 ^ (-x).toNat = B at *
    generalize scN m x k = N at *
    generalize scD x k = D at *
    have hlA := limbs_bl (n := A) (k := 200) (by omega)
    have hlB := limbs_bl (n := B) (k := 200) (by omega)
    have hNb : bl N ≤ 100000 := by
      rw [hND]
      have h1 := bl_mul A (10 ^ k.toNat)
      have h2 := bl_ten (n := 10 ^ k.toNat) (d := k.toNat + 1) (Nat.pow_lt_pow_right (by decide) (by omega))
      omega
    have hDb : bl D ≤ 100000 := by
      rw [hDD]
      have h1 := bl_mul B (10 ^ (-k).toNat)
      have h2 := bl_ten (n := 10 ^ (-k).toNat) (d := (-k).toNat + 1) (Nat.pow_lt_pow_right (by decide) (by omega))
      omega
    have hlN := limbs_bl (n := N) (k := 2000) (by omega)
    have hlD := limbs_bl (n := D) (k := 2000) (by omega)
    have HND := Lib.hid hND
    have HDD := Lib.hid hDD
    have HD0 := Lib.hid hD0
    clear hND hDD hA hD0
    go_upto_if 28 with fail
    go_cut [7, 8] (fun u7 u8 wx => Num 0 wx u7 N ∧ Num 0 wx u8 D ∧ Below wc.heap.size wc wx)
    case first =>
      by_cases h0 : 0 ≤ k
      · obtain ⟨n, rfl⟩ : ∃ n : Nat, k = (n : Int) := ⟨k.toNat, by omega⟩
        have e1 := HND.out
        have e2 := HDD.out
        rw [show (((n : Nat) : Int)).toNat = n from Int.toNat_natCast n] at e1
        rw [show (-((n : Nat) : Int)).toNat = 0 by omega, Nat.pow_zero, Nat.mul_one] at e2
        have HE := Lib.hid (And.intro e1 e2)
        have hb : (0 : Int) ≤ ((n : Nat) : Int) := h0
        have hlt := ten_len n
        clear e1 e2 h0 HND HDD
        go_wp2_with fail
        refine (ten_any n wc (by omega)).mono ?_
        rintro e w5 ⟨v5, rfl, hv5, hb5⟩
        have hmul := Mul_any 0 u7 v5 (limbsOf A) (limbsOf (10 ^ n)) w5 (hn1.call hb5).words (hv5.words.mono (Nat.zero_le _)) (by omega) (by omega)
        rw [valN_limbsOf, valN_limbsOf, ← HE.out.1] at hmul
        go_wp2_with fail
        refine hmul.mono ?_
        rintro e w6 ⟨v6, rfl, hv6, hb6⟩
        clear hmul
        go_wp2_with fail
        go_meet
        rw [HE.out.2]
        exact ⟨hv6.mono (Nat.zero_le _), (hd1.call hb5).call hb6, hb5.trans (hb6.mono hb5.size)⟩
      · obtain ⟨n, hn⟩ : ∃ n : Nat, -k = (n : Int) := ⟨(-k).toNat, by omega⟩
        have e1 := HND.out
        have e2 := HDD.out
        rw [show k.toNat = 0 by omega, Nat.pow_zero, Nat.mul_one] at e1
        rw [show (-k).toNat = n by omega] at e2
        have HE := Lib.hid (And.intro e1 e2)
        have hlt := ten_len n
        clear e1 e2 HND HDD
        go_wp2_with fail
        refine (ten_any n wc (by omega)).mono ?_
        rintro e w5 ⟨v5, rfl, hv5, hb5⟩
        have hmul := Mul_any 0 u8 v5 (limbsOf B) (limbsOf (10 ^ n)) w5 (hd1.call hb5).words (hv5.words.mono (Nat.zero_le _)) (by omega) (by omega)
        rw [valN_limbsOf, valN_limbsOf, ← HE.out.2] at hmul
        go_wp2_with fail
        refine hmul.mono ?_
        rintro e w6 ⟨v6, rfl, hv6, hb6⟩
        clear hmul
        go_wp2_with fail
        go_meet
        rw [HE.out.1]
        exact ⟨(hn1.call hb5).call hb6, hv6.mono (Nat.zero_le _), hb5.trans (hb6.mono hb5.size)⟩
    case rest =>
      obtain ⟨hn2, hd2, hb5⟩ := hcut
      have hb15 := hb14.trans (hb5.mono hb14.size)
      clear hn1 hd1 HND HDD hb4 hb5
      have hdiv := Div_any 0 _ _ (limbsOf N) (limbsOf D) _ hn2.words hd2.words (by omega) (by omega) (by rw [valN_limbsOf]; exact Nat.ne_of_gt HD0.out) (hT.call hb15)
      rw [valN_limbsOf, valN_limbsOf] at hdiv
      have hrD : N % D < D := Nat.mod_lt _ HD0.out
      have hlR : (limbsOf (N % D)).length ≤ 2000 := Nat.le_trans (limbsOf_len (Nat.lt_trans hrD (limbsOf_lt D))) hlD
      obtain ⟨q, hq⟩ : ∃ q, N / D = q := ⟨_, rfl⟩
      obtain ⟨r, hr⟩ : ∃ q, N % D = q := ⟨_, rfl⟩
      rw [hq, hr] at hdiv
      rw [hr] at hlR
      have HQ := Lib.hid hq
      have HRR := Lib.hid hr
      clear hq hr hrD
      go_wp2_with fail
      refine hdiv.mono ?_
      rintro e w7 ⟨v7, v8, rfl, hv7, hv8, hb7⟩
      clear hdiv
      have hb17 := hb15.trans (hb7.mono hb15.size)
      have hshl := Shl_any 0 v8 (limbsOf r) 1 w7 (hv8.words.mono (Nat.zero_le _)) (by omega) (by omega)
      rw [valN_limbsOf] at hshl
      have HS := Lib.hid hshl
      clear hshl
      obtain ⟨x8, c8, rfl⟩ := hv8.slice'
      go_wp2_with fail
      refine HS.out.mono ?_
      rintro e w8 ⟨v9, rfl, hv9, hb8⟩
      have hb18 := hb17.trans (hb8.mono hb17.size)
      have hcmp := Cmp_any 0 _ _ (limbsOf (r * 2 ^ 1)) (limbsOf D) w8 (hv9.words.mono (Nat.zero_le _)) ((hd2.call hb7).call hb8).words
      rw [valN_limbsOf, valN_limbsOf] at hcmp
      go_wp2_with fail
      refine hcmp.mono ?_
      rintro e w9 ⟨rfl, hb9⟩
      have hb19 := hb18.trans (hb9.mono hb18.size)
      have hz := @limbsOf_len_zero r
      go_wp2_with fail
      have hpost : ScaledPost w N D (.returned (.tuple #[v7, .int .i64 (cmpN (r * 2) D), .bool (decide (0 < (limbsOf r).length))])) w9 := by
        unfold ScaledPost
        rw [HQ.out, HRR.out]
        refine ⟨v7, ?_, ((hv7.mono hb15.size).call hb8).call hb9, hb19⟩
        have e1 : decide (0 < (limbsOf r).length) = !(r == 0) := by
          rw [Bool.eq_iff_iff]
          simp only [decide_eq_true_eq, Bool.not_eq_true', beq_eq_false_iff_ne, ne_eq]
          omega
        rw [e1]
      exact bodyPost_ret (v := .tuple #[v7, .int .i64 (cmpN (r * 2) D), .bool (decide (0 < (limbsOf r).length))]) (by simp [results, Tryz.results37, go_sem]; try rfl) rfl hpost
end Go.Proofs.YtkfbailpifmdcaaGreatDoor
end

section
namespace Go.Proofs.YtkfbailpifmdcaaGreatDoor
open Go.RowKit

/-- A number is at least 10^e. -/
def geT (m : Nat) (x e : Int) : Prop := scD x (-e) ≤ scN m x (-e)
theorem geT_succ (m : Nat) (x e : Int) : geT m x (e + 1) ↔ 10 * scD x (-e) ≤ scN m x (-e) := by
  unfold geT scD scN
  by_cases h : 0 ≤ e
  · rw [show (-(e + 1)).toNat = 0 by omega, show (-e).toNat = 0 by omega, show (-(-(e + 1))).toNat = (-(-e)).toNat + 1 by omega, Nat.pow_succ]
    generalize 10 ^ (-(-e)).toNat = A
    generalize 2 ^ (-x).toNat = B
    rw [← Nat.mul_assoc, Nat.mul_comm (B * A) 10]
  · rw [show (-e).toNat = (-(e + 1)).toNat + 1 by omega, show (-(-(e + 1))).toNat = 0 by omega, show (-(-e)).toNat = 0 by omega, Nat.pow_succ, Nat.pow_zero, Nat.mul_one, ← Nat.mul_assoc, Nat.mul_comm _ 10]
    generalize m * 2 ^ x.toNat * 10 ^ (-(e + 1)).toNat = A
    omega
theorem geT_down {m : Nat} {x e : Int} (h : geT m x (e + 1)) : geT m x e := by
  have h1 := (geT_succ m x e).1 h
  have h2 := scD_pos x (-e)
  unfold geT
  omega
theorem geT_le {m : Nat} {x : Int} : ∀ (n : Nat) {e : Int}, geT m x (e + n) → geT m x e
  | 0, e, h => by simpa using h
  | n + 1, e, h => by
    refine geT_le n (e := e) (geT_down ?_)
    rw [show e + (n : Int) + 1 = e + ((n + 1 : Nat) : Int) by omega]
    exact h
theorem geT_mono {m : Nat} {x e f : Int} (h : geT m x f) (hle : e ≤ f) : geT m x e := by
  refine geT_le (f - e).toNat ?_
  rw [show e + ((f - e).toNat : Int) = f by omega]
  exact h
/-- The exponent of the first decimal digit. -/
def IsTop (m : Nat) (x e : Int) : Prop := geT m x e ∧ ¬ geT m x (e + 1)
theorem two_le_ten (n : Nat) : 2 ^ n ≤ 10 ^ n := Nat.pow_le_pow_left (by decide) n
theorem geT_low {m : Nat} {x : Int} (h : m ≠ 0) : geT m x (-(((-x).toNat : Nat) : Int)) := by
  unfold geT scD scN
  rw [show (-(-(-(((-x).toNat : Nat) : Int)))).toNat = 0 by omega, show (-(-(((-x).toNat : Nat) : Int))).toNat = (-x).toNat by omega, Nat.pow_zero, Nat.mul_one]
  refine Nat.le_trans (two_le_ten _) ?_
  have h1 : 1 ≤ m * 2 ^ x.toNat := Nat.mul_pos (Nat.pos_of_ne_zero h) (Nat.two_pow_pos _)
  exact Nat.le_mul_of_pos_left _ h1
theorem geT_high (m : Nat) (x : Int) : ¬ geT m x ((bl m + x.toNat : Nat) : Int) := by
  unfold geT scD scN
  rw [show (-(-((bl m + x.toNat : Nat) : Int))).toNat = bl m + x.toNat by omega, show (-((bl m + x.toNat : Nat) : Int)).toNat = 0 by omega, Nat.pow_zero, Nat.mul_one]
  have h1 : m * 2 ^ x.toNat < 2 ^ (bl m + x.toNat) := by
    rw [Nat.pow_add]
    exact Nat.mul_lt_mul_of_pos_right (bl_lt m) (Nat.two_pow_pos _)
  have h2 := two_le_ten (bl m + x.toNat)
  have h3 : 10 ^ (bl m + x.toNat) ≤ 2 ^ (-x).toNat * 10 ^ (bl m + x.toNat) := Nat.le_mul_of_pos_left _ (Nat.two_pow_pos _)
  omega
theorem top_search {m : Nat} {x : Int} : ∀ (n : Nat) (e : Int), geT m x e → ¬ geT m x (e + n) → ∃ t, e ≤ t ∧ t < e + n ∧ IsTop m x t
  | 0, e, h1, h2 => absurd (by simpa using h1) h2
  | n + 1, e, h1, h2 => by
    by_cases h : geT m x (e + 1)
    · obtain ⟨t, h3, h4, h5⟩ := top_search n (e + 1) h (by rw [show e + 1 + (n : Int) = e + ((n + 1 : Nat) : Int) by omega]; exact h2)
      exact ⟨t, by omega, by omega, h5⟩
    · exact ⟨e, Int.le_refl _, by omega, h1, h⟩
theorem top_exists {m : Nat} {x : Int} (h : m ≠ 0) : ∃ t, -(((-x).toNat : Nat) : Int) ≤ t ∧ t < ((bl m + x.toNat : Nat) : Int) ∧ IsTop m x t := by
  obtain ⟨t, h1, h2, h3⟩ := top_search ((-x).toNat + (bl m + x.toNat)) (-(((-x).toNat : Nat) : Int)) (geT_low h) (by
    rw [show -(((-x).toNat : Nat) : Int) + (((-x).toNat + (bl m + x.toNat) : Nat) : Int) = ((bl m + x.toNat : Nat) : Int) by omega]
    exact geT_high m x)
  exact ⟨t, h1, by omega, h3⟩
theorem q_zero {m : Nat} {x e : Int} : scN m x (-e) / scD x (-e) = 0 ↔ ¬ geT m x e := by
  unfold geT
  rw [Nat.div_eq_zero_iff]
  have := scD_pos x (-e)
  omega
theorem q_ten {m : Nat} {x e : Int} : 10 ≤ scN m x (-e) / scD x (-e) ↔ geT m x (e + 1) := by
  rw [geT_succ, Nat.le_div_iff_mul_le (scD_pos _ _)]

set_option maxRecDepth 100000 in
set_option maxHeartbeats 4000000 in
theorem decimalTop_any (lo : Nat) (v : Value) (neg : Bool) (m : Nat) (x t : Int) (w : World) (hd : Dy lo w v neg m x) (hm : bl m ≤ 2000) (hx1 : -5000 ≤ x) (hx2 : x ≤ 5000) (ht : IsTop m x t) (ht1 : -8000 ≤ t) (ht2 : t ≤ 8000) (hT : TabW w) :
    Calls Tryz.prog 36 #[v] w fun e w' => e = .returned (.int .i64 t) ∧ Below w.heap.size w w' := by
  obtain ⟨a, rfl, ha⟩ := hd
  obtain ⟨x1, c1, rfl⟩ := ha.slice'
  have hlm := limbs_bl (n := m) (k := 100) (by omega)
  go_enter Tryz.func36, Tryz.ntmps36
  have hb1 := (Below.refl w.heap.size w).alloc (Nat.le_refl _) (.cells #[.bool neg, .slice x1 (limbsOf m).length c1, .int .i64 x] 62)
  have hp1 := Blk.new w #[.bool neg, .slice x1 (limbsOf m).length c1, .int .i64 x] 62
  have htop := Top_any lo _ neg (limbsOf m) x _ ⟨_, rfl, (ha.call hb1).words⟩ (by omega) (by omega) (by omega)
  rw [valN_limbsOf] at htop
  go_wp2_with fail
  refine htop.mono ?_
  rintro e w1 ⟨rfl, hb2⟩
  clear htop
  have hb12 := hb1.trans (hb2.mono hb1.size)
  have hp2 := hp1.call hb2
  have HT := Lib.hid ht
  clear ht hb1 hp1 hb2
  go_wp2_with fail
  have hst : -8000 ≤ ((x + ((bl m : Nat) : Int) - 1) * 30103).tdiv 100000 ∧ ((x + ((bl m : Nat) : Int) - 1) * 30103).tdiv 100000 ≤ 8000 := by
    have h1 := Int.natAbs_tdiv ((x + ((bl m : Nat) : Int) - 1) * 30103) 100000
    generalize ((x + ((bl m : Nat) : Int) - 1) * 30103).tdiv 100000 = z at *
    have h2 : ((x + ((bl m : Nat) : Int) - 1) * 30103).natAbs ≤ 8000 * 30103 := by omega
    generalize ((x + ((bl m : Nat) : Int) - 1) * 30103).natAbs = y at *
    have h3 : Int.natAbs 100000 = 100000 := rfl
    rw [h3] at h1
    have h4 : y / 100000 ≤ 8000 := by omega
    have h5 : z.natAbs ≤ 8000 := by rw [h1]; exact h4
    rcases Int.natAbs_eq z with h | h <;> omega
  go_loopw [3] (fun u3 wr => ∃ e : Int, u3 = .int .i64 e ∧ -8000 ≤ e ∧ e ≤ 8000 ∧ Below w.heap.size w wr ∧ Blk wr w.heap.size #[.bool neg, .slice x1 (limbsOf m).length c1, .int .i64 x] 62) (fun u3 _ => (intOf u3 - t).natAbs)
  case atStart => exact ⟨_, rfl, hst.1, hst.2, hb12, hp2⟩
  case round =>
    clear hst hb12 hp2
    obtain ⟨e, rfl, he1, he2, hbw, hk⟩ := hrel
    have k0 := hk.cell 0 _ rfl
    have k1 := hk.cell 1 _ rfl
    have k2 := hk.cell 2 _ rfl
    have hsc := scaled_any lo _ neg m x (-e) wr ⟨_, rfl, ha.call hbw⟩ hm hx1 hx2 (by omega) (by omega) (hT.call hbw)
    have hz := @q_zero m x e
    have hten := @q_ten m x e
    unfold ScaledPost at hsc
    generalize scN m x (-e) / scD x (-e) = q at *
    generalize cmpN (scN m x (-e) % scD x (-e) * 2) (scD x (-e)) = cc at *
    generalize (!(scN m x (-e) % scD x (-e) == 0)) = lb at *
    have HZ := Lib.hid hz
    have HTEN := Lib.hid hten
    have HSC := Lib.hid hsc
    clear hz hten hsc
    go_wp2_with fail
    refine HSC.out.mono ?_
    rintro en w2 ⟨v2, rfl, hv2, hb2⟩
    clear HSC
    obtain ⟨x2, c2, rfl⟩ := hv2.slice'
    have hqz := @limbsOf_len_zero q
    have hbw2 := hbw.trans (hb2.mono hbw.size)
    have hk2 := hk.call hb2
    by_cases hq0 : q = 0
    · have hlt : t < e := by
        have h1 := HZ.out.1 hq0
        rcases Int.lt_or_le t e with h | h
        · exact h
        · exact absurd (geT_mono HT.out.1 h) h1
      have e0 : ((((limbsOf q).length : Nat) : Int) == 0) = true := beq_iff_eq.2 (by have := hqz.2 hq0; omega)
      clear hqz hq0
      go_wp2_with fail
      go_roundw
      case rel => exact ⟨_, rfl, by omega, by omega, hbw2, hk2⟩
      case measure => simp [intOf]; omega
    · have e0 : ((((limbsOf q).length : Nat) : Int) == 0) = false := beq_eq_false_iff_ne.2 (by have := mt hqz.1 hq0; omega)
      clear hqz
      go_wp2_with fail
      refine (Of_any 10 _ (by decide) (by decide)).mono ?_
      rintro en w3 ⟨v3, rfl, hv3, hb3⟩
      have hcmp := Cmp_any 0 _ v3 (limbsOf q) (limbsOf 10) w3 ((hv2.call hb3).words.mono (Nat.zero_le _)) (hv3.words.mono (Nat.zero_le _))
      rw [valN_limbsOf, valN_limbsOf] at hcmp
      have hbw3 := hbw2.trans (hb3.mono hbw2.size)
      have hk3 := hk2.call hb3
      go_wp2_with fail
      refine hcmp.mono ?_
      rintro en w4 ⟨rfl, hb4⟩
      clear hcmp
      have hbw4 := hbw3.trans (hb4.mono hbw3.size)
      have hk4 := hk3.call hb4
      by_cases hq10 : 10 ≤ q
      · have hlt : e < t := by
          have h1 := HTEN.out.1 hq10
          rcases Int.lt_or_le e t with h | h
          · exact h
          · exact absurd (geT_mono h1 (by omega)) HT.out.2
        have hc : (0 : Int) ≤ cmpN q 10 := by unfold cmpN; split <;> (try split) <;> omega
        generalize cmpN q 10 = c at *
        go_wp2_with fail
        go_roundw
        case rel => exact ⟨_, rfl, by omega, by omega, hbw4, hk4⟩
        case measure => simp [intOf]; omega
      · have het : e = t := by
          have h1 : geT m x e := Classical.not_not.1 (fun h => hq0 (HZ.out.2 h))
          have h2 : ¬ geT m x (e + 1) := fun h => hq10 (HTEN.out.2 h)
          rcases Int.lt_or_le e t with h | h
          · exact absurd (geT_mono HT.out.1 (by omega)) h2
          · rcases Int.lt_or_le t e with h3 | h3
            · exact absurd (geT_mono h1 (by omega)) HT.out.2
            · omega
        have hc : cmpN q 10 = -1 := by unfold cmpN; rw [if_pos (by omega)]
        rw [hc]
        subst het
        go_wp2_with fail
        go_ret
        exact ⟨rfl, hbw4⟩
end Go.Proofs.YtkfbailpifmdcaaGreatDoor
end
