/- ParD ParE ParF -/
import Derived.Test.YtkfbailpifmdcaaGreatDoorMai
import Derived.Laws.IdiomStrings
import Derived.Deep.DeepCutAuto
import Derived.Deep.CutBlock
import Derived.Laws.EntriesVeiled
section
namespace Go.Proofs.YtkfbailpifmdcaaGreatDoor
open Go.RowKit

/-- A slice in memory that reads as whole numbers. -/
def Ints (w : World) (v : Value) (l : List Nat) : Prop :=
  ∃ x cap, v = .slice x l.length cap ∧ l.length ≤ cap ∧ cap ≤ 9223372036854775807 ∧
    ∀ i, i < l.length → ∃ b off, x = some ⟨b, off, none⟩ ∧ w.cell? ⟨b, off + i, none⟩ = some (.int .i64 ((gw l i : Nat) : Int))
theorem Ints.call {w w' : World} {v : Value} {l : List Nat} (h : Ints w v l) (hb : Below w.heap.size w w') : Ints w' v l := by
  obtain ⟨x, cap, h1, h2, h3, h4⟩ := h
  refine ⟨x, cap, h1, h2, h3, fun i hi => ?_⟩
  obtain ⟨b, off, e, hc⟩ := h4 i hi
  exact ⟨b, off, e, (hb.cell (World.block_lt_of_cell? w _ hc)).trans hc⟩
theorem Ints.ofRow {w : World} {B : Nat} {v : Value} {l : List Nat} (h : w.ownsRow B 3 1 v l.length (intL l)) : Ints w v l := by
  rcases h.2 with ⟨h1, h2⟩ | ⟨g, cap, cur, rfl, _, hh, hn, hm, _⟩
  · refine ⟨none, 0, by rw [h1, h2], by omega, by omega, fun i hi => absurd hi (by omega)⟩
  · refine ⟨_, cap, rfl, hn, hm, fun i hi => ⟨g, 0, rfl, ?_⟩⟩
    have hc := h.cells (g := g) rfl i (.int .i64 ((gw l i : Nat) : Int)) (by simp [intL, gw_of_lt hi, hi])
    rw [Nat.zero_add]
    by_cases h0 : i = 0
    · subst h0; simpa [Addr.add] using hc
    · simpa [Addr.add, h0] using hc
theorem Ints.tail {w : World} {x : Option Addr} {cap d n : Nat} {l : List Nat} (h : Ints w (.slice x n cap) (d :: l)) : ∃ b off, x = some ⟨b, off, none⟩ ∧ n = l.length + 1 ∧ l.length + 1 ≤ cap ∧ cap ≤ 9223372036854775807 ∧ w.cell? ⟨b, off, none⟩ = some (.int .i64 ((d : Nat) : Int)) ∧ Ints w (.slice (some ⟨b, off + 1, none⟩) l.length (cap - 1)) l := by
  obtain ⟨x', cap', h1, h2, h3, h4⟩ := h
  cases h1
  obtain ⟨b, off, e, hc⟩ := h4 0 (by simp)
  subst e
  refine ⟨b, off, rfl, by simp, by simpa using h2, h3, by rw [gw_zero] at hc; simpa using hc, _, _, rfl, by simp at h2; omega, by omega, fun i hi => ⟨b, off + 1, rfl, ?_⟩⟩
  obtain ⟨b', off', e', hc'⟩ := h4 (i + 1) (by simp; omega)
  cases e'
  rw [gw_succ] at hc'
  rwa [show off + 1 + i = off + (i + 1) by omega]

def natL (base : Nat) (l : List Nat) : Nat := l.foldl (fun n d => n * base + d) 0
theorem natL_take {base : Nat} {l : List Nat} {i : Nat} (hi : i < l.length) : natL base (l.take (i + 1)) = natL base (l.take i) * base + gw l i := by
  unfold natL
  rw [List.take_add_one, List.foldl_append, gw_of_lt hi]
  simp [List.getElem?_eq_getElem hi]
theorem natL_lt {base : Nat} : ∀ (l : List Nat), (∀ d ∈ l, d < base) → natL base l < base ^ l.length := by
  suffices h : ∀ (l : List Nat) (n k : Nat), (∀ d ∈ l, d < base) → n < base ^ k → l.foldl (fun n d => n * base + d) n < base ^ (k + l.length) by
    intro l hl
    have := h l 0 0 hl (by simp)
    simpa [natL] using this
  intro l
  induction l with
  | nil => intro n k _ h; simpa using h
  | cons a t ih =>
    intro n k hl h
    rw [List.foldl_cons, List.length_cons, show k + (t.length + 1) = (k + 1) + t.length by omega]
    refine ih _ _ (fun d hd => hl d (List.mem_cons_of_mem _ hd)) ?_
    have ha := hl a (by simp)
    rw [Nat.pow_succ]
    have : (n + 1) * base ≤ base ^ k * base := Nat.mul_le_mul_right _ h
    rw [Nat.add_mul] at this
    omega
theorem natL_bl {base : Nat} (hb : base ≤ 16) (l : List Nat) (hl : ∀ d ∈ l, d < base) : bl (natL base l) ≤ 4 * l.length := by
  refine bl_le (Nat.lt_of_lt_of_le (natL_lt l hl) ?_)
  rw [Nat.pow_mul]
  exact Nat.pow_le_pow_left hb _

def NatlRel (w : World) (base : Nat) (l : List Nat) (u5 u10 : Value) (wr : World) : Prop :=
  ∃ i, i ≤ l.length ∧ u10 = .int .i64 ((i : Nat) : Int) ∧ Num 0 wr u5 (natL base (l.take i)) ∧ Below w.heap.size w wr

set_option maxRecDepth 100000 in
set_option maxHeartbeats 2000000 in
theorem natural_any (v : Value) (base : Nat) (l : List Nat) (w : World) (hv : Ints w v l) (hb0 : 0 < base) (hb : base ≤ 16) (hl : ∀ d ∈ l, d < base) (hn : l.length ≤ 10000) :
    Calls Tryz.prog 56 #[v, .int .u64 ((base : Nat) : Int)] w (NumPost w 0 (natL base l)) := by
  obtain ⟨x, cap, rfl, hc1, hc2, hx⟩ := hv
  have HX := Lib.hid hx
  have HL := Lib.hid hl
  clear hx hl
  go_enter Tryz.func56, Tryz.ntmps56
  go_wp2_with fail
  go_loopw [5, 10] (fun u5 u10 wr => NatlRel w base l u5 u10 wr) (fun _ u10 _ => l.length - (intOf u10).toNat)
  case atStart => exact ⟨0, Nat.zero_le _, rfl, Num.zero _ _ _ _ (by decide), Below.refl _ _⟩
  case round =>
    obtain ⟨i, hi, rfl, hu, hbw⟩ := hrel
    by_cases hlt : i < l.length
    · obtain ⟨b, off, rfl, hcell⟩ := HX.out i hlt
      have hcw := (hbw.cell (World.block_lt_of_cell? w _ hcell)).trans hcell
      have hdb := HL.out (gw l i) (by rw [gw_of_lt hlt]; exact List.getElem_mem hlt)
      have htk := natL_take (base := base) hlt
      have hbl1 := natL_bl hb (l.take i) (fun d hd => HL.out d (List.mem_of_mem_take hd))
      have hlen : (limbsOf (natL base (l.take i))).length ≤ 10000 := limbs_bl (by rw [List.length_take] at hbl1; omega)
      have hbw1 : (limbsOf base).length ≤ 1 := limbs_small (by omega)
      have hdw1 : (limbsOf (gw l i)).length ≤ 1 := limbs_small (by omega)
      generalize hd : gw l i = d at *
      clear hd
      have hwd : IntKind.u64.wrap ((d : Nat) : Int) = ((d : Nat) : Int) := wu64 (by omega) (by omega)
      generalize natL base (l.take i) = n at *
      have HTK := Lib.hid htk
      have hlen2 : (limbsOf (n * base)).length ≤ 20000 := limbs_bl (Nat.le_trans (bl_mul n base) (by
        have : bl base ≤ 5 := bl_le (k := 5) (by omega)
        rw [List.length_take] at hbl1
        omega))
      clear htk hcell
      have hlti : ((i : Nat) : Int) < ((l.length : Nat) : Int) := by omega
      go_wp2_with fail
      refine (Of_any ((base : Nat) : Int) wr (by omega) (by omega)).mono ?_
      rintro e w2 ⟨v2, rfl, hv2, hb2⟩
      rw [Int.toNat_natCast] at hv2
      go_wp2_with fail
      have hmul := Mul_any 0 u5 v2 (limbsOf n) (limbsOf base) w2 (hu.call hb2).words (hv2.words.mono (Nat.zero_le _)) (by omega) (by omega)
      rw [valN_limbsOf, valN_limbsOf] at hmul
      refine hmul.mono ?_
      rintro e w3 ⟨v3, rfl, hv3, hb3⟩
      clear hmul
      have hbk := hbw.trans (hb2.mono hbw.size)
      have hbk2 := hbk.trans (hb3.mono hbk.size)
      go_wp2_with fail
      refine (Of_any ((d : Nat) : Int) w3 (by omega) (by omega)).mono ?_
      rintro e w4 ⟨v4, rfl, hv4, hb4⟩
      rw [Int.toNat_natCast] at hv4
      have hbk3 := hbk2.trans (hb4.mono hbk2.size)
      have hadd := Add_any 0 v3 v4 (limbsOf (n * base)) (limbsOf d) w4 ((hv3.call hb4).words.mono (Nat.zero_le _)) (hv4.words.mono (Nat.zero_le _)) (by omega) (by omega)
      rw [valN_limbsOf, valN_limbsOf, ← HTK.out] at hadd
      go_wp2_with fail
      refine hadd.mono ?_
      rintro e w5 ⟨v5, rfl, hv5, hb5⟩
      clear hadd
      have hbk4 := hbk3.trans (hb5.mono hbk3.size)
      go_wp2_with fail
      go_roundw
      case rel => exact ⟨i + 1, by omega, by go_num, hv5.mono (Nat.zero_le _), hbk4⟩
      case measure => simp [intOf]; omega
    · have hil : i = l.length := by omega
      subst hil
      rw [List.take_length] at hu
      go_wp2_with fail
      go_ret
      exact ⟨_, rfl, hu, hbw⟩
end Go.Proofs.YtkfbailpifmdcaaGreatDoor
end

section
namespace Go.Proofs.YtkfbailpifmdcaaGreatDoor
open Go.RowKit

/-- Bytes in a block of the call's own. -/
def BytesAt (w : World) (g n : Nat) (f : Nat → UInt8) : Prop := ∀ j, j < n → w.cell? ⟨g, j, none⟩ = some (.int .u8 ((f j).toNat : Int)) ∧ w.frozen? ⟨g, j, none⟩ = false
theorem BytesAt.set {w : World} {g n i : Nat} {f f' : Nat → UInt8} {x : Int} (h : BytesAt w g n f) (hi : i < n) (hx : x = ((f' i).toNat : Int)) (hf : ∀ j, j ≠ i → f' j = f j) : BytesAt (w.setCell ⟨g, i, none⟩ (.int .u8 x)) g n f' := by
  intro j hj
  rw [World.frozen?_setCell]
  refine ⟨?_, (h j hj).2⟩
  by_cases hji : j = i
  · subst hji; rw [World.cell?_setCell_same _ _ _ (h j hj).1, hx]
  · rw [World.cell?_setCell_other _ _ _ _ (fun e => hji (congrArg Addr.off e).symm), hf j hji]; exact (h j hj).1
theorem BytesAt.drew {w : World} {g n : Nat} {f : Nat → UInt8} (h : BytesAt w g n f) : BytesAt w.drew g n f := h

def byteAt (s : ByteArray) (j : Nat) : UInt8 := s.data.toList.getD j 0
theorem bytes_new (w : World) (s : ByteArray) : ∃ W1 cap, (∀ src dst, Tryz.prog.underlying src = some .string → Tryz.prog.underlying dst = some (.slice 5) → (convert src dst (.string s)).run Tryz.prog w = .ok (.slice (some ⟨w.heap.size, 0, none⟩) s.size cap) W1) ∧ BytesAt W1 w.heap.size s.size (byteAt s) ∧ Below w.heap.size w W1 ∧ w.heap.size < W1.heap.size ∧ s.size ≤ cap := by
  refine ⟨_, _, fun src dst hs hd => run_bytes_of_string w src dst 5 s hs hd Tryz.underlying5, fun j hj => ⟨?_, ?_⟩, ?_, ?_, ?_⟩
  · refine (World.cell?_alloc_mark w.drew _ _ _ j).trans ?_
    have hj' : j < s.data.size := hj
    rw [bytesRow_at s _ j hj']
    simp [byteAt, List.getD, Array.getElem?_eq_getElem hj']
  · refine (World.frozen?_alloc_mark w.drew _ _ _ _ j).trans ?_
    have : j < (bytesRow s (grownCap w s.size 0 5)).size := by simp [bytesRow]; have : j < s.data.size := hj; omega
    simp
    omega
  · exact (below_drewN w.heap.size w 1).trans ((Below.refl w.heap.size w.drew).alloc (Nat.le_refl _) _)
  · exact lt_of_block (heap_alloc_new w.drew _)
  · exact grownCap_ge _ _ _ _

def lowB (c : UInt8) : UInt8 := if 65 ≤ c.toNat ∧ c.toNat ≤ 90 then c + 32 else c
def smallL (l : List UInt8) : List UInt8 := l.map lowB
theorem lowB_eq (c : UInt8) : ((lowB c).toNat : Int) = if 65 ≤ c.toNat ∧ c.toNat ≤ 90 then (c.toNat : Int) + 32 else c.toNat := by
  unfold lowB
  by_cases h : 65 ≤ c.toNat ∧ c.toNat ≤ 90
  · rw [if_pos h, if_pos h, UInt8.toNat_add]
    have : (32 : UInt8).toNat = 32 := rfl
    omega
  · rw [if_neg h, if_neg h]
theorem lowB_zero : lowB 0 = 0 := rfl

set_option maxRecDepth 100000 in
set_option maxHeartbeats 2000000 in
theorem small_any (s : ByteArray) (w : World) (hs : s.size ≤ 100000) :
    Calls Tryz.prog 26 #[.string s] w fun e w' => e = .returned (.string ⟨(smallL s.data.toList).toArray⟩) ∧ Below w.heap.size w w' := by
  obtain ⟨W1, cap, hconv0, hby, hbw, hlt, hcap⟩ := bytes_new w s
  have hconv := hconv0 9 81 Tryz.underlying9 Tryz.underlying81
  have hcap := Lib.hid hcap
  have hsl : s.size = s.data.toList.length := by simp
  have HSL := Lib.hid hsl
  clear hconv0 hsl
  go_enter Tryz.func26, Tryz.ntmps26
  go_wp2_with fail
  go_loopw [10] (fun u10 wr => ∃ i : Nat, i ≤ s.size ∧ u10 = .int .i64 ((i : Nat) : Int) ∧ BytesAt wr w.heap.size s.size (fun j => if j < i then lowB (byteAt s j) else byteAt s j) ∧ Below w.heap.size w wr) (fun u10 _ => s.size - (intOf u10).toNat)
  case atStart => exact ⟨0, Nat.zero_le _, rfl, by simpa using hby, hbw⟩
  case round =>
    clear hby hbw
    obtain ⟨i, hi, rfl, hby, hbw⟩ := hrel
    by_cases hil : i < s.size
    · obtain ⟨hc, hf⟩ := hby i hil
      simp only [Nat.lt_irrefl, if_false] at hc
      have hlow := lowB_eq (byteAt s i)
      have hili : ((i : Nat) : Int) < ((s.size : Nat) : Int) := by omega
      by_cases hr : 65 ≤ (byteAt s i).toNat ∧ (byteAt s i).toNat ≤ 90
      · rw [if_pos hr] at hlow
        have hby2 := hby.set (i := i) (f' := fun j => if j < i + 1 then lowB (byteAt s j) else byteAt s j) (x := ((byteAt s i).toNat : Int) + 97 - 65) hil (by
          simp only [Nat.lt_succ_self, if_true]
          rw [hlow]
          omega) (fun j hj => by
            by_cases hji : j < i
            · simp only [if_pos hji, if_pos (show j < i + 1 by omega)]
            · simp only [if_neg hji, if_neg (show ¬ j < i + 1 by omega)])
        have HB := Lib.hid hby2
        obtain ⟨h1, h2⟩ := hr
        have h1i : (65 : Int) ≤ ((byteAt s i).toNat : Int) := by omega
        have h2i : ((byteAt s i).toNat : Int) ≤ 90 := by omega
        generalize (byteAt s i).toNat = c at *
        clear hby hby2 hlow hconv
        go_wp2_with fail
        go_roundw
        case rel => exact ⟨i + 1, by omega, by go_num, HB.out, hbw.setCell (Nat.le_refl _) _⟩
        case measure => simp [intOf]; omega
      · rw [if_neg hr] at hlow
        have hby2 : BytesAt wr w.heap.size s.size (fun j => if j < i + 1 then lowB (byteAt s j) else byteAt s j) := by
          intro j hj
          have h := hby j hj
          by_cases hji : j < i
          · simp only [if_pos hji] at h
            simp only [if_pos (show j < i + 1 by omega)]
            exact h
          · simp only [if_neg hji] at h
            by_cases hji2 : j = i
            · subst hji2
              simp only [Nat.lt_succ_self, if_true]
              rw [hlow]
              exact h
            · simp only [if_neg (show ¬ j < i + 1 by omega)]
              exact h
        have HB := Lib.hid hby2
        clear hby hby2 hlow hconv
        generalize (byteAt s i).toNat = c at *
        by_cases h65 : c < 65
        · have h65i : ((c : Nat) : Int) < 65 := by omega
          clear hr
          go_wp2_with fail
          go_roundw
          case rel => exact ⟨i + 1, by omega, by go_num, HB.out, hbw⟩
          case measure => simp [intOf]; omega
        · have h65i : (65 : Int) ≤ ((c : Nat) : Int) := by omega
          have h90i : (90 : Int) < ((c : Nat) : Int) := by omega
          clear hr
          go_wp2_with fail
          go_roundw
          case rel => exact ⟨i + 1, by omega, by go_num, HB.out, hbw⟩
          case measure => simp [intOf]; omega
    · have hie : i = s.size := by omega
      subst hie
      have hlen : (smallL s.data.toList).length = s.size := by simp [smallL]
      have hback := run_convert_bytes_back (P := Tryz.prog) wr 81 9 5 ⟨w.heap.size, 0, none⟩ cap (smallL s.data.toList) Tryz.underlying81 Tryz.underlying5 Tryz.underlying9 (fun j hj => by
        have h := (hby j (by omega)).1
        simp only [if_pos (show j < s.size by omega)] at h
        have e1 : (⟨w.heap.size, 0, none⟩ : Addr).add j = ⟨w.heap.size, j, none⟩ := by by_cases h0 : j = 0 <;> simp [Addr.add, h0]
        have e2 : (smallL s.data.toList)[j] = lowB (byteAt s j) := by
          have hj2 : j < s.data.size := (by omega : j < s.size)
          simp [smallL, byteAt, List.getD, Array.getElem?_eq_getElem hj2]
        rw [e1, e2, h])
      rw [hlen] at hback
      clear hby hconv
      go_wp2_with fail
      go_ret
      exact ⟨rfl, hbw⟩
end Go.Proofs.YtkfbailpifmdcaaGreatDoor
end

section
namespace Go.Proofs.YtkfbailpifmdcaaGreatDoor
open Go.RowKit

/-- What stands behind the digits: an exponent, or nothing. -/
def endB (hex : Bool) : UInt8 := if hex then 112 else 101
def endP (hex : Bool) : List UInt8 → Int × Bool
  | [] => (0, !hex)
  | c :: t => if c = endB hex then expP t else (0, false)
def zerosL : List Nat → List Nat
  | [] => []
  | d :: t => if d = 0 then zerosL t else d :: t
def numberP (neg : Bool) (s : List UInt8) : Option (Nat × Nat) :=
  let hex := Lib.hasPrefix s [48, 120]
  let r := scanL hex false (Lib.trimPrefix s [48, 120])
  if r.1 = [] then none else if (endP hex r.2.2).2 = false then none else
  if hex then some (twosP neg (natL 16 r.1) ((endP hex r.2.2).1 - 4 * ((r.2.1 : Nat) : Int)))
  else some (tensP neg (natL 10 (zerosL r.1)) (zerosL r.1).length ((endP hex r.2.2).1 - ((r.2.1 : Nat) : Int)))

def lenOf : Value → Nat
  | .slice _ n _ => n
  | _ => 0
def headB (hex : Bool) : List UInt8 → Bool
  | [] => false
  | c :: _ => c == endB hex

theorem wrap32_byte (c : UInt8) : wrap32 ((c.toNat : Nat) : Int) = ((c.toNat : Nat) : Int) := by
  have := c.toNat_lt
  unfold wrap32
  omega
theorem head_dec (c : UInt8) : (wrap32 ((c.toNat : Nat) : Int) == 101) = (c == endB false) := by
  rw [wrap32_byte, Bool.eq_iff_iff, beq_iff_eq, beq_iff_eq]
  exact ⟨fun h => UInt8.toNat_inj.1 (by show c.toNat = 101; omega), fun h => by rw [h]; rfl⟩
theorem head_hex (c : UInt8) : (wrap32 ((c.toNat : Nat) : Int) == 112) = (c == endB true) := by
  rw [wrap32_byte, Bool.eq_iff_iff, beq_iff_eq, beq_iff_eq]
  exact ⟨fun h => UInt8.toNat_inj.1 (by show c.toNat = 112; omega), fun h => by rw [h]; rfl⟩

theorem scanL_digit (hex : Bool) : ∀ (p : Bool) (s : List UInt8), ∀ d ∈ (scanL hex p s).1, d < (if hex then 16 else 10)
  | _, [] => by simp [scanL]
  | p, c :: t => by
    intro d hd
    rw [scanL] at hd
    split at hd
    · rcases List.mem_cons.1 hd with rfl | h
      · have h := digB_lt hex c
        cases hex
        · have h9 : digB false c ≤ 9 := by simp only [digB, decR, Bool.false_eq_true, if_false]; split <;> omega
          simp only [Bool.false_eq_true, if_false]; omega
        · simp only [if_true]; omega
      · exact scanL_digit hex p t d h
    · split at hd
      · exact scanL_digit hex true t d hd
      · simp at hd
theorem scanL_len (hex : Bool) : ∀ (p : Bool) (s : List UInt8), (scanL hex p s).1.length ≤ s.length ∧ (scanL hex p s).2.1 ≤ s.length ∧ (scanL hex p s).2.2.length ≤ s.length
  | _, [] => by simp [scanL]
  | p, c :: t => by
    rw [scanL]
    split
    · have h := scanL_len hex p t
      refine ⟨by simp; omega, ?_, by simp only [List.length_cons]; omega⟩
      simp only [List.length_cons]
      split <;> omega
    · split
      · have h := scanL_len hex true t
        simp only [List.length_cons]; omega
      · simp
theorem expP_le (s : List UInt8) : -1048576 ≤ (expP s).1 ∧ (expP s).1 ≤ 1048576 := by
  unfold expP
  split
  · simp
  · rename_i n h
    have := expG_le _ _ _ (by omega) h
    simp only
    split <;> omega
theorem endP_le (hex : Bool) (s : List UInt8) : -1048576 ≤ (endP hex s).1 ∧ (endP hex s).1 ≤ 1048576 := by
  unfold endP
  split
  · simp
  · split
    · exact expP_le _
    · simp
theorem zerosL_len : ∀ l : List Nat, (zerosL l).length ≤ l.length
  | [] => by simp [zerosL]
  | d :: t => by
    rw [zerosL]
    split
    · have := zerosL_len t; simp only [List.length_cons]; omega
    · exact Nat.le_refl _
theorem zerosL_mem : ∀ (l : List Nat), ∀ d ∈ zerosL l, d ∈ l
  | [], d, h => by simp [zerosL] at h
  | a :: t, d, h => by
    rw [zerosL] at h
    split at h
    · exact List.mem_cons_of_mem _ (zerosL_mem t d h)
    · exact h

theorem trim_len (l p : List UInt8) : (Lib.trimPrefix l p).length ≤ l.length := by
  unfold Lib.trimPrefix
  split
  · rw [List.length_drop]; omega
  · exact Nat.le_refl _

def NumbPost (w : World) (r : Option (Nat × Nat)) (e : Ending) (w' : World) : Prop :=
  e = .returned (.tuple #[.agg #[.int .u64 (((r.getD (0, 0)).1 : Nat) : Int), .int .u8 (((r.getD (0, 0)).2 : Nat) : Int)], .bool r.isSome]) ∧ Below w.heap.size w w'

set_option maxRecDepth 1000000 in
set_option maxHeartbeats 4000000 in
theorem number_dec (neg : Bool) (s : ByteArray) (w : World) (hs : s.size ≤ 4096) (hx : Lib.hasPrefix s.data.toList [48, 120] = false) (hT : TabW w) :
    Calls Tryz.prog 29 #[.bool neg, .string s] w (NumbPost w (numberP neg s.data.toList)) := by
  obtain ⟨R, hR⟩ : ∃ R, numberP neg s.data.toList = R := ⟨_, rfl⟩
  rw [hR]
  unfold numberP at hR
  rw [hx] at hR
  obtain ⟨t, ht⟩ : ∃ t : ByteArray, (⟨(Lib.trimPrefix s.data.toList [48, 120]).toArray⟩ : ByteArray) = t := ⟨_, rfl⟩
  have htl : t.data.toList = Lib.trimPrefix s.data.toList [48, 120] := by rw [← ht]
  rw [← htl] at hR
  have htb : t.data.toList.length ≤ 4096 := by
    have h1 : s.data.toList.length = s.size := by simp
    rw [htl]
    exact Nat.le_trans (trim_len _ _) (by rw [h1]; exact hs)
  have hts : t.size ≤ 4096 := by simpa using htb
  have hcut := fun w => Tryz.strings_CutPrefix s ⟨#[48, 120]⟩ w
  simp only [hx, ht] at hcut
  obtain rfl : t = s := by rw [← ht]; simp [Lib.trimPrefix, hx]
  obtain ⟨l, hl⟩ : ∃ l, (scanL false false t.data.toList).1 = l := ⟨_, rfl⟩
  obtain ⟨b, hb⟩ : ∃ l, (scanL false false t.data.toList).2.1 = l := ⟨_, rfl⟩
  obtain ⟨r, hr⟩ : ∃ l, (scanL false false t.data.toList).2.2 = l := ⟨_, rfl⟩
  have hlen := scanL_len false false t.data.toList
  have hdig := scanL_digit false false t.data.toList
  have hdp : ∀ e w, Calls Tryz.prog 64 #[.agg #[.func (.func 54) #[] #[], .int .i32 e], .string t] w (fun en w' => ∃ v, en = .returned (.tuple #[v, .int .i64 ((b : Nat) : Int), .string ⟨r.toArray⟩, .bool (decide (0 < l.length))]) ∧ w'.ownsRow w.heap.size 3 1 v l.length (intL l) ∧ Below w.heap.size w w') :=
    fun e w => (digits_dec e t w (by omega)).mono (fun _ _ h => by unfold DigPost at h; rw [hl, hb, hr] at h; exact h)
  rw [hl, hr, hb] at hlen
  rw [hl] at hdig
  simp only [hl, hb, hr] at hR
  have HR := Lib.hid hR
  have HDIG := Lib.hid hdig
  have HDP := Lib.hid hdp
  have HCUT := Lib.hid hcut
  clear hR hdig hdp hcut hl hb hr htl ht
  go_enter Tryz.func29, Tryz.ntmps29
  have hb1 := (Below.refl w.heap.size w).alloc (Nat.le_refl _) (.cells #[.int .u64 0, .int .u8 0] 25)
  have hk1 := Blk.new w #[.int .u64 0, .int .u8 0] 25
  go_wp2_with fail
  refine (HCUT.out _).mono ?_
  rintro en w1 ⟨rfl, hw⟩
  subst hw
  clear HCUT
  have hb2 := hb1.alloc (by simp) (.cells #[.func (.func 54) #[] #[], .int .i32 101] 91)
  have hk2 := hk1.alloc (.cells #[.func (.func 54) #[] #[], .int .i32 101] 91)
  have hy2 := Blk.new2 w (.cells #[.int .u64 0, .int .u8 0] 25) #[.func (.func 54) #[] #[], .int .i32 101] 91
  go_wp2_with fail
  refine (HDP.out 101 _).mono ?_
  rintro en w2 ⟨v2, rfl, hown, hb3⟩
  clear HDP
  have hv2 := Ints.ofRow hown
  obtain ⟨x2, c2, rfl⟩ := ownsRow_slice hown
  clear hown
  have hb4 := hb2.trans (hb3.mono hb2.size)
  have hk3 := hk2.call hb3
  have hy3 := hy2.call hb3
  clear hk1 hk2 hy2 hb1 hb2 hb3
  by_cases hl0 : l = []
  · have hr0 := HR.out
    rw [if_pos hl0] at hr0
    subst hl0 hr0
    have k0 := hk3.cell 0 _ rfl
    have k1 := hk3.cell 1 _ rfl
    have f0 := hk3.free 0
    have f1 := hk3.free 1
    have e0 : decide (0 < ([] : List Nat).length) = false := rfl
    rw [e0]
    go_wp2_with fail
    have hd3 := (hk3.set 0 (.int .u64 0)).set 1 (.int .u8 0)
    have o0 := hd3.cell 0 _ rfl
    have o1 := hd3.cell 1 _ rfl
    exact bodyPost_ret (v := .tuple #[.agg #[.int .u64 0, .int .u8 0], .bool false]) (by simp [results, Tryz.results29, go_sem, o0, o1]; try rfl) rfl ⟨rfl, (hb4.setCell (by simp) _).setCell (by simp) _⟩
  have hr0 := HR.out
  rw [if_neg hl0] at hr0
  have HR2 := Lib.hid hr0
  clear HR hr0
  have hlp : 0 < l.length := List.length_pos_iff.2 hl0
  have e0 : decide (0 < l.length) = true := decide_eq_true hlp
  rw [e0]
  have q0 := hy3.cell 0 _ rfl
  have q1 := hy3.cell 1 _ rfl
  go_upto_block 0 with fail
  go_cut [13, 14] (fun u13 u14 wx => u13 = .bool (endP false r).2 ∧ u14 = .int .i64 (endP false r).1 ∧ Below w2.heap.size w2 wx)
  case first =>
    go_upto_region 9 with fail
    go_cut [35] (fun u35 wx => u35 = .bool (headB false r) ∧ ∃ m, wx = w2.drewN m)
    case first =>
      cases r with
      | nil =>
        go_quiet (fail)
        go_wp2_with fail
        go_meet
        exact ⟨rfl, _, rfl⟩
      | cons c r' =>
        have hsz : (0 : Int) < (((⟨(c :: r').toArray⟩ : ByteArray).size : Nat) : Int) := by
          have : (⟨(c :: r').toArray⟩ : ByteArray).size = r'.length + 1 := by simp [ByteArray.size]
          omega
        have hw0 : IntKind.i64.wrap 0 = 0 := wi64 (by omega) (by omega)
        go_quiet (fail)
        go_wp2_with fail
        go_meet
        exact ⟨congrArg Value.bool (head_dec c), _, rfl⟩
    case rest =>
      obtain ⟨rfl, m, rfl⟩ := hcut
      have hbm : Below w2.heap.size w2 (w2.drewN m) := below_drewN _ _ _
      have hszm : w2.heap.size = (w2.drewN m).heap.size := rfl
      have HSZ := Lib.hid hszm
      clear hszm
      generalize w2.drewN m = W3 at *
      cases r with
      | nil =>
        have e35 : headB false [] = false := rfl
        rw [e35]
        go_wp2_with fail
        go_meet
        exact ⟨rfl, rfl, hbm⟩
      | cons c r' =>
        by_cases hc : c = endB false
        · have e35 : headB false (c :: r') = true := beq_iff_eq.2 hc
          have hE : endP false (c :: r') = expP r' := by rw [endP, if_pos hc]
          have hsz : (1 : Int) ≤ (((⟨(c :: r').toArray⟩ : ByteArray).size : Nat) : Int) := by
            have : (⟨(c :: r').toArray⟩ : ByteArray).size = r'.length + 1 := by simp [ByteArray.size]
            omega
          have hext : (⟨(c :: r').toArray⟩ : ByteArray).extract 1 (r'.length + 1) = ⟨r'.toArray⟩ := by
            have h := extract_tail ⟨(c :: r').toArray⟩ 1
            rw [show (⟨(c :: r').toArray⟩ : ByteArray).size = r'.length + 1 by simp [ByteArray.size]] at h
            simpa using h
          have hrs : (⟨r'.toArray⟩ : ByteArray).size ≤ 100000 := by
            have h1 : (⟨r'.toArray⟩ : ByteArray).size = r'.length := by simp [ByteArray.size]
            have h2 := hlen.2.2
            simp only [List.length_cons] at h2
            omega
          have HE := Lib.hid hE
          have HX := Lib.hid hext
          rw [e35]
          clear hc hE hext
          go_wp2_with fail
          rw [HX.out]
          refine (exponent_any _ _ hrs).mono ?_
          rintro en w5 ⟨rfl, hb7⟩
          go_wp2_with fail
          go_meet
          rw [HE.out]
          exact ⟨rfl, rfl, hbm.trans (hb7.mono (by rw [HSZ.out]; exact Nat.le_refl _))⟩
        · have e35 : headB false (c :: r') = false := beq_eq_false_iff_ne.2 hc
          have hE : endP false (c :: r') = (0, false) := by rw [endP, if_neg hc]
          rw [e35]
          go_wp2_with fail
          go_meet
          rw [hE]
          exact ⟨rfl, rfl, hbm⟩
  case rest =>
    obtain ⟨rfl, rfl, hb6⟩ := hcut
    have hb7 := hb4.trans (hb6.mono hb4.size)
    have hk4 := hk3.call hb6
    have hv4 := hv2.call hb6
    have hele := endP_le false r
    have k0 := hk4.cell 0 _ rfl
    have k1 := hk4.cell 1 _ rfl
    have f0 := hk4.free 0
    have f1 := hk4.free 1
    clear hb6 hk3 hv2 hb4 hy3 q0 q1
    obtain ⟨E, hE⟩ : ∃ E, (endP false r).1 = E := ⟨_, rfl⟩
    obtain ⟨ok, hok⟩ : ∃ E, (endP false r).2 = E := ⟨_, rfl⟩
    have hr0 := HR2.out
    rw [hE, hok] at hr0
    rw [hE] at hele
    rw [hE, hok]
    clear HR2 hE hok
    cases ok with
    | false =>
      rw [if_pos rfl] at hr0
      subst hr0
      go_wp2_with fail
      have hd3 := (hk4.set 0 (.int .u64 0)).set 1 (.int .u8 0)
      have o0 := hd3.cell 0 _ rfl
      have o1 := hd3.cell 1 _ rfl
      exact bodyPost_ret (v := .tuple #[.agg #[.int .u64 0, .int .u8 0], .bool false]) (by simp [results, Tryz.results29, go_sem, o0, o1]; try rfl) rfl ⟨rfl, (hb7.setCell (by simp) _).setCell (by simp) _⟩
    | true =>
      rw [if_neg (by decide)] at hr0
      rw [if_neg (by decide)] at hr0
      have HR3 := Lib.hid hr0
      clear hr0 k0 k1 f0 f1
      go_wp2_with fail
      go_loop [10] (fun u10 => ∃ l', Ints wc u10 l' ∧ l'.length ≤ l.length ∧ Hid (zerosL l' = zerosL l)) (fun u10 => lenOf u10)
      case atStart => exact ⟨l, hv4, Nat.le_refl _, rfl⟩
      case round =>
        obtain ⟨l', hv5, hl5, HZ⟩ := hrel
        cases l' with
        | nil =>
          have hv6 := hv5
          obtain ⟨x5, c5, rfl, _⟩ := hv5
          go_wp2_with fail
          have hzl : ([] : List Nat) = zerosL l := HZ.out
          have hdl : ∀ z ∈ ([] : List Nat), z < 10 := fun z hz => by
            have h := HDIG.out z (zerosL_mem l z (by rw [← hzl]; exact hz))
            simpa using h
          have hlL : (([] : List Nat)).length ≤ l.length := by first | exact hl5 | exact Nat.zero_le _
          have HR4 := HR3
          rw [← hzl] at HR4
          clear hzl
          have hnl := natL_lt (base := 10) ([] : List Nat) hdl
          refine (natural_any _ 10 ([] : List Nat) wc hv6 (by decide) (by decide) hdl (by omega)).mono ?_
          rintro en w6 ⟨v6, rfl, hv6, hb8⟩
          have hb9 := hb7.trans (hb8.mono hb7.size)
          have hk5 := hk4.call hb8
          go_wp2_with fail
          refine (tens_any 0 neg v6 (natL 10 ([] : List Nat)) (([] : List Nat)).length (E - ((b : Nat) : Int)) w6 hv6 hnl (by omega) (by omega) (by omega) (hT.call hb9)).mono ?_
          rintro en w7 ⟨rfl, hb10⟩
          have hb11 := hb9.trans (hb10.mono hb9.size)
          have hk6 := hk5.call hb10
          have k0 := hk6.cell 0 _ rfl
          have k1 := hk6.cell 1 _ rfl
          have f0 := hk6.free 0
          have f1 := hk6.free 1
          skip
          generalize tensP neg (natL 10 ([] : List Nat)) (([] : List Nat)).length (E - ((b : Nat) : Int)) = RR at *
          go_wp2_with fail
          have hd3 := (hk6.set 0 (.int .u64 ((RR.1 : Nat) : Int))).set 1 (.int .u8 ((RR.2 : Nat) : Int))
          have o0 := hd3.cell 0 _ rfl
          have o1 := hd3.cell 1 _ rfl
          rw [← HR4.out]
          exact bodyPost_ret (v := .tuple #[.agg #[.int .u64 ((RR.1 : Nat) : Int), .int .u8 ((RR.2 : Nat) : Int)], .bool true]) (by simp [results, Tryz.results29, go_sem, o0, o1]; try rfl) rfl ⟨rfl, (hb11.setCell (by simp) _).setCell (by simp) _⟩
        | cons d tl =>
          have hv6 := hv5
          obtain ⟨x5, c5, rfl, _⟩ := hv5
          obtain ⟨b5, o5, rfl, hn5, hc5, hc6, hcell, htail⟩ := hv6.tail
          simp only [List.length_cons] at *
          have hz0 : (0 : Int) < ((tl.length : Nat) : Int) + 1 := by omega
          by_cases hd0 : d = 0
          · subst hd0
            go_wp2_with fail
            refine ⟨⟨tl, ?_, by omega, ?_⟩, by simp [lenOf]⟩
            · by_cases hc1 : c5 = 1
              · obtain rfl : tl = [] := List.length_eq_zero_iff.1 (by omega)
                rw [if_pos hc1]
                exact ⟨_, _, rfl, Nat.zero_le _, by omega, fun i hi => absurd hi (by simp)⟩
              · rw [if_neg hc1]
                exact htail
            · show zerosL tl = _
              rw [← HZ.out, zerosL, if_pos rfl]
          · have hd1 : (((d : Nat) : Int) == 0) = false := beq_eq_false_iff_ne.2 (by omega)
            have HZ2 := Lib.hid (show d :: tl = zerosL l by rw [← HZ.out, zerosL, if_neg hd0])
            clear hd0
            go_wp2_with fail
            have hzl : d :: tl = zerosL l := HZ2.out
            have hdl : ∀ z ∈ (d :: tl), z < 10 := fun z hz => by
              have h := HDIG.out z (zerosL_mem l z (by rw [← hzl]; exact hz))
              simpa using h
            have hlL : ((d :: tl)).length ≤ l.length := by first | exact hl5 | exact Nat.zero_le _
            have HR4 := HR3
            rw [← hzl] at HR4
            clear hzl
            have hnl := natL_lt (base := 10) (d :: tl) hdl
            refine (natural_any _ 10 (d :: tl) wc hv6 (by decide) (by decide) hdl (by omega)).mono ?_
            rintro en w6 ⟨v6, rfl, hv6, hb8⟩
            have hb9 := hb7.trans (hb8.mono hb7.size)
            have hk5 := hk4.call hb8
            go_wp2_with fail
            refine (tens_any 0 neg v6 (natL 10 (d :: tl)) ((d :: tl)).length (E - ((b : Nat) : Int)) w6 hv6 hnl (by omega) (by omega) (by omega) (hT.call hb9)).mono ?_
            rintro en w7 ⟨rfl, hb10⟩
            have hb11 := hb9.trans (hb10.mono hb9.size)
            have hk6 := hk5.call hb10
            have k0 := hk6.cell 0 _ rfl
            have k1 := hk6.cell 1 _ rfl
            have f0 := hk6.free 0
            have f1 := hk6.free 1
            skip
            generalize tensP neg (natL 10 (d :: tl)) ((d :: tl)).length (E - ((b : Nat) : Int)) = RR at *
            go_wp2_with fail
            have hd3 := (hk6.set 0 (.int .u64 ((RR.1 : Nat) : Int))).set 1 (.int .u8 ((RR.2 : Nat) : Int))
            have o0 := hd3.cell 0 _ rfl
            have o1 := hd3.cell 1 _ rfl
            rw [← HR4.out]
            exact bodyPost_ret (v := .tuple #[.agg #[.int .u64 ((RR.1 : Nat) : Int), .int .u8 ((RR.2 : Nat) : Int)], .bool true]) (by simp [results, Tryz.results29, go_sem, o0, o1]; try rfl) rfl ⟨rfl, (hb11.setCell (by simp) _).setCell (by simp) _⟩

set_option maxRecDepth 1000000 in
set_option maxHeartbeats 4000000 in
theorem number_hex (neg : Bool) (s : ByteArray) (w : World) (hs : s.size ≤ 4096) (hx : Lib.hasPrefix s.data.toList [48, 120] = true) (hT : TabW w) :
    Calls Tryz.prog 29 #[.bool neg, .string s] w (NumbPost w (numberP neg s.data.toList)) := by
  obtain ⟨R, hR⟩ : ∃ R, numberP neg s.data.toList = R := ⟨_, rfl⟩
  rw [hR]
  unfold numberP at hR
  rw [hx] at hR
  obtain ⟨t, ht⟩ : ∃ t : ByteArray, (⟨(Lib.trimPrefix s.data.toList [48, 120]).toArray⟩ : ByteArray) = t := ⟨_, rfl⟩
  have htl : t.data.toList = Lib.trimPrefix s.data.toList [48, 120] := by rw [← ht]
  rw [← htl] at hR
  have htb : t.data.toList.length ≤ 4096 := by
    have h1 : s.data.toList.length = s.size := by simp
    rw [htl]
    exact Nat.le_trans (trim_len _ _) (by rw [h1]; exact hs)
  have hts : t.size ≤ 4096 := by simpa using htb
  have hcut := fun w => Tryz.strings_CutPrefix s ⟨#[48, 120]⟩ w
  simp only [hx, ht] at hcut
  skip
  obtain ⟨l, hl⟩ : ∃ l, (scanL true false t.data.toList).1 = l := ⟨_, rfl⟩
  obtain ⟨b, hb⟩ : ∃ l, (scanL true false t.data.toList).2.1 = l := ⟨_, rfl⟩
  obtain ⟨r, hr⟩ : ∃ l, (scanL true false t.data.toList).2.2 = l := ⟨_, rfl⟩
  have hlen := scanL_len true false t.data.toList
  have hdig := scanL_digit true false t.data.toList
  have hdp : ∀ e w, Calls Tryz.prog 64 #[.agg #[.func (.func 63) #[] #[], .int .i32 e], .string t] w (fun en w' => ∃ v, en = .returned (.tuple #[v, .int .i64 ((b : Nat) : Int), .string ⟨r.toArray⟩, .bool (decide (0 < l.length))]) ∧ w'.ownsRow w.heap.size 3 1 v l.length (intL l) ∧ Below w.heap.size w w') :=
    fun e w => (digits_hex e t w (by omega)).mono (fun _ _ h => by unfold DigPost at h; rw [hl, hb, hr] at h; exact h)
  rw [hl, hr, hb] at hlen
  rw [hl] at hdig
  simp only [hl, hb, hr] at hR
  have HR := Lib.hid hR
  have HDIG := Lib.hid hdig
  have HDP := Lib.hid hdp
  have HCUT := Lib.hid hcut
  clear hR hdig hdp hcut hl hb hr htl ht
  go_enter Tryz.func29, Tryz.ntmps29
  have hb1 := (Below.refl w.heap.size w).alloc (Nat.le_refl _) (.cells #[.int .u64 0, .int .u8 0] 25)
  have hk1 := Blk.new w #[.int .u64 0, .int .u8 0] 25
  go_wp2_with fail
  refine (HCUT.out _).mono ?_
  rintro en w1 ⟨rfl, hw⟩
  subst hw
  clear HCUT
  have hb2 := hb1.alloc (by simp) (.cells #[.func (.func 63) #[] #[], .int .i32 112] 91)
  have hk2 := hk1.alloc (.cells #[.func (.func 63) #[] #[], .int .i32 112] 91)
  have hy2 := Blk.new2 w (.cells #[.int .u64 0, .int .u8 0] 25) #[.func (.func 63) #[] #[], .int .i32 112] 91
  go_wp2_with fail
  refine (HDP.out 112 _).mono ?_
  rintro en w2 ⟨v2, rfl, hown, hb3⟩
  clear HDP
  have hv2 := Ints.ofRow hown
  obtain ⟨x2, c2, rfl⟩ := ownsRow_slice hown
  clear hown
  have hb4 := hb2.trans (hb3.mono hb2.size)
  have hk3 := hk2.call hb3
  have hy3 := hy2.call hb3
  clear hk1 hk2 hy2 hb1 hb2 hb3
  by_cases hl0 : l = []
  · have hr0 := HR.out
    rw [if_pos hl0] at hr0
    subst hl0 hr0
    have k0 := hk3.cell 0 _ rfl
    have k1 := hk3.cell 1 _ rfl
    have f0 := hk3.free 0
    have f1 := hk3.free 1
    have e0 : decide (0 < ([] : List Nat).length) = false := rfl
    rw [e0]
    go_wp2_with fail
    have hd3 := (hk3.set 0 (.int .u64 0)).set 1 (.int .u8 0)
    have o0 := hd3.cell 0 _ rfl
    have o1 := hd3.cell 1 _ rfl
    exact bodyPost_ret (v := .tuple #[.agg #[.int .u64 0, .int .u8 0], .bool false]) (by simp [results, Tryz.results29, go_sem, o0, o1]; try rfl) rfl ⟨rfl, (hb4.setCell (by simp) _).setCell (by simp) _⟩
  have hr0 := HR.out
  rw [if_neg hl0] at hr0
  have HR2 := Lib.hid hr0
  clear HR hr0
  have hlp : 0 < l.length := List.length_pos_iff.2 hl0
  have e0 : decide (0 < l.length) = true := decide_eq_true hlp
  rw [e0]
  have q0 := hy3.cell 0 _ rfl
  have q1 := hy3.cell 1 _ rfl
  go_upto_block 0 with fail
  go_cut [13, 14] (fun u13 u14 wx => u13 = .bool (endP true r).2 ∧ u14 = .int .i64 (endP true r).1 ∧ Below w2.heap.size w2 wx)
  case first =>
    go_upto_region 9 with fail
    go_cut [35] (fun u35 wx => u35 = .bool (headB true r) ∧ ∃ m, wx = w2.drewN m)
    case first =>
      cases r with
      | nil =>
        go_quiet (fail)
        go_wp2_with fail
        go_meet
        exact ⟨rfl, _, rfl⟩
      | cons c r' =>
        have hsz : (0 : Int) < (((⟨(c :: r').toArray⟩ : ByteArray).size : Nat) : Int) := by
          have : (⟨(c :: r').toArray⟩ : ByteArray).size = r'.length + 1 := by simp [ByteArray.size]
          omega
        have hw0 : IntKind.i64.wrap 0 = 0 := wi64 (by omega) (by omega)
        go_quiet (fail)
        go_wp2_with fail
        go_meet
        exact ⟨congrArg Value.bool (head_hex c), _, rfl⟩
    case rest =>
      obtain ⟨rfl, m, rfl⟩ := hcut
      have hbm : Below w2.heap.size w2 (w2.drewN m) := below_drewN _ _ _
      have hszm : w2.heap.size = (w2.drewN m).heap.size := rfl
      have HSZ := Lib.hid hszm
      clear hszm
      generalize w2.drewN m = W3 at *
      cases r with
      | nil =>
        have e35 : headB true [] = false := rfl
        rw [e35]
        go_wp2_with fail
        go_meet
        exact ⟨rfl, rfl, hbm⟩
      | cons c r' =>
        by_cases hc : c = endB true
        · have e35 : headB true (c :: r') = true := beq_iff_eq.2 hc
          have hE : endP true (c :: r') = expP r' := by rw [endP, if_pos hc]
          have hsz : (1 : Int) ≤ (((⟨(c :: r').toArray⟩ : ByteArray).size : Nat) : Int) := by
            have : (⟨(c :: r').toArray⟩ : ByteArray).size = r'.length + 1 := by simp [ByteArray.size]
            omega
          have hext : (⟨(c :: r').toArray⟩ : ByteArray).extract 1 (r'.length + 1) = ⟨r'.toArray⟩ := by
            have h := extract_tail ⟨(c :: r').toArray⟩ 1
            rw [show (⟨(c :: r').toArray⟩ : ByteArray).size = r'.length + 1 by simp [ByteArray.size]] at h
            simpa using h
          have hrs : (⟨r'.toArray⟩ : ByteArray).size ≤ 100000 := by
            have h1 : (⟨r'.toArray⟩ : ByteArray).size = r'.length := by simp [ByteArray.size]
            have h2 := hlen.2.2
            simp only [List.length_cons] at h2
            omega
          have HE := Lib.hid hE
          have HX := Lib.hid hext
          rw [e35]
          clear hc hE hext
          go_wp2_with fail
          rw [HX.out]
          refine (exponent_any _ _ hrs).mono ?_
          rintro en w5 ⟨rfl, hb7⟩
          go_wp2_with fail
          go_meet
          rw [HE.out]
          exact ⟨rfl, rfl, hbm.trans (hb7.mono (by rw [HSZ.out]; exact Nat.le_refl _))⟩
        · have e35 : headB true (c :: r') = false := beq_eq_false_iff_ne.2 hc
          have hE : endP true (c :: r') = (0, false) := by rw [endP, if_neg hc]
          rw [e35]
          go_wp2_with fail
          go_meet
          rw [hE]
          exact ⟨rfl, rfl, hbm⟩
  case rest =>
    obtain ⟨rfl, rfl, hb6⟩ := hcut
    have hb7 := hb4.trans (hb6.mono hb4.size)
    have hk4 := hk3.call hb6
    have hv4 := hv2.call hb6
    have hele := endP_le true r
    have k0 := hk4.cell 0 _ rfl
    have k1 := hk4.cell 1 _ rfl
    have f0 := hk4.free 0
    have f1 := hk4.free 1
    clear hb6 hk3 hv2 hb4 hy3 q0 q1
    obtain ⟨E, hE⟩ : ∃ E, (endP true r).1 = E := ⟨_, rfl⟩
    obtain ⟨ok, hok⟩ : ∃ E, (endP true r).2 = E := ⟨_, rfl⟩
    have hr0 := HR2.out
    rw [hE, hok] at hr0
    rw [hE] at hele
    rw [hE, hok]
    clear HR2 hE hok
    cases ok with
    | false =>
      rw [if_pos rfl] at hr0
      subst hr0
      go_wp2_with fail
      have hd3 := (hk4.set 0 (.int .u64 0)).set 1 (.int .u8 0)
      have o0 := hd3.cell 0 _ rfl
      have o1 := hd3.cell 1 _ rfl
      exact bodyPost_ret (v := .tuple #[.agg #[.int .u64 0, .int .u8 0], .bool false]) (by simp [results, Tryz.results29, go_sem, o0, o1]; try rfl) rfl ⟨rfl, (hb7.setCell (by simp) _).setCell (by simp) _⟩
    | true =>
      rw [if_neg (by decide)] at hr0
      rw [if_pos trivial] at hr0
      have HR4 := Lib.hid hr0
      have hdl : ∀ z ∈ l, z < 16 := fun z hz => by
        have h := HDIG.out z hz
        simpa using h
      have hnl := natL_bl (base := 16) (by decide) l hdl
      have hll := hlen.1
      clear hr0 k0 k1 f0 f1
      go_wp2_with fail
      refine (natural_any _ 16 l wc hv4 (by decide) (by decide) hdl (by omega)).mono ?_
      rintro en w6 ⟨v6, rfl, hv6, hb8⟩
      have hb9 := hb7.trans (hb8.mono hb7.size)
      have hk5 := hk4.call hb8
      go_wp2_with fail
      refine (twos_any 0 neg v6 (natL 16 l) (E - 4 * ((b : Nat) : Int)) w6 hv6 (by omega) (by omega) (by omega) (hT.call hb9)).mono ?_
      rintro en w7 ⟨rfl, hb10⟩
      have hb11 := hb9.trans (hb10.mono hb9.size)
      have hk6 := hk5.call hb10
      have k0 := hk6.cell 0 _ rfl
      have k1 := hk6.cell 1 _ rfl
      have f0 := hk6.free 0
      have f1 := hk6.free 1
      skip
      generalize twosP neg (natL 16 l) (E - 4 * ((b : Nat) : Int)) = RR at *
      go_wp2_with fail
      have hd3 := (hk6.set 0 (.int .u64 ((RR.1 : Nat) : Int))).set 1 (.int .u8 ((RR.2 : Nat) : Int))
      have o0 := hd3.cell 0 _ rfl
      have o1 := hd3.cell 1 _ rfl
      rw [← HR4.out]
      exact bodyPost_ret (v := .tuple #[.agg #[.int .u64 ((RR.1 : Nat) : Int), .int .u8 ((RR.2 : Nat) : Int)], .bool true]) (by simp [results, Tryz.results29, go_sem, o0, o1]; try rfl) rfl ⟨rfl, (hb11.setCell (by simp) _).setCell (by simp) _⟩
end Go.Proofs.YtkfbailpifmdcaaGreatDoor
end
