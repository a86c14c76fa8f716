/- TenD ParA ParB ParC -/
import Derived.Test.YtkfbailpifmdcaaGreatDoorMah
import Derived.Laws.RangeAny
import Derived.Laws.AppendOwn
import Derived.WalkSmall
import Derived.Test.YtkfbailpifmdcaaGreatDoorShelf
section
namespace Go.Proofs.YtkfbailpifmdcaaGreatDoor
open Go.RowKit

def twosP (neg : Bool) (n : Nat) (k : Int) : Nat × Nat :=
  if n = 0 then resultP neg 0 0 else if 1200 < ((bl n : Nat) : Int) + k then resultP neg 1 1200 else if ((bl n : Nat) : Int) + k < -1200 then resultP neg 1 (-1200) else formP neg n k

set_option maxRecDepth 100000 in
set_option maxHeartbeats 4000000 in
theorem twos_any (lo : Nat) (neg : Bool) (a : Value) (n : Nat) (k : Int) (w : World) (ha : Num lo w a n) (hbn : bl n ≤ 20000) (hk1 : -1099511627776 ≤ k) (hk2 : k ≤ 1099511627776) (hT : TabW w) :
    Calls Tryz.prog 66 #[.bool neg, a, .int .i64 k] w fun en w' => en = .returned (.agg #[.int .u64 (((twosP neg n k).1 : Nat) : Int), .int .u8 (((twosP neg n k).2 : Nat) : Int)]) ∧ Below w.heap.size w w' := by
  obtain ⟨x1, c1, rfl⟩ := ha.slice'
  have hz := @limbsOf_len_zero n
  obtain ⟨R, hR⟩ : ∃ R, twosP neg n k = R := ⟨_, rfl⟩
  rw [hR]
  unfold twosP at hR
  have HR := Lib.hid hR
  clear hR
  have hl1 := limbs_bl (n := n) (k := 4200) (by omega)
  go_enter Tryz.func66, Tryz.ntmps66
  have hb1 := (Below.refl w.heap.size w).alloc (Nat.le_refl _) (.cells #[.int .u64 0, .int .u8 0] 25)
  have hk0 := Blk.new w #[.int .u64 0, .int .u8 0] 25
  have hT1 := hT.call hb1
  have hlen1 := Len_any lo _ (limbsOf n) _ (ha.call hb1).words (by omega)
  rw [valN_limbsOf] at hlen1
  go_wp2_with fail
  refine hlen1.mono ?_
  rintro e w3 ⟨rfl, hw3⟩
  subst hw3
  clear hlen1
  by_cases h0 : n = 0
  · rw [if_pos h0] at HR
    subst h0
    have e0 : ((((limbsOf 0).length : Nat) : Int) == 0) = true := by rw [limbsOf_zero]; rfl
    go_wp2_with fail
    refine (result_dy lo _ neg false 0 0 _ ⟨_, rfl, Num.zero _ _ _ _ (by decide)⟩ (fits_of (by rw [bl_zero]; decide) (by decide) (by decide)) hT1).mono ?_
    rintro e w2 ⟨rfl, hb2⟩
    rw [HR.out]
    have hb12 := hb1.trans (hb2.mono hb1.size)
    have hkk := hk0.call hb2
    have c0 := hkk.cell 0 _ rfl
    have c1 := hkk.cell 1 _ rfl
    have f0 := hkk.free 0
    have f1 := hkk.free 1
    go_wp2_with fail
    have hd3 := (hkk.set 0 (.int .u64 ((R.1 : Nat) : Int))).set 1 (.int .u8 ((R.2 : Nat) : Int))
    have o0 := hd3.cell 0 _ rfl
    have o1 := hd3.cell 1 _ rfl
    exact bodyPost_ret (v := .agg #[.int .u64 ((R.1 : Nat) : Int), .int .u8 ((R.2 : Nat) : Int)]) (by simp [results, Tryz.results66, go_sem, o0, o1]; try rfl) rfl ⟨rfl, (hb12.setCell (by simp) _).setCell (by simp) _⟩
  · have e0 : ((((limbsOf n).length : Nat) : Int) == 0) = false := beq_eq_false_iff_ne.2 (by have := mt hz.1 h0; omega)
    rw [if_neg h0] at HR
    clear hz
    by_cases h1 : 1200 < ((bl n : Nat) : Int) + k
    · rw [if_pos h1] at HR
      go_wp2_with fail
      refine (Power_any 1200 _).mono ?_
      rintro e w2 ⟨v2, rfl, hv2, hb2⟩
      have hb12 := hb1.trans (hb2.mono hb1.size)
      go_wp2_with fail
      refine (result_dy _ _ neg false 1 1200 _ hv2 (fits_one (by decide) (by decide)) (hT.call hb12)).mono ?_
      rintro e w3 ⟨rfl, hb3⟩
      rw [HR.out]
      have hb13 := hb12.trans (hb3.mono hb12.size)
      have hkk := (hk0.call hb2).call hb3
      have c0 := hkk.cell 0 _ rfl
      have c1 := hkk.cell 1 _ rfl
      have f0 := hkk.free 0
      have f1 := hkk.free 1
      go_wp2_with fail
      have hd3 := (hkk.set 0 (.int .u64 ((R.1 : Nat) : Int))).set 1 (.int .u8 ((R.2 : Nat) : Int))
      have o0 := hd3.cell 0 _ rfl
      have o1 := hd3.cell 1 _ rfl
      exact bodyPost_ret (v := .agg #[.int .u64 ((R.1 : Nat) : Int), .int .u8 ((R.2 : Nat) : Int)]) (by simp [results, Tryz.results66, go_sem, o0, o1]; try rfl) rfl ⟨rfl, (hb13.setCell (by simp) _).setCell (by simp) _⟩
    rw [if_neg h1] at HR
    by_cases h2 : ((bl n : Nat) : Int) + k < -1200
    · rw [if_pos h2] at HR
      go_wp2_with fail
      refine (Power_any (-1200) _).mono ?_
      rintro e w2 ⟨v2, rfl, hv2, hb2⟩
      have hb12 := hb1.trans (hb2.mono hb1.size)
      go_wp2_with fail
      refine (result_dy _ _ neg false 1 (-1200) _ hv2 (fits_one (by decide) (by decide)) (hT.call hb12)).mono ?_
      rintro e w3 ⟨rfl, hb3⟩
      rw [HR.out]
      have hb13 := hb12.trans (hb3.mono hb12.size)
      have hkk := (hk0.call hb2).call hb3
      have c0 := hkk.cell 0 _ rfl
      have c1 := hkk.cell 1 _ rfl
      have f0 := hkk.free 0
      have f1 := hkk.free 1
      go_wp2_with fail
      have hd3 := (hkk.set 0 (.int .u64 ((R.1 : Nat) : Int))).set 1 (.int .u8 ((R.2 : Nat) : Int))
      have o0 := hd3.cell 0 _ rfl
      have o1 := hd3.cell 1 _ rfl
      exact bodyPost_ret (v := .agg #[.int .u64 ((R.1 : Nat) : Int), .int .u8 ((R.2 : Nat) : Int)]) (by simp [results, Tryz.results66, go_sem, o0, o1]; try rfl) rfl ⟨rfl, (hb13.setCell (by simp) _).setCell (by simp) _⟩
    rw [if_neg h2] at HR
    have hform := Form_any lo false _ (limbsOf n) k _ (ha.call hb1).words (by omega) (by omega) (by omega) hT1
    rw [valN_limbsOf] at hform
    have hfit := fits_form (m := n) (x := k) (by omega) (by omega) (by omega)
    go_wp2_with fail
    refine hform.mono ?_
    rintro e w4 ⟨v4, rfl, hv4, hb4⟩
    clear hform
    have hb14 := hb1.trans (hb4.mono hb1.size)
    go_wp2_with fail
    refine (result_dy _ _ neg _ _ _ _ hv4 hfit (hT.call hb14)).mono ?_
    rintro e w5 ⟨rfl, hb5⟩
    have hrr : resultP neg (fAbs n) (fExp n k) = R := HR.out
    rw [hrr]
    have hb15 := hb14.trans (hb5.mono hb14.size)
    have hkk := (hk0.call hb4).call hb5
    have c0 := hkk.cell 0 _ rfl
    have c1 := hkk.cell 1 _ rfl
    have f0 := hkk.free 0
    have f1 := hkk.free 1
    go_wp2_with fail
    have hd3 := (hkk.set 0 (.int .u64 ((R.1 : Nat) : Int))).set 1 (.int .u8 ((R.2 : Nat) : Int))
    have o0 := hd3.cell 0 _ rfl
    have o1 := hd3.cell 1 _ rfl
    exact bodyPost_ret (v := .agg #[.int .u64 ((R.1 : Nat) : Int), .int .u8 ((R.2 : Nat) : Int)]) (by simp [results, Tryz.results66, go_sem, o0, o1]; try rfl) rfl ⟨rfl, (hb15.setCell (by simp) _).setCell (by simp) _⟩
end Go.Proofs.YtkfbailpifmdcaaGreatDoor
end

section
namespace Go.Proofs.YtkfbailpifmdcaaGreatDoor
open Go.RowKit

def decR (r : Int) : Int := if 48 ≤ r ∧ r ≤ 57 then r - 48 else -1
def hexR (r : Int) : Int := if 97 ≤ r ∧ r ≤ 102 then r - 87 else if 65 ≤ r ∧ r ≤ 70 then r - 55 else decR r

theorem decimal_any (r : Int) (w : World) (h0 : 0 ≤ r) (h1 : r ≤ 2147483647) :
    Calls Tryz.prog 54 #[.int .i32 r] w fun e w' => e = .returned (.int .i64 (decR r)) ∧ w = w' := by
  obtain ⟨z, hz⟩ : ∃ z, decR r = z := ⟨_, rfl⟩
  rw [hz]
  unfold decR at hz
  have HZ := Lib.hid hz
  clear hz
  go_enter Tryz.func54, Tryz.ntmps54
  by_cases h2 : 48 ≤ r ∧ r ≤ 57
  · have hz := HZ.out
    rw [if_pos h2] at hz
    obtain ⟨h3, h4⟩ := h2
    go_wp2
    go_ret
    exact ⟨rfl, rfl⟩
  · have hz := HZ.out
    rw [if_neg h2] at hz
    go_wp2
    all_goals first | (exfalso; omega) | skip
    all_goals go_ret
    all_goals first | exact ⟨rfl, rfl⟩ | exact ⟨ret_int hz, rfl⟩

theorem hexadecimal_any (r : Int) (w : World) (h0 : 0 ≤ r) (h1 : r ≤ 2147483647) :
    Calls Tryz.prog 63 #[.int .i32 r] w fun e w' => e = .returned (.int .i64 (hexR r)) ∧ w = w' := by
  have hdec := decimal_any r w h0 h1
  obtain ⟨z, hz⟩ : ∃ z, hexR r = z := ⟨_, rfl⟩
  rw [hz]
  unfold hexR at hz
  generalize decR r = y at *
  have HZ := Lib.hid hz
  have HD := Lib.hid hdec
  clear hz hdec
  go_enter Tryz.func63, Tryz.ntmps63
  by_cases h2 : 97 ≤ r ∧ r ≤ 102
  · have hz := HZ.out
    rw [if_pos h2] at hz
    obtain ⟨h3, h4⟩ := h2
    have e1 : r - 97 + 10 = r - 87 := by omega
    go_wp2
    go_ret
    exact ⟨ret_int (by omega), rfl⟩
  by_cases h5 : 65 ≤ r ∧ r ≤ 70
  · have hz := HZ.out
    rw [if_neg h2, if_pos h5] at hz
    obtain ⟨h3, h4⟩ := h5
    go_wp2
    all_goals first | (exfalso; omega) | skip
    go_ret
    exact ⟨ret_int (by omega), rfl⟩
  · have hz := HZ.out
    rw [if_neg h2, if_neg h5] at hz
    subst hz
    go_wp2_with fail
    all_goals first | (exfalso; omega) | skip
    all_goals refine HD.out.mono ?_
    all_goals rintro e w1 ⟨rfl, hw⟩
    all_goals subst hw
    all_goals go_wp2
    all_goals go_ret
    all_goals first | exact ⟨rfl, rfl⟩ | exact ⟨ret_int hz, rfl⟩
end Go.Proofs.YtkfbailpifmdcaaGreatDoor
end

section
namespace Go.Proofs.YtkfbailpifmdcaaGreatDoor
open Go.RowKit

theorem Tryz.infoI : (Tryz.prog.info? 3).map (fun i => (i.zero, i.size, i.bytes)) = some (some (.int .i64 0), 1, 8) := by kernel_rfl

/-- What a byte is in a number's digits; less than 0: none. -/
def digB (hex : Bool) (c : UInt8) : Int := if hex then hexR (c.toNat : Int) else decR (c.toNat : Int)
/-- Digits with perhaps a point: the digits, how many stand behind the point, what is left. -/
def scanL (hex : Bool) : Bool → List UInt8 → List Nat × Nat × List UInt8
  | _, [] => ([], 0, [])
  | pt, c :: t =>
    if 0 ≤ digB hex c then ((digB hex c).toNat :: (scanL hex pt t).1, (scanL hex pt t).2.1 + (if pt then 1 else 0), (scanL hex pt t).2.2)
    else if c = 46 ∧ pt = false then scanL hex true t else ([], 0, c :: t)

theorem digB_high (hex : Bool) {c : UInt8} (h : 128 ≤ c.toNat) : digB hex c = -1 := by
  cases hex
  · simp only [digB, decR, Bool.false_eq_true, if_false]; rw [if_neg (by omega)]
  · simp only [digB, hexR, decR, if_true]; rw [if_neg (by omega), if_neg (by omega), if_neg (by omega)]
theorem decR_high {r : Int} (h : 128 ≤ r) : decR r = -1 := by simp only [decR]; rw [if_neg (by omega)]
theorem hexR_high {r : Int} (h : 128 ≤ r) : hexR r = -1 := by simp only [hexR]; rw [if_neg (by omega), if_neg (by omega), decR_high h]
theorem digB_lt (hex : Bool) (c : UInt8) : digB hex c < 16 ∧ -1 ≤ digB hex c := by
  cases hex <;> simp only [digB, hexR, decR, Bool.false_eq_true, if_false, if_true] <;> (repeat' split) <;> omega

def intL (l : List Nat) : List Value := l.map (fun n : Nat => Value.int .i64 (n : Int))
theorem intL_len (l : List Nat) : (intL l).length = l.length := by simp [intL]

/-- How a scan stands at a place: what has been read, what is still to read. -/
structure ScanAt (hex : Bool) (s : ByteArray) (pos : Nat) (l : List Nat) (b : Nat) (p : Bool) : Prop where
  hpos : pos ≤ s.size
  hlen : l.length ≤ pos
  hbeh : b ≤ pos
  hscan : scanL hex false s.data.toList = (l ++ (scanL hex p (s.data.toList.drop pos)).1, b + (scanL hex p (s.data.toList.drop pos)).2.1, (scanL hex p (s.data.toList.drop pos)).2.2)

theorem ScanAt.start (hex : Bool) (s : ByteArray) : ScanAt hex s 0 [] 0 false := ⟨Nat.zero_le _, Nat.le_refl _, Nat.le_refl _, by simp⟩
theorem drop_at (s : ByteArray) (pos : Nat) (h : pos < s.size) : s.data.toList.drop pos = s[pos]'h :: s.data.toList.drop (pos + 1) := by
  have h2 : pos < s.data.toList.length := by simpa using h
  rw [List.drop_eq_getElem_cons h2]
  rfl
theorem ScanAt.digit {hex : Bool} {s : ByteArray} {pos b : Nat} {l : List Nat} {p : Bool} (h : ScanAt hex s pos l b p) (hp : pos < s.size) (hd : 0 ≤ digB hex (s[pos]'hp)) :
    ScanAt hex s (pos + 1) (l ++ [(digB hex (s[pos]'hp)).toNat]) (b + if p then 1 else 0) p := by
  refine ⟨by omega, by have := h.hlen; simp; omega, by have := h.hbeh; split <;> omega, ?_⟩
  rw [h.hscan, drop_at s pos hp, scanL, if_pos hd]
  simp only [List.append_assoc, List.singleton_append]
  congr 2
  omega
theorem ScanAt.point {hex : Bool} {s : ByteArray} {pos b : Nat} {l : List Nat} (h : ScanAt hex s pos l b false) (hp : pos < s.size) (hd : ¬ 0 ≤ digB hex (s[pos]'hp)) (hc : s[pos]'hp = 46) :
    ScanAt hex s (pos + 1) l b true := by
  refine ⟨by omega, by have := h.hlen; omega, by have := h.hbeh; omega, ?_⟩
  rw [h.hscan, drop_at s pos hp, scanL, if_neg hd, if_pos ⟨hc, rfl⟩]
theorem ScanAt.stop {hex : Bool} {s : ByteArray} {pos b : Nat} {l : List Nat} {p : Bool} (h : ScanAt hex s pos l b p) (hp : pos < s.size) (hd : ¬ 0 ≤ digB hex (s[pos]'hp)) (hc : ¬ (s[pos]'hp = 46 ∧ p = false)) :
    scanL hex false s.data.toList = (l, b, s.data.toList.drop pos) := by
  rw [h.hscan, drop_at s pos hp, scanL, if_neg hd, if_neg hc]
  simp
theorem ScanAt.done {hex : Bool} {s : ByteArray} {pos b : Nat} {l : List Nat} {p : Bool} (h : ScanAt hex s pos l b p) (hp : ¬ pos < s.size) : scanL hex false s.data.toList = (l, b, []) := by
  have : s.data.toList.drop pos = [] := List.drop_eq_nil_of_le (by simp; omega)
  rw [h.hscan, this, scanL]
  simp

theorem ownsRow_lo {w : World} {B B' n : Nat} {e : TypeId} {v : Value} {xs : List Value} (h : w.ownsRow B e 1 v n xs) (hB : B' ≤ B) : w.ownsRow B' e 1 v n xs := by
  obtain ⟨h1, h2⟩ := h
  refine ⟨h1, ?_⟩
  rcases h2 with h2 | ⟨g, cap, cur, a, b, c⟩
  · exact .inl h2
  · exact .inr ⟨g, cap, cur, a, Nat.le_trans hB b, c⟩

theorem ownsRow_slice {w : World} {B n : Nat} {e : TypeId} {v : Value} {xs : List Value} (h : w.ownsRow B e 1 v n xs) : ∃ x c, v = .slice x n c := by
  rcases h.2 with ⟨h1, h2⟩ | ⟨g, cap, cur, a, _⟩
  · exact ⟨none, 0, by rw [h1, h2]⟩
  · exact ⟨_, cap, a⟩

theorem extract_tail (s : ByteArray) (pos : Nat) : s.extract pos s.size = ⟨(s.data.toList.drop pos).toArray⟩ := by
  apply ByteArray.ext
  simp
  apply Array.ext'
  simp [Array.toList_extract, List.extract]
  exact List.take_of_length_le (by simp)

theorem wi64 {x : Int} (h0 : -9223372036854775808 ≤ x) (h1 : x < 9223372036854775808) : IntKind.i64.wrap x = x := by
  rw [IntKind.wrap_i64]; omega

def DigPost (hex : Bool) (s : ByteArray) (w : World) (en : Ending) (w' : World) : Prop :=
  ∃ v, en = .returned (.tuple #[v, .int .i64 (((scanL hex false s.data.toList).2.1 : Nat) : Int), .string ⟨(scanL hex false s.data.toList).2.2.toArray⟩, .bool (decide (0 < (scanL hex false s.data.toList).1.length))]) ∧
    w'.ownsRow w.heap.size 3 1 v (scanL hex false s.data.toList).1.length (intL (scanL hex false s.data.toList).1) ∧ Below w.heap.size w w'

theorem digPost {hex : Bool} {s rest : ByteArray} {w w' : World} {l : List Nat} {b : Nat} {v : Value} {r : List UInt8} {q : Bool} {k : Int} (h : scanL hex false s.data.toList = (l, b, r)) (hk : k = ((b : Nat) : Int)) (hr : rest = ⟨r.toArray⟩) (hq : q = decide (0 < l.length))
    (hown : w'.ownsRow (w.heap.size + 2) 3 1 v l.length (intL l)) (hb : Below w.heap.size w w') : DigPost hex s w (.returned (.tuple #[v, .int .i64 k, .string rest, .bool q])) w' := by
  unfold DigPost
  rw [h]
  subst hk hr hq
  exact ⟨v, rfl, ownsRow_lo hown (by omega), hb⟩

set_option maxRecDepth 1000000 in
set_option maxHeartbeats 4000000 in
theorem digits_dec (e : Int) (s : ByteArray) (w : World) (hs : s.size ≤ 100000) :
    Calls Tryz.prog 64 #[.agg #[.func (.func 54) #[] #[], .int .i32 e], .string s] w (DigPost false s w) := by
  obtain ⟨i0, hi, hz0, hz1, hz2⟩ := info_parts Tryz.infoI
  go_enter Tryz.func64, Tryz.ntmps64
  have hb1 := (Below.refl w.heap.size w).alloc (Nat.le_refl _) (.cells #[.func (.func 54) #[] #[], .int .i32 e] 91)
  have hk0 := Blk.new w #[.func (.func 54) #[] #[], .int .i32 e] 91
  go_wp2_with fail
  go_loopw [4, 5, 8] (fun u4 u5 u8 wr => ∃ (pos b : Nat) (l : List Nat) (p : Bool), wr.heap[w.heap.size + 1]? = some (.stringIter s pos) ∧ Blk wr w.heap.size #[.func (.func 54) #[] #[], .int .i32 e] 91 ∧ wr.ownsRow (w.heap.size + 2) 3 1 u4 l.length (intL l) ∧ u5 = .int .i64 ((b : Nat) : Int) ∧ u8 = .bool p ∧ ScanAt false s pos l b p ∧ Below w.heap.size w wr) (fun _ _ _ wr => s.size - wr.iterPos (w.heap.size + 1))
  case atStart =>
    refine ⟨0, 0, [], false, ?_, hk0.alloc _, World.ownsRow_nil _ _ _ _, rfl, rfl, ScanAt.start _ _, hb1.alloc (by simp) _⟩
    have := World.iter_heap (w.alloc (.cells #[.func (.func 54) #[] #[], .int .i32 e] 91)) s 0
    rwa [show (w.alloc (.cells #[.func (.func 54) #[] #[], .int .i32 e] 91)).heap.size = w.heap.size + 1 by simp] at this
  case round =>
    obtain ⟨pos, b, l, p, hit, hk, hown, rfl, rfl, hsc, hbw⟩ := hrel
    have hpos0 := iterPos_of hit
    have hposs := hsc.hpos
    have hlen := hsc.hlen
    have hbeh := hsc.hbeh
    by_cases hp : pos < s.size
    · obtain ⟨c, hc⟩ : ∃ c, s[pos]'hp = c := ⟨_, rfl⟩
      have hB := digB_lt false c
      by_cases hd : 0 ≤ digB false (s[pos]'hp)
      · have ha : (s[pos]'hp).toNat < 128 := by
          by_cases h : (s[pos]'hp).toNat < 128
          · exact h
          · have := digB_high false (c := s[pos]'hp) (by omega); omega
        have hsc2 := hsc.digit hp hd
        have hnx : ∀ ty, (Instr.next (.pointer (some ⟨w.heap.size + 1, 0, none⟩)) true ty).run Tryz.prog wr = _ := fun ty => Lib.run_next_ascii_at wr (w.heap.size + 1) s pos ty hit hp ha
        have hit2 := Lib.iterAt_heap wr (w.heap.size + 1) s pos (pos + 1) hit
        have hbw2 := Lib.below_iterAt hbw (k := w.heap.size + 1) (by omega) s (pos + 1)
        have hown2 := ownsRow_iterAt hown (k := w.heap.size + 1) (by omega) s (pos + 1)
        have hk2 : Blk (wr.iterAt (w.heap.size + 1) s (pos + 1)) w.heap.size #[.func (.func 54) #[] #[], .int .i32 e] 91 := (Lib.iterAt_other wr (w.heap.size + 1) w.heap.size s (pos + 1) (by omega)).trans hk
        generalize wr.iterAt (w.heap.size + 1) s (pos + 1) = W1 at *
        have hBlt := lt_of_block hit2
        rw [hc] at hnx hsc2 ha hd
        have hdd : digB false c = ((digB false c).toNat : Int) := by omega
        have hdec : decR (c.toNat : Int) = ((digB false c).toNat : Int) := hdd
        generalize (digB false c).toNat = d at *
        have HSC := Lib.hid hsc2
        have HDD := Lib.hid hdd
        have k0 := hk2.cell 0 _ rfl
        have k1 := hk2.cell 1 _ rfl
        have hnn : (0 : Int) ≤ ((d : Nat) : Int) := by omega
        clear hit hown hbw hk hsc hsc2 hdd hd hc
        go_wp2_with fail
        refine (decimal_any (c.toNat : Int) W1 (by omega) (by omega)).mono ?_
        rintro en w1 ⟨rfl, hw⟩
        subst hw
        rw [hdec]
        cases p with
        | true =>
          go_wp2_with (at_builtin; refine wpList_append1 rfl _ _ 82 rfl (w.heap.size + 2) 3 i0 (.int .i64 0) 8 Tryz.underlying82 hi hz0 hz1 hz2 rfl _ _ _ rfl hown2 _ _ rfl rfl (by unfold maxLen; omega) (by omega) (by omega) ?_; intro v' w3 hown3 hg3)
          have hg4 : W1.grownBy w3 u4.ownBlock := hg3
          have hbw3 := Below.grown hbw2 hg4 (by omega) (fun j hj => by have := (hown2.lt _ hj).1; omega)
          have hit3 : w3.heap[w.heap.size + 1]? = some (.stringIter s (pos + 1)) := by
            rw [hg4.block (w.heap.size + 1) hBlt (fun h => by have := (hown2.lt _ h.symm).1; omega)]; exact hit2
          have hk3 : Blk w3 w.heap.size #[.func (.func 54) #[] #[], .int .i32 e] 91 := by
            unfold Blk; rw [hg4.block w.heap.size (by omega) (fun h => by have := (hown2.lt _ h.symm).1; omega)]; exact hk2
          go_roundw
          case rel =>
            refine ⟨pos + 1, _, l ++ [d], true, hit3, hk3, ?_, by go_num, rfl, HSC.out, hbw3⟩
            rw [List.length_append, List.length_singleton, intL, List.map_append]
            exact hown3
          case measure => rw [iterPos_of hit3, hpos0]; omega
        | false =>
          go_wp2_with (at_builtin; refine wpList_append1 rfl _ _ 82 rfl (w.heap.size + 2) 3 i0 (.int .i64 0) 8 Tryz.underlying82 hi hz0 hz1 hz2 rfl _ _ _ rfl hown2 _ _ rfl rfl (by unfold maxLen; omega) (by omega) (by omega) ?_; intro v' w3 hown3 hg3)
          have hg4 : W1.grownBy w3 u4.ownBlock := hg3
          have hbw3 := Below.grown hbw2 hg4 (by omega) (fun j hj => by have := (hown2.lt _ hj).1; omega)
          have hit3 : w3.heap[w.heap.size + 1]? = some (.stringIter s (pos + 1)) := by
            rw [hg4.block (w.heap.size + 1) hBlt (fun h => by have := (hown2.lt _ h.symm).1; omega)]; exact hit2
          have hk3 : Blk w3 w.heap.size #[.func (.func 54) #[] #[], .int .i32 e] 91 := by
            unfold Blk; rw [hg4.block w.heap.size (by omega) (fun h => by have := (hown2.lt _ h.symm).1; omega)]; exact hk2
          go_roundw
          case rel =>
            refine ⟨pos + 1, _, l ++ [d], false, hit3, hk3, ?_, by go_num, rfl, HSC.out, hbw3⟩
            rw [List.length_append, List.length_singleton, intL, List.map_append]
            exact hown3
          case measure => rw [iterPos_of hit3, hpos0]; omega
      · obtain ⟨R, W1, hnx, hbw2, hown2, hk2, hR0, hR1, hdec, hR46, hasc⟩ : ∃ (R : Nat) (W1 : World), (∀ ty, (Instr.next (.pointer (some ⟨w.heap.size + 1, 0, none⟩)) true ty).run Tryz.prog wr = .ok (.tuple #[.bool true, .int .i64 pos, .int .i32 R]) W1) ∧ Below w.heap.size w W1 ∧ W1.ownsRow (w.heap.size + 2) 3 1 u4 l.length (intL l) ∧ Blk W1 w.heap.size #[.func (.func 54) #[] #[], .int .i32 e] 91 ∧ 0 ≤ R ∧ R ≤ 2147483647 ∧ decR (R : Int) = -1 ∧ (R = 46 ↔ s[pos]'hp = 46) ∧ ((s[pos]'hp).toNat < 128 → W1.heap[w.heap.size + 1]? = some (.stringIter s (pos + 1))) := by
          by_cases ha : (s[pos]'hp).toNat < 128
          · refine ⟨(s[pos]'hp).toNat, _, fun ty => Lib.run_next_ascii_at wr (w.heap.size + 1) s pos ty hit hp ha, Lib.below_iterAt hbw (k := w.heap.size + 1) (by omega) s (pos + 1), ownsRow_iterAt hown (k := w.heap.size + 1) (by omega) s (pos + 1), (Lib.iterAt_other wr (w.heap.size + 1) w.heap.size s (pos + 1) (by omega)).trans hk, by omega, by omega, ?_, ?_, fun _ => Lib.iterAt_heap wr (w.heap.size + 1) s pos (pos + 1) hit⟩
            · have h2 : decR ((s[pos]'hp).toNat : Int) = digB false (s[pos]'hp) := rfl
              rw [h2]
              have := digB_lt false (s[pos]'hp)
              omega
            · exact ⟨fun h => UInt8.toNat_inj.1 h, fun h => by rw [h]; rfl⟩
          · have hdh := decode_high s pos hp (by omega)
            refine ⟨(Utf8.decode s pos).1, _, fun ty => Lib.run_next_any_at wr (w.heap.size + 1) s pos ty hit hp, Lib.below_iterAt hbw (k := w.heap.size + 1) (by omega) s _, ownsRow_iterAt hown (k := w.heap.size + 1) (by omega) s _, (Lib.iterAt_other wr (w.heap.size + 1) w.heap.size s _ (by omega)).trans hk, by omega, decode_le s pos, decR_high (by omega), ⟨fun h => by omega, fun h => absurd (by rw [h]; decide) ha⟩, fun h => absurd h ha⟩
        have k0 := hk2.cell 0 _ rfl
        have k1 := hk2.cell 1 _ rfl
        by_cases hpt : R = 46 ∧ p = false
        · obtain ⟨rfl, rfl⟩ := hpt
          have hc46 := hR46.1 rfl
          have hit2 := hasc (by rw [hc46]; decide)
          have HSC := Lib.hid (hsc.point hp hd hc46)
          clear hasc hR46 hit hbw hk hsc hd hown hc46 hc
          go_wp2_with fail
          refine (decimal_any 46 W1 (by omega) (by omega)).mono ?_
          rintro en w1 ⟨rfl, hw⟩
          subst hw
          rw [show decR 46 = -1 from hdec]
          go_wp2_with fail
          go_roundw
          case rel => exact ⟨pos + 1, b, l, true, hit2, hk2, hown2, rfl, rfl, HSC.out, hbw2⟩
          case measure => rw [iterPos_of hit2, hpos0]; omega
        · have hst := hsc.stop hp hd (by rw [← hR46]; exact hpt)
          have HST := Lib.hid hst
          have hq : decide ((0 : Int) < ((l.length : Nat) : Int)) = decide (0 < l.length) := decide_eq_decide.2 (by omega)
          have hwr : IntKind.i64.wrap ((pos : Nat) : Int) = ((pos : Nat) : Int) := wi64 (by omega) (by omega)
          obtain ⟨x4, c4, rfl⟩ := ownsRow_slice hown2
          have hposz : ((pos : Nat) : Int) ≤ ((s.size : Nat) : Int) := by omega
          clear hasc hR46 hit hbw hk hsc hd hown hc hst
          go_wp2_with fail
          refine (decimal_any (R : Int) W1 (by omega) (by omega)).mono ?_
          rintro en w1 ⟨rfl, hw⟩
          subst hw
          rw [hdec]
          by_cases h46 : R = 46
          · cases p with
            | false => exact absurd ⟨h46, rfl⟩ hpt
            | true =>
              clear hpt
              subst h46
              go_wp2_with fail
              go_quiet (fail)
              go_wp2
              exact bodyPost_ret (v := .tuple #[.slice x4 l.length c4, .int .i64 ((b : Nat) : Int), .string (s.extract pos s.size), .bool (decide (0 < l.length))]) (by simp [results, Tryz.results64, go_sem]; try rfl) rfl (digPost HST.out rfl (extract_tail s pos) rfl hown2 (hbw2.trans (below_drewN _ _ _)))
          · have e46 : ((R : Int) == 46) = false := beq_eq_false_iff_ne.2 (by omega)
            clear hpt
            go_wp2_with fail
            go_quiet (fail)
            go_wp2
            exact bodyPost_ret (v := .tuple #[.slice x4 l.length c4, .int .i64 ((b : Nat) : Int), .string (s.extract pos s.size), .bool (decide (0 < l.length))]) (by simp [results, Tryz.results64, go_sem]; try rfl) rfl (digPost HST.out rfl (extract_tail s pos) rfl hown2 (hbw2.trans (below_drewN _ _ _)))
    · have HD := Lib.hid (hsc.done hp)
      have hnx : ∀ ty, (Instr.next (.pointer (some ⟨w.heap.size + 1, 0, none⟩)) true ty).run Tryz.prog wr = _ := fun ty => Lib.run_next_end_at wr (w.heap.size + 1) s pos ty hit hp
      obtain ⟨x4, c4, rfl⟩ := ownsRow_slice hown
      have hq : decide ((0 : Int) < ((l.length : Nat) : Int)) = decide (0 < l.length) := decide_eq_decide.2 (by omega)
      clear hit hk hsc
      go_wp2_with fail
      exact bodyPost_ret (v := .tuple #[.slice x4 l.length c4, .int .i64 ((b : Nat) : Int), .string ⟨#[]⟩, .bool (decide (0 < l.length))]) (by simp [results, Tryz.results64, go_sem]; try rfl) rfl (digPost HD.out rfl rfl rfl hown hbw)

set_option maxRecDepth 1000000 in
set_option maxHeartbeats 4000000 in
theorem digits_hex (e : Int) (s : ByteArray) (w : World) (hs : s.size ≤ 100000) :
    Calls Tryz.prog 64 #[.agg #[.func (.func 63) #[] #[], .int .i32 e], .string s] w (DigPost true s w) := by
  obtain ⟨i0, hi, hz0, hz1, hz2⟩ := info_parts Tryz.infoI
  go_enter Tryz.func64, Tryz.ntmps64
  have hb1 := (Below.refl w.heap.size w).alloc (Nat.le_refl _) (.cells #[.func (.func 63) #[] #[], .int .i32 e] 91)
  have hk0 := Blk.new w #[.func (.func 63) #[] #[], .int .i32 e] 91
  go_wp2_with fail
  go_loopw [4, 5, 8] (fun u4 u5 u8 wr => ∃ (pos b : Nat) (l : List Nat) (p : Bool), wr.heap[w.heap.size + 1]? = some (.stringIter s pos) ∧ Blk wr w.heap.size #[.func (.func 63) #[] #[], .int .i32 e] 91 ∧ wr.ownsRow (w.heap.size + 2) 3 1 u4 l.length (intL l) ∧ u5 = .int .i64 ((b : Nat) : Int) ∧ u8 = .bool p ∧ ScanAt true s pos l b p ∧ Below w.heap.size w wr) (fun _ _ _ wr => s.size - wr.iterPos (w.heap.size + 1))
  case atStart =>
    refine ⟨0, 0, [], false, ?_, hk0.alloc _, World.ownsRow_nil _ _ _ _, rfl, rfl, ScanAt.start _ _, hb1.alloc (by simp) _⟩
    have := World.iter_heap (w.alloc (.cells #[.func (.func 63) #[] #[], .int .i32 e] 91)) s 0
    rwa [show (w.alloc (.cells #[.func (.func 63) #[] #[], .int .i32 e] 91)).heap.size = w.heap.size + 1 by simp] at this
  case round =>
    obtain ⟨pos, b, l, p, hit, hk, hown, rfl, rfl, hsc, hbw⟩ := hrel
    have hpos0 := iterPos_of hit
    have hposs := hsc.hpos
    have hlen := hsc.hlen
    have hbeh := hsc.hbeh
    by_cases hp : pos < s.size
    · obtain ⟨c, hc⟩ : ∃ c, s[pos]'hp = c := ⟨_, rfl⟩
      have hB := digB_lt true c
      by_cases hd : 0 ≤ digB true (s[pos]'hp)
      · have ha : (s[pos]'hp).toNat < 128 := by
          by_cases h : (s[pos]'hp).toNat < 128
          · exact h
          · have := digB_high true (c := s[pos]'hp) (by omega); omega
        have hsc2 := hsc.digit hp hd
        have hnx : ∀ ty, (Instr.next (.pointer (some ⟨w.heap.size + 1, 0, none⟩)) true ty).run Tryz.prog wr = _ := fun ty => Lib.run_next_ascii_at wr (w.heap.size + 1) s pos ty hit hp ha
        have hit2 := Lib.iterAt_heap wr (w.heap.size + 1) s pos (pos + 1) hit
        have hbw2 := Lib.below_iterAt hbw (k := w.heap.size + 1) (by omega) s (pos + 1)
        have hown2 := ownsRow_iterAt hown (k := w.heap.size + 1) (by omega) s (pos + 1)
        have hk2 : Blk (wr.iterAt (w.heap.size + 1) s (pos + 1)) w.heap.size #[.func (.func 63) #[] #[], .int .i32 e] 91 := (Lib.iterAt_other wr (w.heap.size + 1) w.heap.size s (pos + 1) (by omega)).trans hk
        generalize wr.iterAt (w.heap.size + 1) s (pos + 1) = W1 at *
        have hBlt := lt_of_block hit2
        rw [hc] at hnx hsc2 ha hd
        have hdd : digB true c = ((digB true c).toNat : Int) := by omega
        have hdec : hexR (c.toNat : Int) = ((digB true c).toNat : Int) := hdd
        generalize (digB true c).toNat = d at *
        have HSC := Lib.hid hsc2
        have HDD := Lib.hid hdd
        have k0 := hk2.cell 0 _ rfl
        have k1 := hk2.cell 1 _ rfl
        have hnn : (0 : Int) ≤ ((d : Nat) : Int) := by omega
        clear hit hown hbw hk hsc hsc2 hdd hd hc
        go_wp2_with fail
        refine (hexadecimal_any (c.toNat : Int) W1 (by omega) (by omega)).mono ?_
        rintro en w1 ⟨rfl, hw⟩
        subst hw
        rw [hdec]
        cases p with
        | true =>
          go_wp2_with (at_builtin; refine wpList_append1 rfl _ _ 82 rfl (w.heap.size + 2) 3 i0 (.int .i64 0) 8 Tryz.underlying82 hi hz0 hz1 hz2 rfl _ _ _ rfl hown2 _ _ rfl rfl (by unfold maxLen; omega) (by omega) (by omega) ?_; intro v' w3 hown3 hg3)
          have hg4 : W1.grownBy w3 u4.ownBlock := hg3
          have hbw3 := Below.grown hbw2 hg4 (by omega) (fun j hj => by have := (hown2.lt _ hj).1; omega)
          have hit3 : w3.heap[w.heap.size + 1]? = some (.stringIter s (pos + 1)) := by
            rw [hg4.block (w.heap.size + 1) hBlt (fun h => by have := (hown2.lt _ h.symm).1; omega)]; exact hit2
          have hk3 : Blk w3 w.heap.size #[.func (.func 63) #[] #[], .int .i32 e] 91 := by
            unfold Blk; rw [hg4.block w.heap.size (by omega) (fun h => by have := (hown2.lt _ h.symm).1; omega)]; exact hk2
          go_roundw
          case rel =>
            refine ⟨pos + 1, _, l ++ [d], true, hit3, hk3, ?_, by go_num, rfl, HSC.out, hbw3⟩
            rw [List.length_append, List.length_singleton, intL, List.map_append]
            exact hown3
          case measure => rw [iterPos_of hit3, hpos0]; omega
        | false =>
          go_wp2_with (at_builtin; refine wpList_append1 rfl _ _ 82 rfl (w.heap.size + 2) 3 i0 (.int .i64 0) 8 Tryz.underlying82 hi hz0 hz1 hz2 rfl _ _ _ rfl hown2 _ _ rfl rfl (by unfold maxLen; omega) (by omega) (by omega) ?_; intro v' w3 hown3 hg3)
          have hg4 : W1.grownBy w3 u4.ownBlock := hg3
          have hbw3 := Below.grown hbw2 hg4 (by omega) (fun j hj => by have := (hown2.lt _ hj).1; omega)
          have hit3 : w3.heap[w.heap.size + 1]? = some (.stringIter s (pos + 1)) := by
            rw [hg4.block (w.heap.size + 1) hBlt (fun h => by have := (hown2.lt _ h.symm).1; omega)]; exact hit2
          have hk3 : Blk w3 w.heap.size #[.func (.func 63) #[] #[], .int .i32 e] 91 := by
            unfold Blk; rw [hg4.block w.heap.size (by omega) (fun h => by have := (hown2.lt _ h.symm).1; omega)]; exact hk2
          go_roundw
          case rel =>
            refine ⟨pos + 1, _, l ++ [d], false, hit3, hk3, ?_, by go_num, rfl, HSC.out, hbw3⟩
            rw [List.length_append, List.length_singleton, intL, List.map_append]
            exact hown3
          case measure => rw [iterPos_of hit3, hpos0]; omega
      · obtain ⟨R, W1, hnx, hbw2, hown2, hk2, hR0, hR1, hdec, hR46, hasc⟩ : ∃ (R : Nat) (W1 : World), (∀ ty, (Instr.next (.pointer (some ⟨w.heap.size + 1, 0, none⟩)) true ty).run Tryz.prog wr = .ok (.tuple #[.bool true, .int .i64 pos, .int .i32 R]) W1) ∧ Below w.heap.size w W1 ∧ W1.ownsRow (w.heap.size + 2) 3 1 u4 l.length (intL l) ∧ Blk W1 w.heap.size #[.func (.func 63) #[] #[], .int .i32 e] 91 ∧ 0 ≤ R ∧ R ≤ 2147483647 ∧ hexR (R : Int) = -1 ∧ (R = 46 ↔ s[pos]'hp = 46) ∧ ((s[pos]'hp).toNat < 128 → W1.heap[w.heap.size + 1]? = some (.stringIter s (pos + 1))) := by
          by_cases ha : (s[pos]'hp).toNat < 128
          · refine ⟨(s[pos]'hp).toNat, _, fun ty => Lib.run_next_ascii_at wr (w.heap.size + 1) s pos ty hit hp ha, Lib.below_iterAt hbw (k := w.heap.size + 1) (by omega) s (pos + 1), ownsRow_iterAt hown (k := w.heap.size + 1) (by omega) s (pos + 1), (Lib.iterAt_other wr (w.heap.size + 1) w.heap.size s (pos + 1) (by omega)).trans hk, by omega, by omega, ?_, ?_, fun _ => Lib.iterAt_heap wr (w.heap.size + 1) s pos (pos + 1) hit⟩
            · have h2 : hexR ((s[pos]'hp).toNat : Int) = digB true (s[pos]'hp) := rfl
              rw [h2]
              have := digB_lt true (s[pos]'hp)
              omega
            · exact ⟨fun h => UInt8.toNat_inj.1 h, fun h => by rw [h]; rfl⟩
          · have hdh := decode_high s pos hp (by omega)
            refine ⟨(Utf8.decode s pos).1, _, fun ty => Lib.run_next_any_at wr (w.heap.size + 1) s pos ty hit hp, Lib.below_iterAt hbw (k := w.heap.size + 1) (by omega) s _, ownsRow_iterAt hown (k := w.heap.size + 1) (by omega) s _, (Lib.iterAt_other wr (w.heap.size + 1) w.heap.size s _ (by omega)).trans hk, by omega, decode_le s pos, hexR_high (by omega), ⟨fun h => by omega, fun h => absurd (by rw [h]; decide) ha⟩, fun h => absurd h ha⟩
        have k0 := hk2.cell 0 _ rfl
        have k1 := hk2.cell 1 _ rfl
        by_cases hpt : R = 46 ∧ p = false
        · obtain ⟨rfl, rfl⟩ := hpt
          have hc46 := hR46.1 rfl
          have hit2 := hasc (by rw [hc46]; decide)
          have HSC := Lib.hid (hsc.point hp hd hc46)
          clear hasc hR46 hit hbw hk hsc hd hown hc46 hc
          go_wp2_with fail
          refine (hexadecimal_any 46 W1 (by omega) (by omega)).mono ?_
          rintro en w1 ⟨rfl, hw⟩
          subst hw
          rw [show hexR 46 = -1 from hdec]
          go_wp2_with fail
          go_roundw
          case rel => exact ⟨pos + 1, b, l, true, hit2, hk2, hown2, rfl, rfl, HSC.out, hbw2⟩
          case measure => rw [iterPos_of hit2, hpos0]; omega
        · have hst := hsc.stop hp hd (by rw [← hR46]; exact hpt)
          have HST := Lib.hid hst
          have hq : decide ((0 : Int) < ((l.length : Nat) : Int)) = decide (0 < l.length) := decide_eq_decide.2 (by omega)
          have hwr : IntKind.i64.wrap ((pos : Nat) : Int) = ((pos : Nat) : Int) := wi64 (by omega) (by omega)
          obtain ⟨x4, c4, rfl⟩ := ownsRow_slice hown2
          have hposz : ((pos : Nat) : Int) ≤ ((s.size : Nat) : Int) := by omega
          clear hasc hR46 hit hbw hk hsc hd hown hc hst
          go_wp2_with fail
          refine (hexadecimal_any (R : Int) W1 (by omega) (by omega)).mono ?_
          rintro en w1 ⟨rfl, hw⟩
          subst hw
          rw [hdec]
          by_cases h46 : R = 46
          · cases p with
            | false => exact absurd ⟨h46, rfl⟩ hpt
            | true =>
              clear hpt
              subst h46
              go_wp2_with fail
              go_quiet (fail)
              go_wp2
              exact bodyPost_ret (v := .tuple #[.slice x4 l.length c4, .int .i64 ((b : Nat) : Int), .string (s.extract pos s.size), .bool (decide (0 < l.length))]) (by simp [results, Tryz.results64, go_sem]; try rfl) rfl (digPost HST.out rfl (extract_tail s pos) rfl hown2 (hbw2.trans (below_drewN _ _ _)))
          · have e46 : ((R : Int) == 46) = false := beq_eq_false_iff_ne.2 (by omega)
            clear hpt
            go_wp2_with fail
            go_quiet (fail)
            go_wp2
            exact bodyPost_ret (v := .tuple #[.slice x4 l.length c4, .int .i64 ((b : Nat) : Int), .string (s.extract pos s.size), .bool (decide (0 < l.length))]) (by simp [results, Tryz.results64, go_sem]; try rfl) rfl (digPost HST.out rfl (extract_tail s pos) rfl hown2 (hbw2.trans (below_drewN _ _ _)))
    · have HD := Lib.hid (hsc.done hp)
      have hnx : ∀ ty, (Instr.next (.pointer (some ⟨w.heap.size + 1, 0, none⟩)) true ty).run Tryz.prog wr = _ := fun ty => Lib.run_next_end_at wr (w.heap.size + 1) s pos ty hit hp
      obtain ⟨x4, c4, rfl⟩ := ownsRow_slice hown
      have hq : decide ((0 : Int) < ((l.length : Nat) : Int)) = decide (0 < l.length) := decide_eq_decide.2 (by omega)
      clear hit hk hsc
      go_wp2_with fail
      exact bodyPost_ret (v := .tuple #[.slice x4 l.length c4, .int .i64 ((b : Nat) : Int), .string ⟨#[]⟩, .bool (decide (0 < l.length))]) (by simp [results, Tryz.results64, go_sem]; try rfl) rfl (digPost HD.out rfl rfl rfl hown hbw)
end Go.Proofs.YtkfbailpifmdcaaGreatDoor
end

section
namespace Go.Proofs.YtkfbailpifmdcaaGreatDoor
open Go.RowKit

/-- Digits to the end, cut at 2^20; none: there is another byte. -/
def expG : Nat → List UInt8 → Option Nat
  | n, [] => some n
  | n, c :: t => if 0 ≤ decR (c.toNat : Int) then expG (min (n * 10 + (decR (c.toNat : Int)).toNat) 1048576) t else none
def expT (s : List UInt8) : List UInt8 := if Lib.hasPrefix s [45] || Lib.hasPrefix s [43] then s.drop 1 else s
def expP (s : List UInt8) : Int × Bool := match expG 0 (expT s) with
  | none => (0, false)
  | some n => (if Lib.hasPrefix s [45] then -((n : Nat) : Int) else ((n : Nat) : Int), !(expT s).isEmpty)

theorem expG_le : ∀ (l : List UInt8) (n k : Nat), n ≤ 1048576 → expG n l = some k → k ≤ 1048576
  | [], n, k, h, e => by simp only [expG, Option.some.injEq] at e; omega
  | c :: t, n, k, h, e => by
    rw [expG] at e
    split at e
    · exact expG_le t _ k (Nat.min_le_right _ _) e
    · cases e

theorem bytes_empty (t : ByteArray) : t.toList.isEmpty = t.data.isEmpty := by
  rw [← decide_eq_emptyBytes t]
  cases h : t.data.isEmpty with
  | true => exact decide_eq_true (ByteArray.ext (Array.isEmpty_iff.1 h))
  | false => exact decide_eq_false (fun e => by rw [e] at h; exact absurd h (by decide))

theorem prefix_one {s : ByteArray} (h : (Lib.hasPrefix s.data.toList [45] || Lib.hasPrefix s.data.toList [43]) = true) : 1 ≤ s.size := by
  have h2 : s.size = s.data.toList.length := by simp
  rw [h2]
  cases h3 : s.data.toList with
  | nil => rw [h3] at h; exact absurd h (by decide)
  | cons a b => simp

set_option maxRecDepth 1000000 in
set_option maxHeartbeats 4000000 in
theorem exponent_any (s : ByteArray) (w : World) (hs : s.size ≤ 100000) :
    Calls Tryz.prog 65 #[.string s] w fun en w' => en = .returned (.tuple #[.int .i64 (expP s.data.toList).1, .bool (expP s.data.toList).2]) ∧ Below w.heap.size w w' := by
  obtain ⟨R, hR⟩ : ∃ R, expP s.data.toList = R := ⟨_, rfl⟩
  rw [hR]
  unfold expP at hR
  have HR := Lib.hid hR
  clear hR
  go_enter Tryz.func65, Tryz.ntmps65
  go_wp2_with fail
  refine (Tryz.strings_HasPrefix s ⟨#[45]⟩ w).mono ?_
  rintro e w1 ⟨rfl, hw⟩
  subst hw
  have e45 : Lib.hasPrefix s.data.toList (⟨#[45]⟩ : ByteArray).data.toList = Lib.hasPrefix s.data.toList [45] := rfl
  rw [e45]
  obtain ⟨neg, hneg⟩ : ∃ b, Lib.hasPrefix s.data.toList [45] = b := ⟨_, rfl⟩
  obtain ⟨plus, hplus⟩ : ∃ b, Lib.hasPrefix s.data.toList [43] = b := ⟨_, rfl⟩
  rw [hneg]
  go_upto_region 2 with fail
  go_cut [15] (fun u15 wx => u15 = .bool (neg || plus) ∧ wx = w1)
  case first =>
    cases neg with
    | true =>
      go_wp2_with fail
      go_meet
      exact ⟨rfl, rfl⟩
    | false =>
      go_wp2_with fail
      refine (Tryz.strings_HasPrefix s ⟨#[43]⟩ w1).mono ?_
      rintro e w2 ⟨rfl, hw⟩
      subst hw
      have e43 : Lib.hasPrefix s.data.toList (⟨#[43]⟩ : ByteArray).data.toList = plus := hplus
      rw [e43]
      go_wp2_with fail
      go_meet
      exact ⟨by simp, rfl⟩
  case rest =>
    obtain ⟨rfl, rfl⟩ := hcut
    go_upto_if 15 with fail
    go_cut [0] (fun u0 wx => ∃ t : ByteArray, u0 = .string t ∧ t.data.toList = expT s.data.toList ∧ wx = wc)
    case first =>
      cases hnp : (neg || plus) with
      | true =>
        have h1 : 1 ≤ s.size := prefix_one (by rw [hneg, hplus]; exact hnp)
        have h1i : (1 : Int) ≤ ((s.size : Nat) : Int) := by omega
        go_wp2_with fail
        go_meet
        refine ⟨_, rfl, ?_, rfl⟩
        rw [extract_tail s 1]
        simp only [expT, hneg, hplus, hnp, if_true]
      | false =>
        go_wp2_with fail
        go_meet
        refine ⟨_, rfl, ?_, rfl⟩
        simp only [expT, hneg, hplus, hnp, Bool.false_eq_true, if_false]
    case rest =>
      obtain ⟨t, rfl, ht, rfl⟩ := hcut
      have hts : t.size ≤ 100000 := by
        have h1 : t.size = t.data.toList.length := by simp
        have h2 : s.size = s.data.toList.length := by simp
        rw [h1, ht]
        unfold expT
        split
        · rw [List.length_drop]; omega
        · omega
      rw [← ht] at HR
      have hR2 := HR.out
      rw [hneg] at hR2
      have HR2 := Lib.hid hR2
      clear hR2 HR
      go_wp2_with fail
      go_loopw [5] (fun u5 wr => ∃ (pos n : Nat), wr.heap[wc.heap.size]? = some (.stringIter t pos) ∧ u5 = .int .i64 ((n : Nat) : Int) ∧ pos ≤ t.size ∧ n ≤ 1048576 ∧ Hid (expG 0 t.data.toList = expG n (t.data.toList.drop pos)) ∧ Below wc.heap.size wc wr) (fun _ wr => t.size - wr.iterPos wc.heap.size)
      case atStart => exact ⟨0, 0, World.iter_heap wc t 0, rfl, Nat.zero_le _, by omega, by simp [Hid], (Below.refl _ _).alloc (Nat.le_refl _) _⟩
      case round =>
        obtain ⟨pos, n, hit, rfl, hposs, hn, HG, hbw⟩ := hrel
        have hpos0 := iterPos_of hit
        by_cases hp : pos < t.size
        · have hdp := drop_at t pos hp
          obtain ⟨c, hc⟩ : ∃ c, t[pos]'hp = c := ⟨_, rfl⟩
          rw [hc] at hdp
          have hg := HG.out
          rw [hdp, expG] at hg
          by_cases hd : 0 ≤ decR (c.toNat : Int)
          · have ha : (t[pos]'hp).toNat < 128 := by
              rw [hc]
              by_cases h : c.toNat < 128
              · exact h
              · have := decR_high (r := c.toNat) (by omega); omega
            rw [if_pos hd] at hg
            have hnx : ∀ ty, (Instr.next (.pointer (some ⟨wc.heap.size, 0, none⟩)) true ty).run Tryz.prog wr = _ := fun ty => Lib.run_next_ascii_at wr wc.heap.size t pos ty hit hp ha
            have hit2 := Lib.iterAt_heap wr wc.heap.size t pos (pos + 1) hit
            have hbw2 := Lib.below_iterAt hbw (k := wc.heap.size) (by omega) t (pos + 1)
            generalize wr.iterAt wc.heap.size t (pos + 1) = W1 at *
            rw [hc] at hnx ha
            have hdec : decR (c.toNat : Int) = ((decR (c.toNat : Int)).toNat : Int) := by omega
            have hd9 : decR (c.toNat : Int) ≤ 9 := by simp only [decR]; split <;> omega
            generalize (decR (c.toNat : Int)).toNat = d at *
            have HG2 := Lib.hid hg
            have hnn : (0 : Int) ≤ ((d : Nat) : Int) := by omega
            have hmin : min (((n : Nat) : Int) * 10 + ((d : Nat) : Int)) 1048576 = ((min (n * 10 + d) 1048576 : Nat) : Int) := by omega
            have hmle : min (n * 10 + d) 1048576 ≤ 1048576 := Nat.min_le_right _ _
            have hd10 : d ≤ 9 := by omega
            clear hg HG hdp hit hbw hd hc hd9
            go_wp2_with fail
            refine (decimal_any (c.toNat : Int) W1 (by omega) (by omega)).mono ?_
            rintro en w1 ⟨rfl, hw⟩
            subst hw
            rw [hdec]
            go_wp2_with fail
            go_roundw
            case rel => exact ⟨pos + 1, _, hit2, hmin ▸ rfl, by omega, hmle, HG2, hbw2⟩
            case measure => rw [iterPos_of hit2, hpos0]; omega
          · rw [if_neg hd] at hg
            have hr := HR2.out
            rw [hg] at hr
            obtain ⟨r, W1, hnx, hbw2, hR0, hR1, hdec⟩ : ∃ (r : Nat) (W1 : World), (∀ ty, (Instr.next (.pointer (some ⟨wc.heap.size, 0, none⟩)) true ty).run Tryz.prog wr = .ok (.tuple #[.bool true, .int .i64 pos, .int .i32 r]) W1) ∧ Below wc.heap.size wc W1 ∧ 0 ≤ r ∧ r ≤ 2147483647 ∧ decR (r : Int) = -1 := by
              by_cases ha : (t[pos]'hp).toNat < 128
              · refine ⟨(t[pos]'hp).toNat, _, fun ty => Lib.run_next_ascii_at wr wc.heap.size t pos ty hit hp ha, Lib.below_iterAt hbw (k := wc.heap.size) (by omega) t (pos + 1), by omega, by omega, ?_⟩
                rw [hc]
                have := digB_lt false c
                have h2 : decR (c.toNat : Int) = digB false c := rfl
                omega
              · have hdh := decode_high t pos hp (by omega)
                exact ⟨(Utf8.decode t pos).1, _, fun ty => Lib.run_next_any_at wr wc.heap.size t pos ty hit hp, Lib.below_iterAt hbw (k := wc.heap.size) (by omega) t _, by omega, decode_le t pos, decR_high (by omega)⟩
            subst hr
            clear HR2 hit hbw hg HG hd hc hdp
            go_wp2_with fail
            refine (decimal_any (r : Int) W1 (by omega) (by omega)).mono ?_
            rintro en w1 ⟨rfl, hw⟩
            subst hw
            rw [hdec]
            go_wp2_with fail
            go_ret2
            exact ⟨rfl, hbw2⟩
        · have hg := HG.out
          have hdn : t.data.toList.drop pos = [] := List.drop_eq_nil_of_le (by simp; omega)
          rw [hdn, expG] at hg
          have hr := HR2.out
          rw [hg] at hr
          have hnx : ∀ ty, (Instr.next (.pointer (some ⟨wc.heap.size, 0, none⟩)) true ty).run Tryz.prog wr = _ := fun ty => Lib.run_next_end_at wr wc.heap.size t pos ty hit hp
          clear HR2 hit hg HG hdn
          have HR3 := Lib.hid hr
          clear hr
          cases neg with
          | true =>
            go_wp2_with fail
            go_ret2
            exact ⟨by rw [← HR3.out]; simp [bytes_empty], hbw⟩
          | false =>
            go_wp2_with fail
            go_ret2
            exact ⟨by rw [← HR3.out]; simp [bytes_empty], hbw⟩
end Go.Proofs.YtkfbailpifmdcaaGreatDoor
end
