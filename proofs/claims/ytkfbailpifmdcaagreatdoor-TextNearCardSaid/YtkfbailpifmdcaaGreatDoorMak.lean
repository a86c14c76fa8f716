/- ParG ParH Bld Fmt Dec -/
import Derived.Test.YtkfbailpifmdcaaGreatDoorMaj
import Derived.Shelf.Strings.Builder1
import Derived.Shelf.Strconv.Itoa3
import Derived.Lib.AppendIntMem
section
namespace Go.Proofs.YtkfbailpifmdcaaGreatDoor
open Go.RowKit

def nanL : List UInt8 := [110, 97, 110]
def infL : List UInt8 := [105, 110, 102]
def infinityL : List UInt8 := [105, 110, 102, 105, 110, 105, 116, 121]
/-- A text without its sign. -/
def bodyL (u : List UInt8) : List UInt8 := if Lib.hasPrefix u [45] then Lib.trimPrefix u [45] else Lib.trimPrefix u [43]
def parseB (neg : Bool) (t : List UInt8) : (Nat × Nat) × Nat :=
  if t = nanL then ((9221120237041090560, 0), 0) else if t = infL ∨ t = infinityL then ((if neg then 18442240474082181120 else 9218868437227405312, 0), 0) else
  ((numberP neg t).getD (0, 0), if (numberP neg t).isSome then 0 else 280)
def parseP (s : List UInt8) : (Nat × Nat) × Nat :=
  if 4096 < s.length then ((0, 0), 4) else parseB (Lib.hasPrefix (smallL s) [45]) (bodyL (smallL s))

theorem number_any (neg : Bool) (s : ByteArray) (w : World) (hs : s.size ≤ 4096) (hT : TabW w) :
    Calls Tryz.prog 29 #[.bool neg, .string s] w (NumbPost w (numberP neg s.data.toList)) := by
  cases hx : Lib.hasPrefix s.data.toList [48, 120] with
  | false => exact number_dec neg s w hs hx hT
  | true => exact number_hex neg s w hs hx hT

theorem str_eq (t : ByteArray) (l : List UInt8) : t = ⟨l.toArray⟩ ↔ t.data.toList = l := by
  constructor
  · intro h; rw [h]
  · intro h; rw [← h]

set_option maxRecDepth 1000000 in
set_option maxHeartbeats 4000000 in
theorem Parse_any (s : ByteArray) (w : World) (hT : TabW w) :
    Calls Tryz.prog 9 #[.string s] w fun e w' => e = .returned (.tuple #[.agg #[.int .u64 (((parseP s.data.toList).1.1 : Nat) : Int), .int .u8 (((parseP s.data.toList).1.2 : Nat) : Int)], .int .i64 (((parseP s.data.toList).2 : Nat) : Int)]) ∧ Below w.heap.size w w' := by
  obtain ⟨R, hR⟩ : ∃ R, parseP s.data.toList = R := ⟨_, rfl⟩
  rw [hR]
  have hsl : s.data.toList.length = s.size := by simp
  unfold parseP at hR
  rw [hsl] at hR
  have HR := Lib.hid hR
  have hb1 := (Below.refl w.heap.size w).alloc (Nat.le_refl _) (.cells #[.int .u64 0, .int .u8 0] 25)
  have hk1 := Blk.new w #[.int .u64 0, .int .u8 0] 25
  clear hR hsl
  by_cases hlong : 4096 < s.size
  · have hr := HR.out
    rw [if_pos hlong] at hr
    subst hr
    clear HR
    have hli : (4096 : Int) < ((s.size : Nat) : Int) := by omega
    go_enter Tryz.func9, Tryz.ntmps9
    go_wp2_with fail
    have o0 := hk1.cell 0 _ rfl
    have o1 := hk1.cell 1 _ rfl
    exact bodyPost_ret (v := .tuple #[.agg #[.int .u64 0, .int .u8 0], .int .i64 4]) (by simp [results, Tryz.results9, go_sem, o0, o1]; try rfl) rfl ⟨rfl, hb1⟩
  have hr := HR.out
  rw [if_neg hlong] at hr
  have hli : ((s.size : Nat) : Int) ≤ 4096 := by omega
  obtain ⟨u, hu⟩ : ∃ u : ByteArray, (⟨(smallL s.data.toList).toArray⟩ : ByteArray) = u := ⟨_, rfl⟩
  have hul : smallL s.data.toList = u.data.toList := by rw [← hu]
  obtain ⟨neg, hneg⟩ : ∃ b, Lib.hasPrefix u.data.toList [45] = b := ⟨_, rfl⟩
  obtain ⟨t, ht⟩ : ∃ t : ByteArray, t.data.toList = bodyL u.data.toList := ⟨⟨(bodyL u.data.toList).toArray⟩, rfl⟩
  rw [hul, hneg, ← ht] at hr
  have HR2 := Lib.hid hr
  have hts : t.size ≤ 4096 := by
    have h1 : t.size = t.data.toList.length := by simp
    have h2 : u.data.toList.length = s.size := by rw [← hul]; simp [smallL]
    have h3 := trim_len u.data.toList [45]
    have h4 := trim_len u.data.toList [43]
    rw [h1, ht]
    unfold bodyL
    split <;> omega
  clear HR hr
  go_enter Tryz.func9, Tryz.ntmps9
  go_wp2_with fail
  refine (small_any s _ (by omega)).mono ?_
  rintro e w1 ⟨rfl, hb2⟩
  rw [hu]
  have hb3 := hb1.trans (hb2.mono hb1.size)
  have hk2 := hk1.call hb2
  go_wp2_with fail
  refine (Tryz.strings_CutPrefix u ⟨#[45]⟩ w1).mono ?_
  rintro e w2 ⟨rfl, hw⟩
  subst hw
  have e45 : Lib.hasPrefix u.data.toList (⟨#[45]⟩ : ByteArray).data.toList = neg := hneg
  rw [e45]
  go_upto_if 20 with fail
  go_cut [4] (fun u4 wx => u4 = .string t ∧ wx = w2)
  case first =>
    cases neg with
    | true =>
      have et : (⟨(Lib.trimPrefix u.data.toList (⟨#[45]⟩ : ByteArray).data.toList).toArray⟩ : ByteArray) = t := by
        symm; rw [str_eq, ht, bodyL, hneg]; rfl
      rw [et]
      go_wp2_with fail
      go_meet
      exact ⟨rfl, rfl⟩
    | false =>
      go_wp2_with fail
      refine (Tryz.strings_TrimPrefix u ⟨#[43]⟩ w2).mono ?_
      rintro e w3 ⟨rfl, hw⟩
      subst hw
      have et : (⟨(Lib.trimPrefix u.data.toList (⟨#[43]⟩ : ByteArray).data.toList).toArray⟩ : ByteArray) = t := by
        symm; rw [str_eq, ht, bodyL, hneg]; rfl
      rw [et]
      go_wp2_with fail
      go_meet
      exact ⟨rfl, rfl⟩
  case rest =>
    obtain ⟨rfl, rfl⟩ := hcut
    have k0 := hk2.cell 0 _ rfl
    have k1 := hk2.cell 1 _ rfl
    have f0 := hk2.free 0
    have f1 := hk2.free 1
    by_cases hnan : t.data.toList = nanL
    · have hr := HR2.out
      rw [parseB, if_pos hnan] at hr
      subst hr
      have e1 := (str_eq t nanL).2 hnan
      go_wp2_with fail
      have hd3 := (hk2.set 0 (.int .u64 9221120237041090560)).set 1 (.int .u8 0)
      have o0 := hd3.cell 0 _ rfl
      have o1 := hd3.cell 1 _ rfl
      exact bodyPost_ret (v := .tuple #[.agg #[.int .u64 9221120237041090560, .int .u8 0], .int .i64 0]) (by simp [results, Tryz.results9, go_sem, o0, o1]; try rfl) rfl ⟨rfl, (hb3.setCell (by simp) _).setCell (by simp) _⟩
    have enan : (t.toList == [110, 97, 110]) = false := by rw [ByteArray.toList_eq]; exact beq_eq_false_iff_ne.2 hnan
    by_cases hinf : t.data.toList = infL ∨ t.data.toList = infinityL
    · have hr := HR2.out
      rw [parseB, if_neg hnan, if_pos hinf] at hr
      subst hr
      clear HR2 hnan
      rcases hinf with hi | hi
      · have e1 := (str_eq t infL).2 hi
        cases neg with
        | true =>
          go_wp2_with fail
          have hd3 := (hk2.set 0 (.int .u64 18442240474082181120)).set 1 (.int .u8 0)
          have o0 := hd3.cell 0 _ rfl
          have o1 := hd3.cell 1 _ rfl
          exact bodyPost_ret (v := .tuple #[.agg #[.int .u64 18442240474082181120, .int .u8 0], .int .i64 0]) (by simp [results, Tryz.results9, go_sem, o0, o1]; try rfl) rfl ⟨rfl, (hb3.setCell (by simp) _).setCell (by simp) _⟩
        | false =>
          go_wp2_with fail
          have hd3 := (hk2.set 0 (.int .u64 9218868437227405312)).set 1 (.int .u8 0)
          have o0 := hd3.cell 0 _ rfl
          have o1 := hd3.cell 1 _ rfl
          exact bodyPost_ret (v := .tuple #[.agg #[.int .u64 9218868437227405312, .int .u8 0], .int .i64 0]) (by simp [results, Tryz.results9, go_sem, o0, o1]; try rfl) rfl ⟨rfl, (hb3.setCell (by simp) _).setCell (by simp) _⟩
      · have e1 := (str_eq t infinityL).2 hi
        cases neg with
        | true =>
          go_wp2_with fail
          have hd3 := (hk2.set 0 (.int .u64 18442240474082181120)).set 1 (.int .u8 0)
          have o0 := hd3.cell 0 _ rfl
          have o1 := hd3.cell 1 _ rfl
          exact bodyPost_ret (v := .tuple #[.agg #[.int .u64 18442240474082181120, .int .u8 0], .int .i64 0]) (by simp [results, Tryz.results9, go_sem, o0, o1]; try rfl) rfl ⟨rfl, (hb3.setCell (by simp) _).setCell (by simp) _⟩
        | false =>
          go_wp2_with fail
          have hd3 := (hk2.set 0 (.int .u64 9218868437227405312)).set 1 (.int .u8 0)
          have o0 := hd3.cell 0 _ rfl
          have o1 := hd3.cell 1 _ rfl
          exact bodyPost_ret (v := .tuple #[.agg #[.int .u64 9218868437227405312, .int .u8 0], .int .i64 0]) (by simp [results, Tryz.results9, go_sem, o0, o1]; try rfl) rfl ⟨rfl, (hb3.setCell (by simp) _).setCell (by simp) _⟩
    have hr := HR2.out
    rw [parseB, if_neg hnan, if_neg hinf] at hr
    have einf : (t.toList == [105, 110, 102]) = false := by rw [ByteArray.toList_eq]; exact beq_eq_false_iff_ne.2 (fun h => hinf (Or.inl h))
    have einfinity : (t.toList == [105, 110, 102, 105, 110, 105, 116, 121]) = false := by rw [ByteArray.toList_eq]; exact beq_eq_false_iff_ne.2 (fun h => hinf (Or.inr h))
    have hnum := number_any neg t _ hts (hT.call hb3)
    generalize numberP neg t.data.toList = N at *
    have HR3 := Lib.hid hr
    clear HR2 hr hnan hinf ht hneg hul hu
    go_wp2_with fail
    refine hnum.mono ?_
    rintro e w4 ⟨rfl, hb4⟩
    clear hnum
    have hb5 := hb3.trans (hb4.mono hb3.size)
    have hk4 := hk2.call hb4
    clear k0 k1 f0 f1
    have k0 := hk4.cell 0 _ rfl
    have k1 := hk4.cell 1 _ rfl
    have f0 := hk4.free 0
    have f1 := hk4.free 1
    have hlt := hk4.lt
    have hs5 := hb5.size
    cases N with
    | none =>
      have hr := HR3.out
      have e0 : (((none : Option (Nat × Nat)).getD (0, 0)).1 : Nat) = 0 := rfl
      have e1 : (((none : Option (Nat × Nat)).getD (0, 0)).2 : Nat) = 0 := rfl
      have e2 : (none : Option (Nat × Nat)).isSome = false := rfl
      rw [e0, e1, e2]
      subst hr
      clear HR3 e0 e1 e2
      go_wp2_with fail
      have hd3 := ((hk4.set 0 (.int .u64 0)).set 1 (.int .u8 0)).alloc (.cells #[.int .u64 0, .int .u8 0] 25)
      have o0 := hd3.cell 0 _ rfl
      have o1 := hd3.cell 1 _ rfl
      exact bodyPost_ret (v := .tuple #[.agg #[.int .u64 0, .int .u8 0], .int .i64 280]) (by simp [results, Tryz.results9, go_sem, o0, o1]; try rfl) rfl ⟨rfl, ((hb5.setCell (by simp) _).setCell (by simp) _).alloc (by simp; exact hs5) _⟩
    | some q =>
      have hr := HR3.out
      have e0 : ((some q : Option (Nat × Nat)).getD (0, 0)) = q := rfl
      have e2 : (some q : Option (Nat × Nat)).isSome = true := rfl
      rw [e0, e2]
      subst hr
      clear HR3 e0 e2
      go_wp2_with fail
      have hd3 := ((hk4.set 0 (.int .u64 ((q.1 : Nat) : Int))).set 1 (.int .u8 ((q.2 : Nat) : Int))).alloc (.cells #[.int .u64 ((q.1 : Nat) : Int), .int .u8 ((q.2 : Nat) : Int)] 25)
      have o0 := hd3.cell 0 _ rfl
      have o1 := hd3.cell 1 _ rfl
      exact bodyPost_ret (v := .tuple #[.agg #[.int .u64 ((q.1 : Nat) : Int), .int .u8 ((q.2 : Nat) : Int)], .int .i64 0]) (by simp [results, Tryz.results9, go_sem, o0, o1]; try rfl) rfl ⟨rfl, ((hb5.setCell (by simp) _).setCell (by simp) _).alloc (by simp; exact hs5) _⟩
end Go.Proofs.YtkfbailpifmdcaaGreatDoor
end

section
namespace Go.Proofs.YtkfbailpifmdcaaGreatDoor
open Go.RowKit

def decV (c : UInt8) : Nat := (decR (c.toNat : Int)).toNat
def isDec (c : UInt8) : Bool := decide (0 ≤ decR (c.toNat : Int))
def digitsL (s : List UInt8) : List Nat := zerosL (s.map decV)
def nearTP (neg : Bool) (s : List UInt8) (exp : Int) : (Nat × Nat) × Nat :=
  if 4096 < s.length then ((0, 0), 4) else if s.all isDec = false then ((0, 0), 280) else if s = [] then ((0, 0), 280) else
  if exp < -8192 ∨ 8192 < exp then ((0, 0), 2) else (tensP neg (natL 10 (digitsL s)) (digitsL s).length exp, 0)

theorem zerosL_snoc : ∀ (a : List Nat) (d : Nat), zerosL (a ++ [d]) = if zerosL a = [] ∧ d = 0 then [] else zerosL a ++ [d]
  | [], d => by
    by_cases h : d = 0 <;> simp [zerosL, h]
  | x :: t, d => by
    rw [List.cons_append, zerosL, zerosL, zerosL_snoc t d]
    by_cases hx : x = 0
    · simp only [if_pos hx]
    · simp only [if_neg hx]
      rw [if_neg (by simp)]
      rfl
theorem decV_lt (c : UInt8) : decV c < 10 := by unfold decV decR; split <;> omega

/-- How the reading of digits stands at a place. -/
structure DecAt (s : ByteArray) (pos : Nat) (l : List Nat) : Prop where
  hpos : pos ≤ s.size
  hlist : l = digitsL (s.data.toList.take pos)
  hall : (s.data.toList.take pos).all isDec = true
theorem take_at (s : ByteArray) (pos : Nat) (h : pos < s.size) : s.data.toList.take (pos + 1) = s.data.toList.take pos ++ [s[pos]'h] := by
  have h2 : pos < s.data.toList.length := by simpa using h
  rw [List.take_add_one, List.getElem?_eq_getElem h2]
  rfl
theorem DecAt.step {s : ByteArray} {pos : Nat} {l : List Nat} (h : DecAt s pos l) (hp : pos < s.size) (hd : 0 ≤ decR ((s[pos]'hp).toNat : Int)) :
    DecAt s (pos + 1) (if l = [] ∧ decV (s[pos]'hp) = 0 then [] else l ++ [decV (s[pos]'hp)]) := by
  refine ⟨by omega, ?_, ?_⟩
  · rw [take_at s pos hp, digitsL, List.map_append, List.map_singleton, zerosL_snoc, h.hlist]
    rfl
  · rw [take_at s pos hp, List.all_append, h.hall]
    simp [isDec, hd]
theorem DecAt.stop {s : ByteArray} {pos : Nat} (hp : pos < s.size) (hd : ¬ 0 ≤ decR ((s[pos]'hp).toNat : Int)) : s.data.toList.all isDec = false := by
  have h1 : s.data.toList = s.data.toList.take (pos + 1) ++ s.data.toList.drop (pos + 1) := (List.take_append_drop _ _).symm
  rw [h1, List.all_append, take_at s pos hp, List.all_append]
  simp [isDec, hd]
theorem DecAt.done {s : ByteArray} {pos : Nat} {l : List Nat} (h : DecAt s pos l) (hp : ¬ pos < s.size) : s.data.toList.all isDec = true ∧ l = digitsL s.data.toList := by
  have h1 : s.data.toList.take pos = s.data.toList := List.take_of_length_le (by simp; omega)
  have h2 := h.hall
  have h3 := h.hlist
  rw [h1] at h2 h3
  exact ⟨h2, h3⟩
theorem DecAt.len {s : ByteArray} {pos : Nat} {l : List Nat} (h : DecAt s pos l) : l.length ≤ pos := by
  rw [h.hlist, digitsL]
  refine Nat.le_trans (zerosL_len _) ?_
  rw [List.length_map, List.length_take]
  exact Nat.min_le_left _ _

set_option maxRecDepth 1000000 in
set_option maxHeartbeats 4000000 in
theorem textNear_any (neg : Bool) (s : ByteArray) (exp : Int) (w : World) (hexp1 : -9223372036854775808 ≤ exp) (hexp2 : exp ≤ 9223372036854775807) (hT : TabW w) :
    Calls Tryz.prog 22 #[.bool neg, .string s, .int .i64 exp] w fun e w' => e = .returned (.tuple #[.agg #[.int .u64 (((nearTP neg s.data.toList exp).1.1 : Nat) : Int), .int .u8 (((nearTP neg s.data.toList exp).1.2 : Nat) : Int)], .int .i64 (((nearTP neg s.data.toList exp).2 : Nat) : Int)]) ∧ Below w.heap.size w w' := by
  obtain ⟨i0, hi, hz0, hz1, hz2⟩ := info_parts Tryz.infoI
  obtain ⟨R, hR⟩ : ∃ R, nearTP neg s.data.toList exp = R := ⟨_, rfl⟩
  rw [hR]
  have hsl : s.data.toList.length = s.size := by simp
  unfold nearTP at hR
  rw [hsl] at hR
  have HR := Lib.hid hR
  have hb1 := (Below.refl w.heap.size w).alloc (Nat.le_refl _) (.cells #[.int .u64 0, .int .u8 0] 25)
  have hk1 := Blk.new w #[.int .u64 0, .int .u8 0] 25
  clear hR hsl
  by_cases hlong : 4096 < s.size
  · have hr := HR.out
    rw [if_pos hlong] at hr
    subst hr
    clear HR
    have hli : (4096 : Int) < ((s.size : Nat) : Int) := by omega
    go_enter Tryz.func22, Tryz.ntmps22
    go_wp2_with fail
    have o0 := hk1.cell 0 _ rfl
    have o1 := hk1.cell 1 _ rfl
    exact bodyPost_ret (v := .tuple #[.agg #[.int .u64 0, .int .u8 0], .int .i64 4]) (by simp [results, Tryz.results22, go_sem, o0, o1]; try rfl) rfl ⟨rfl, hb1⟩
  have hr := HR.out
  rw [if_neg hlong] at hr
  have HR2 := Lib.hid hr
  have hli : ((s.size : Nat) : Int) ≤ 4096 := by omega
  clear HR hr
  have hW1 : (w.alloc (.cells #[.int .u64 0, .int .u8 0] 25)).heap.size = w.heap.size + 1 := by simp
  go_enter Tryz.func22, Tryz.ntmps22
  go_wp2_with fail
  go_loopw [8] (fun u8 wr => ∃ (pos : Nat) (l : List Nat), wr.heap[w.heap.size + 1]? = some (.stringIter s pos) ∧ Blk wr w.heap.size #[.int .u64 0, .int .u8 0] 25 ∧ wr.ownsRow (w.heap.size + 2) 3 1 u8 l.length (intL l) ∧ DecAt s pos l ∧ Below w.heap.size w wr) (fun _ wr => s.size - wr.iterPos (w.heap.size + 1))
  case atStart =>
    refine ⟨0, [], ?_, hk1.alloc _, World.ownsRow_nil _ _ _ _, ⟨Nat.zero_le _, by simp [digitsL, zerosL], by simp⟩, hb1.alloc (by simp) _⟩
    have := World.iter_heap (w.alloc (.cells #[.int .u64 0, .int .u8 0] 25)) s 0
    rwa [hW1] at this
  case round =>
    clear hW1
    obtain ⟨pos, l, hit, hk, hown, hsc, hbw⟩ := hrel
    have hpos0 := iterPos_of hit
    have hposs := hsc.hpos
    have hlen := hsc.len
    by_cases hp : pos < s.size
    · obtain ⟨c, hc⟩ : ∃ c, s[pos]'hp = c := ⟨_, rfl⟩
      by_cases hd : 0 ≤ decR ((s[pos]'hp).toNat : Int)
      · have ha : (s[pos]'hp).toNat < 128 := by
          by_cases h : (s[pos]'hp).toNat < 128
          · exact h
          · have := decR_high (r := (s[pos]'hp).toNat) (by omega); omega
        have hsc2 := hsc.step hp hd
        have hnx : ∀ ty, (Instr.next (.pointer (some ⟨w.heap.size + 1, 0, none⟩)) true ty).run Tryz.prog wr = _ := fun ty => Lib.run_next_ascii_at wr (w.heap.size + 1) s pos ty hit hp ha
        have hit2 := Lib.iterAt_heap wr (w.heap.size + 1) s pos (pos + 1) hit
        have hbw2 := Lib.below_iterAt hbw (k := w.heap.size + 1) (by omega) s (pos + 1)
        have hown2 := ownsRow_iterAt hown (k := w.heap.size + 1) (by omega) s (pos + 1)
        have hk2 : Blk (wr.iterAt (w.heap.size + 1) s (pos + 1)) w.heap.size #[.int .u64 0, .int .u8 0] 25 := (Lib.iterAt_other wr (w.heap.size + 1) w.heap.size s (pos + 1) (by omega)).trans hk
        generalize wr.iterAt (w.heap.size + 1) s (pos + 1) = W1 at *
        have hBlt := lt_of_block hit2
        rw [hc] at hnx hsc2 ha hd
        have hdec : decR (c.toNat : Int) = ((decV c : Nat) : Int) := by unfold decV; omega
        have hd9 := decV_lt c
        generalize decV c = d at *
        have HSC := Lib.hid hsc2
        have hnn : (0 : Int) ≤ ((d : Nat) : Int) := by omega
        clear hit hbw hk hsc hsc2 hd hc hown
        obtain ⟨x4, c4, rfl⟩ := ownsRow_slice hown2
        go_wp2_with fail
        refine (decimal_any (c.toNat : Int) W1 (by omega) (by omega)).mono ?_
        rintro en w1 ⟨rfl, hw⟩
        subst hw
        rw [hdec]
        by_cases hskip : l = [] ∧ d = 0
        · have hsc3 := HSC.out
          rw [if_pos hskip] at hsc3
          obtain ⟨rfl, rfl⟩ := hskip
          go_wp2_with fail
          go_roundw
          case rel => exact ⟨pos + 1, [], hit2, hk2, hown2, hsc3, hbw2⟩
          case measure => rw [iterPos_of hit2, hpos0]; omega
        · have hsc3 := HSC.out
          rw [if_neg hskip] at hsc3
          have HS3 := Lib.hid hsc3
          clear HSC hsc3
          by_cases hl0 : l.length = 0
          · obtain rfl : l = [] := List.length_eq_zero_iff.1 hl0
            have hdp : 0 < d := Nat.pos_of_ne_zero (fun h => hskip ⟨rfl, h⟩)
            have hdpi : (0 : Int) < ((d : Nat) : Int) := by omega
            clear hskip hl0
            go_wp2_with (at_builtin; refine wpList_append1 rfl _ _ 82 rfl (w.heap.size + 2) 3 i0 (.int .i64 0) 8 Tryz.underlying82 hi hz0 hz1 hz2 rfl _ _ _ rfl hown2 _ _ rfl rfl (by unfold maxLen; omega) (by omega) (by omega) ?_; intro v' w3 hown3 hg3)
            have hg4 : W1.grownBy w3 (Value.slice x4 ([] : List Nat).length c4).ownBlock := hg3
            have hbw3 := Below.grown hbw2 hg4 (by omega) (fun j hj => by have := (hown2.lt _ hj).1; omega)
            have hit3 : w3.heap[w.heap.size + 1]? = some (.stringIter s (pos + 1)) := by
              rw [hg4.block (w.heap.size + 1) hBlt (fun h => by have := (hown2.lt _ h.symm).1; omega)]; exact hit2
            have hk3 : Blk w3 w.heap.size #[.int .u64 0, .int .u8 0] 25 := by
              unfold Blk; rw [hg4.block w.heap.size (by omega) (fun h => by have := (hown2.lt _ h.symm).1; omega)]; exact hk2
            go_roundw
            case rel =>
              refine ⟨pos + 1, [] ++ [d], hit3, hk3, ?_, HS3.out, hbw3⟩
              rw [List.length_append, List.length_singleton, intL, List.map_append]
              exact hown3
            case measure => rw [iterPos_of hit3, hpos0]; omega
          · have hl0i : decide ((0 : Int) < ((l.length : Nat) : Int)) = true := decide_eq_true (by omega)
            have hl0n : 0 < l.length := by omega
            clear hskip hl0
            go_wp2_with (at_builtin; refine wpList_append1 rfl _ _ 82 rfl (w.heap.size + 2) 3 i0 (.int .i64 0) 8 Tryz.underlying82 hi hz0 hz1 hz2 rfl _ _ _ rfl hown2 _ _ rfl rfl (by unfold maxLen; omega) (by omega) (by omega) ?_; intro v' w3 hown3 hg3)
            have hg4 : W1.grownBy w3 (Value.slice x4 l.length c4).ownBlock := hg3
            have hbw3 := Below.grown hbw2 hg4 (by omega) (fun j hj => by have := (hown2.lt _ hj).1; omega)
            have hit3 : w3.heap[w.heap.size + 1]? = some (.stringIter s (pos + 1)) := by
              rw [hg4.block (w.heap.size + 1) hBlt (fun h => by have := (hown2.lt _ h.symm).1; omega)]; exact hit2
            have hk3 : Blk w3 w.heap.size #[.int .u64 0, .int .u8 0] 25 := by
              unfold Blk; rw [hg4.block w.heap.size (by omega) (fun h => by have := (hown2.lt _ h.symm).1; omega)]; exact hk2
            go_roundw
            case rel =>
              refine ⟨pos + 1, l ++ [d], hit3, hk3, ?_, HS3.out, hbw3⟩
              rw [List.length_append, List.length_singleton, intL, List.map_append]
              exact hown3
            case measure => rw [iterPos_of hit3, hpos0]; omega
      · have hst := DecAt.stop hp hd
        have hr := HR2.out
        rw [if_pos hst] at hr
        subst hr
        clear HR2 hst hown
        obtain ⟨r, W1, hnx, hbw2, hk2, hR0, hR1, hdec⟩ : ∃ (r : Nat) (W1 : World), (∀ ty, (Instr.next (.pointer (some ⟨w.heap.size + 1, 0, none⟩)) true ty).run Tryz.prog wr = .ok (.tuple #[.bool true, .int .i64 pos, .int .i32 r]) W1) ∧ Below w.heap.size w W1 ∧ Blk W1 w.heap.size #[.int .u64 0, .int .u8 0] 25 ∧ 0 ≤ r ∧ r ≤ 2147483647 ∧ decR (r : Int) = -1 := by
          by_cases ha : (s[pos]'hp).toNat < 128
          · refine ⟨(s[pos]'hp).toNat, _, fun ty => Lib.run_next_ascii_at wr (w.heap.size + 1) s pos ty hit hp ha, Lib.below_iterAt hbw (k := w.heap.size + 1) (by omega) s (pos + 1), (Lib.iterAt_other wr (w.heap.size + 1) w.heap.size s (pos + 1) (by omega)).trans hk, by omega, by omega, ?_⟩
            rw [hc]
            have := digB_lt false c
            have h2 : decR (c.toNat : Int) = digB false c := rfl
            rw [hc] at hd
            omega
          · have hdh := decode_high s pos hp (by omega)
            exact ⟨(Utf8.decode s pos).1, _, fun ty => Lib.run_next_any_at wr (w.heap.size + 1) s pos ty hit hp, Lib.below_iterAt hbw (k := w.heap.size + 1) (by omega) s _, (Lib.iterAt_other wr (w.heap.size + 1) w.heap.size s _ (by omega)).trans hk, by omega, decode_le s pos, decR_high (by omega)⟩
        clear hit hbw hk hd hc
        go_wp2_with fail
        refine (decimal_any (r : Int) W1 (by omega) (by omega)).mono ?_
        rintro en w1 ⟨rfl, hw⟩
        subst hw
        rw [hdec]
        have k0 := hk2.cell 0 _ rfl
        have k1 := hk2.cell 1 _ rfl
        have f0 := hk2.free 0
        have f1 := hk2.free 1
        go_wp2_with fail
        have hd3 := (hk2.set 0 (.int .u64 0)).set 1 (.int .u8 0)
        have o0 := hd3.cell 0 _ rfl
        have o1 := hd3.cell 1 _ rfl
        exact bodyPost_ret (v := .tuple #[.agg #[.int .u64 0, .int .u8 0], .int .i64 280]) (by simp [results, Tryz.results22, go_sem, o0, o1]; try rfl) rfl ⟨rfl, (hbw2.setCell (by simp) _).setCell (by simp) _⟩
    · obtain ⟨hall, hll⟩ := hsc.done hp
      have hr := HR2.out
      rw [if_neg (by rw [hall]; decide)] at hr
      have hnx : ∀ ty, (Instr.next (.pointer (some ⟨w.heap.size + 1, 0, none⟩)) true ty).run Tryz.prog wr = _ := fun ty => Lib.run_next_end_at wr (w.heap.size + 1) s pos ty hit hp
      have hints := Ints.ofRow hown
      obtain ⟨x4, c4, rfl⟩ := ownsRow_slice hown
      clear hown hit hsc HR2
      by_cases hemp : s.data.toList = []
      · rw [if_pos hemp] at hr
        subst hr
        have he : s.toList.isEmpty = true := by rw [bytes_empty]; rw [Array.isEmpty_iff]; exact Array.toList_eq_nil_iff.1 hemp
        clear hemp
        have k0 := hk.cell 0 _ rfl
        have k1 := hk.cell 1 _ rfl
        have f0 := hk.free 0
        have f1 := hk.free 1
        go_wp2_with fail
        have hd3 := (hk.set 0 (.int .u64 0)).set 1 (.int .u8 0)
        have o0 := hd3.cell 0 _ rfl
        have o1 := hd3.cell 1 _ rfl
        exact bodyPost_ret (v := .tuple #[.agg #[.int .u64 0, .int .u8 0], .int .i64 280]) (by simp [results, Tryz.results22, go_sem, o0, o1]; try rfl) rfl ⟨rfl, (hbw.setCell (by simp) _).setCell (by simp) _⟩
      rw [if_neg hemp] at hr
      have he : s.toList.isEmpty = false := by
        rw [ByteArray.toList_eq]
        cases h : s.data.toList with
        | nil => exact absurd h hemp
        | cons _ _ => rfl
      by_cases hlo : exp < -8192
      · rw [if_pos (Or.inl hlo)] at hr
        subst hr
        clear hemp
        have k0 := hk.cell 0 _ rfl
        have k1 := hk.cell 1 _ rfl
        have f0 := hk.free 0
        have f1 := hk.free 1
        go_wp2_with fail
        have hd3 := (hk.set 0 (.int .u64 0)).set 1 (.int .u8 0)
        have o0 := hd3.cell 0 _ rfl
        have o1 := hd3.cell 1 _ rfl
        exact bodyPost_ret (v := .tuple #[.agg #[.int .u64 0, .int .u8 0], .int .i64 2]) (by simp [results, Tryz.results22, go_sem, o0, o1]; try rfl) rfl ⟨rfl, (hbw.setCell (by simp) _).setCell (by simp) _⟩
      by_cases hhi : 8192 < exp
      · rw [if_pos (Or.inr hhi)] at hr
        subst hr
        clear hemp
        have k0 := hk.cell 0 _ rfl
        have k1 := hk.cell 1 _ rfl
        have f0 := hk.free 0
        have f1 := hk.free 1
        go_wp2_with fail
        have hd3 := (hk.set 0 (.int .u64 0)).set 1 (.int .u8 0)
        have o0 := hd3.cell 0 _ rfl
        have o1 := hd3.cell 1 _ rfl
        exact bodyPost_ret (v := .tuple #[.agg #[.int .u64 0, .int .u8 0], .int .i64 2]) (by simp [results, Tryz.results22, go_sem, o0, o1]; try rfl) rfl ⟨rfl, (hbw.setCell (by simp) _).setCell (by simp) _⟩
      rw [if_neg (by omega), ← hll] at hr
      have HR4 := Lib.hid hr
      have hdl : ∀ z ∈ l, z < 10 := fun z hz => by
        rw [hll] at hz
        obtain ⟨c, _, rfl⟩ := List.mem_map.1 (zerosL_mem _ z hz)
        exact decV_lt c
      have hnl := natL_lt (base := 10) l hdl
      clear hr hemp hll hall
      go_wp2_with fail
      refine (natural_any _ 10 l wr hints (by decide) (by decide) hdl (by omega)).mono ?_
      rintro en w6 ⟨v6, rfl, hv6, hb8⟩
      have hb9 := hbw.trans (hb8.mono hbw.size)
      have hk5 := hk.call hb8
      go_wp2_with fail
      refine (tens_any 0 neg v6 (natL 10 l) l.length exp w6 hv6 hnl (by omega) (by omega) (by omega) (hT.call hb9)).mono ?_
      rintro en w7 ⟨rfl, hb10⟩
      have hb11 := hb9.trans (hb10.mono hb9.size)
      have hk6 := hk5.call hb10
      generalize tensP neg (natL 10 l) l.length exp = RR at *
      have k0 := hk6.cell 0 _ rfl
      have k1 := hk6.cell 1 _ rfl
      have f0 := hk6.free 0
      have f1 := hk6.free 1
      go_wp2_with fail
      have hd3 := (hk6.set 0 (.int .u64 ((RR.1 : Nat) : Int))).set 1 (.int .u8 ((RR.2 : Nat) : Int))
      have o0 := hd3.cell 0 _ rfl
      have o1 := hd3.cell 1 _ rfl
      exact bodyPost_ret (v := .tuple #[.agg #[.int .u64 ((RR.1 : Nat) : Int), .int .u8 ((RR.2 : Nat) : Int)], .int .i64 0]) (by simp [results, Tryz.results22, go_sem, o0, o1]; try rfl) rfl ⟨by rw [← HR4.out]; rfl, (hb11.setCell (by simp) _).setCell (by simp) _⟩
end Go.Proofs.YtkfbailpifmdcaaGreatDoor
end

section
namespace Go.Proofs.YtkfbailpifmdcaaGreatDoor
open Go.RowKit

theorem Tryz.sizeBuilder : (Tryz.prog.info? 114).map (·.size) = some 2 := by kernel_rfl
theorem Tryz.liesBuilder : liesAt Tryz.prog Tryz.prog.depth 114 (2 / Tryz.prog.cellsOf 114) 0 114 1 = true := by kernel_rfl
theorem Tryz.infoByte : (Tryz.prog.info? 5).map (fun i => (i.zero, i.size, i.bytes)) = some (some (.int .u8 0), 1, 1) := by kernel_rfl

set_option maxHeartbeats 1000000 in
set_option maxRecDepth 100000 in
theorem copyCheck_used (b : Nat) (w : World) (h0 : w.cell? ⟨b, 0, none⟩ = some (.pointer (some ⟨b, 0, none⟩))) :
    Calls Tryz.prog 113 #[.pointer (some ⟨b, 0, none⟩)] w fun e w' => e = .returned (.tuple #[]) ∧ w' = w := by
  obtain ⟨j, hj, _⟩ := Option.map_eq_some_iff.1 Tryz.sizeBuilder
  go_enter Tryz.func113, Tryz.ntmps113
  go_wp2
  rw [Lib.run_neq_ptr_same w _ Tryz.underlying112 hj]
  go_wp2
  go_end0
  exact ⟨rfl, rfl⟩

set_option maxHeartbeats 1000000 in
set_option maxRecDepth 100000 in
theorem copyCheck_fresh (b : Nat) (w : World) (h0 : w.cell? ⟨b, 0, none⟩ = some (.pointer none)) (hsh : w.shape? b = some (114, 2)) (hfz : w.frozen? ⟨b, 0, none⟩ = false) :
    Calls Tryz.prog 113 #[.pointer (some ⟨b, 0, none⟩)] w fun e w' => e = .returned (.tuple #[]) ∧ w' = w.setCell ⟨b, 0, none⟩ (.pointer (some ⟨b, 0, none⟩)) := by
  obtain ⟨j, hj, hjs⟩ := Option.map_eq_some_iff.1 Tryz.sizeBuilder
  go_enter Tryz.func113, Tryz.ntmps113
  go_wp2
  rw [Lib.run_to_unsafe w ⟨b, 0, none⟩ Tryz.underlying112 Tryz.underlying170 hj (by rw [hjs]; decide) hsh (Nat.zero_lt_succ 1)]
  simp only [Result.andThen]
  rw [Oper.upon_value]
  go_wp2
  rw [run_callFunc_extern Tryz.func140 (by kernel_rfl) (by kernel_rfl) (by kernel_rfl) (e := Extern.AbiNoEscape.same) (by kernel_rfl)]
  rw [Lib.run_noEscape]
  simp only [Result.andThen]
  rw [Oper.upon_value]
  go_wp2
  rw [Lib.run_from_unsafe w ⟨b, 0, none⟩ Tryz.underlying170 Tryz.underlying112 hj hsh Tryz.liesBuilder]
  simp only [Result.andThen]
  rw [Oper.upon_value]
  go_wp2
  go_end0
  exact ⟨rfl, rfl⟩

theorem copyCheck_any (B b : Nat) (bs : List Value) (w : World) (h : Lib.IsBuilder 114 5 B b bs w) :
    Calls Tryz.prog 113 #[.pointer (some ⟨b, 0, none⟩)] w fun e w' => e = .returned (.tuple #[]) ∧ (Lib.BuilderAt 114 5 B b (.pointer (some ⟨b, 0, none⟩)) bs w' ∧ Below B w w') := by
  rcases h with h | h
  · refine (copyCheck_fresh b w h.cell0 h.shape h.frozen0).mono ?_
    rintro e w' ⟨rfl, rfl⟩
    exact ⟨rfl, h.used _, (Below.refl B w).setCell (p := ⟨b, 0, none⟩) h.1 _⟩
  · refine (copyCheck_used b w h.cell0).mono ?_
    rintro e w' ⟨rfl, rfl⟩
    exact ⟨rfl, h, Below.refl B _⟩

set_option maxHeartbeats 2000000 in
set_option maxRecDepth 100000 in
theorem WriteString_any (B b : Nat) (bs : List Value) (s : ByteArray) (w : World) (h : Lib.IsBuilder 114 5 B b bs w) (hlen : bs.length + s.size ≤ 140737488355328) (hBw : B ≤ w.heap.size) :
    Calls Tryz.prog 79 #[.pointer (some ⟨b, 0, none⟩), .string s] w fun e w' => e = .returned (.tuple #[.int .i64 s.size, .nilIface]) ∧ (Lib.BuilderAt 114 5 B b (.pointer (some ⟨b, 0, none⟩)) (bs ++ Lib.strCells s) w' ∧ Below B w w') := by
  obtain ⟨i0, hi, hz0, hz1, hz2⟩ := info_parts Tryz.infoByte
  go_enter Tryz.func79, Tryz.ntmps79
  go_wp2_with fail
  refine (copyCheck_any B b bs _ h).mono ?_
  rintro e w1 ⟨rfl, h1, hb1⟩
  obtain ⟨hB, v, hbk, hown, hne⟩ := h1
  have c0 : w1.cell? ⟨b, 0, none⟩ = some (.pointer (some ⟨b, 0, none⟩)) := by rw [Lib.cell_of_heap hbk]; rfl
  have c1 : w1.cell? ⟨b, 1, none⟩ = some v := by rw [Lib.cell_of_heap hbk]; rfl
  go_wp2_with (at_builtin; refine Lib.wpList_append_own_string _ rfl _ _ 81 9 rfl B 5 i0 Tryz.underlying81 Tryz.underlying9 hi hz0 hz1 hz2 _ _ _ rfl hown s rfl ?c3 ?c4 ?c5 ?_)
  case c3 => unfold maxLen; omega
  case c4 => omega
  case c5 => have := hb1.size; omega
  intro v' w2 hown' hgrow _
  have hlt : b < w1.heap.size := by
    rcases Nat.lt_or_ge b w1.heap.size with h' | h'
    · exact h'
    · simp [Array.getElem?_eq_none h'] at hbk
  have hb2 : w2.heap[b]? = some (.cells #[.pointer (some ⟨b, 0, none⟩), v] 114 (0, 0)) := by
    rw [hgrow.block b hlt (fun e => hne e.symm)]
    exact hbk
  have d0 : w2.cell? ⟨b, 0, none⟩ = some (.pointer (some ⟨b, 0, none⟩)) := by rw [Lib.cell_of_heap hb2]; rfl
  have d1 : w2.cell? ⟨b, 1, none⟩ = some v := by rw [Lib.cell_of_heap hb2]; rfl
  have f1 : w2.frozen? ⟨b, 1, none⟩ = false := Lib.frozen_of_heap hb2 1
  obtain ⟨ao, n', cap, rfl⟩ : ∃ ao n' cap, v' = .slice ao n' cap := by
    rcases hown'.2 with ⟨hv, _⟩ | ⟨g, cap, cur, hv, _⟩
    · exact ⟨_, _, _, hv⟩
    · exact ⟨_, _, _, hv⟩
  go_wp2
  go_ret2
  refine ⟨rfl, ?_, ?_⟩
  · exact Lib.BuilderAt.put (T := 114) (e := 5) hB hb2 (bs' := bs ++ Lib.strCells s) (by simpa [Lib.strCells_length] using hown') (by decide)
  · exact (hb1.grown hgrow (by have := hb1.size; omega) (fun k hk => (hown.lt k hk).1)).setCell (p := ⟨b, 1, none⟩) hB _
end Go.Proofs.YtkfbailpifmdcaaGreatDoor
end

section
namespace Go.Proofs.YtkfbailpifmdcaaGreatDoor
open Go.RowKit Go.Sort

/-- The table of powers of 10. -/
def TabP (w : World) : Prop := Lib.TabIs Tryz.prog w "internal/strconv.uint64pow10" .u64 Lib.pow10Tab

theorem fin_zero (w : World) (o : Obj) (dk : Array UInt8) (k : Nat) : ∃ os, (putRow (fun (b : UInt8) => Value.int .u8 (b.toNat : Int)) (w.alloc o) w.heap.size 0 dk).drewN k = grow (w.drewN k) os := by
  rw [alloc_eq_grow]
  obtain ⟨os', _, e⟩ := putRow_grow_new (fun (b : UInt8) => Value.int .u8 (b.toNat : Int)) w #[o] w.heap.size 0 dk (Nat.le_refl _)
  exact ⟨os', by rw [e]; rfl⟩
theorem holds_zero0 (w : World) (T : TypeId) (nd : Nat) (hs : nd ≤ 24) : Holds (fun (b : UInt8) => Value.int .u8 (b.toNat : Int)) (w.alloc (.cells Lib.zeros24 T)) w.heap.size 0 (Array.replicate nd (0 : UInt8)) := fun j hj => by
  have hj' : j < nd := by simpa using hj
  refine ⟨?_, World.frozen?_alloc_new _ _ _ _⟩
  rw [World.cell?_alloc_new, Lib.zeros24_at _ (by omega), getElem!_pos _ j hj]
  simp

set_option maxHeartbeats 6400000 in
set_option maxRecDepth 100000 in
theorem iFormatUint (u : Nat) (hu64 : u < 18446744073709551616) (w : World) (htab : TabP w) :
    Calls Tryz.prog 112 #[.int .u64 ((u : Nat) : Int), .int .i64 10] w fun e w' => e = .returned (.string ⟨(Lib.decDigits u).toArray⟩) ∧ ∃ k os, w' = grow (w.drewN k) os := by
  by_cases hs : u < 100
  · have hs2 : ((u : Nat) : Int) < 100 := by omega
    have hw : IntKind.i64.wrap ((u : Nat) : Int) = ((u : Nat) : Int) := wi64 (by omega) (by omega)
    go_enter Tryz.func112, Tryz.ntmps112
    go_wp2_with fail
    refine (Tryz.internal_strconv_small u hs _).mono ?_
    rintro e w' ⟨rfl, rfl⟩
    go_wp2
    go_ret
    exact ⟨rfl, 0, #[], by simp [World.drewN_zero]⟩
  · have hu1 : 1 ≤ u := by omega
    have hnd20 : Lib.nDigits u ≤ 20 := by have := Lib.numDigits_eq u hu1 hu64; split at this <;> omega
    have hal : Tryz.prog.arrayLen 166 = 24 := by simp [Program.arrayLen, Tryz.underlying166]
    have hsl1 : ∀ W, (Instr.sliceAt 166 (.pointer (some ⟨w.heap.size, 0, none⟩)) none (some (.int .i64 (Lib.nDigits u : Int))) none).run Tryz.prog W = .ok (.slice (some ⟨w.heap.size, 0, none⟩) (Lib.nDigits u) 24) W := fun W => by
      rw [run_sliceAt_array_h W 166 ⟨w.heap.size, 0, none⟩ (by simp [Program.arrayLen, Program.elem, Tryz.underlying166]) .i64 (Lib.nDigits u : Int) (by omega) (by rw [hal]; omega)]
      go_simp
    have hH0 := holds_zero0 w 166 (Lib.nDigits u) (by omega)
    have hfmt := Tryz.internal_strconv_formatBase10 w.heap.size 0 24 u (Array.replicate (Lib.nDigits u) 0) (w.alloc (.cells Lib.zeros24 166)) hH0 (by rw [Array.size_replicate]; exact Lib.lt_pow_nDigits u) hu64 (by rw [Array.size_replicate]; omega)
    rw [Array.size_replicate] at hfmt
    have HH0 := Lib.hid hH0
    have hs2 : (100 : Int) ≤ ((u : Nat) : Int) := by omega
    clear hH0 hal
    go_enter Tryz.func112, Tryz.ntmps112
    go_wp2_with fail
    refine (Tryz.internal_strconv_numDigits u hu1 hu64 (w.alloc (.cells Lib.zeros24 166)) (Lib.tabIs_alloc htab _)).mono ?_
    rintro e w' ⟨rfl, rfl⟩
    go_wp2_with fail
    refine hfmt.mono ?_
    rintro e w' ⟨rfl, k, v', dk, rfl, hF⟩
    clear hfmt
    have hcv : (convert 81 9 (.slice (some ⟨w.heap.size, 0, none⟩) (Lib.nDigits u) 24)).run Tryz.prog ((putRow (fun (b : UInt8) => Value.int .u8 (b.toNat : Int)) (w.alloc (.cells Lib.zeros24 166)) w.heap.size 0 dk).drewN k) = .ok (.string ⟨(Lib.decDigits u).toArray⟩) ((putRow (fun (b : UInt8) => Value.int .u8 (b.toNat : Int)) (w.alloc (.cells Lib.zeros24 166)) w.heap.size 0 dk).drewN k) := by
      have h := run_convert_bytes_back (P := Tryz.prog) ((putRow (fun (b : UInt8) => Value.int .u8 (b.toNat : Int)) (w.alloc (.cells Lib.zeros24 166)) w.heap.size 0 dk).drewN k) 81 9 5 ⟨w.heap.size, 0, none⟩ 24 (Lib.decDigits u) Tryz.underlying81 Tryz.underlying5 Tryz.underlying9 (fun j hj => by
        rw [Lib.row_is_numeral hF j hj, Lib.add_plain, World.cell?_drewN]
        exact cell?_putRow (fun (b : UInt8) => Value.int .u8 (b.toNat : Int)) _ w.heap.size 0 _ dk HH0.out (by rw [hF.size, Array.size_replicate]) j (by rw [hF.size]; rw [Lib.decDigits_length] at hj; exact hj))
      rw [Lib.decDigits_length] at h
      exact h
    go_wp2
    go_ret
    obtain ⟨os, eo⟩ := fin_zero w (.cells Lib.zeros24 166) dk k
    exact ⟨rfl, k, os, eo⟩

theorem FormatUint_any (u : Nat) (hu64 : u < 18446744073709551616) (w : World) (htab : TabP w) :
    Calls Tryz.prog 78 #[.int .u64 ((u : Nat) : Int), .int .i64 10] w fun e w' => e = .returned (.string ⟨(Lib.decDigits u).toArray⟩) ∧ Below w.heap.size w w' := by
  go_enter Tryz.func78, Tryz.ntmps78
  go_wp2_with fail
  refine (iFormatUint u hu64 w htab).mono ?_
  rintro e w' ⟨rfl, k, os, rfl⟩
  go_wp2
  go_ret
  exact ⟨rfl, Lib.below_grow _ _ (Nat.le_refl _) _ _⟩

theorem Itoa_any (n : Int) (h0 : -9223372036854775808 ≤ n) (h1 : n ≤ 9223372036854775807) (w : World) (htab : TabP w) :
    Calls Tryz.prog 52 #[.int .i64 n] w fun e w' => e = .returned (.string ⟨(Lib.itoa n).toArray⟩) ∧ Below w.heap.size w w' := by
  refine (Tryz.strconv_Itoa n h0 h1 w htab).mono ?_
  rintro e w' ⟨rfl, k, os, rfl⟩
  exact ⟨rfl, Lib.below_grow _ _ (Nat.le_refl _) _ _⟩
end Go.Proofs.YtkfbailpifmdcaaGreatDoor
end

section
namespace Go.Proofs.YtkfbailpifmdcaaGreatDoor
open Go.RowKit

def dgB (d : Nat) : UInt8 := UInt8.ofNat (48 + d)
theorem dec_small {u : Nat} (h : u < 10) : Lib.decDigits u = [dgB u] := Lib.decDigits_one h
theorem dec_step {u : Nat} (h : ¬ u < 10) : Lib.decDigits u = Lib.decDigits (u / 10) ++ [dgB (u % 10)] := by rw [Lib.decDigits, dif_neg h]; rfl
/-- k digits, with noughts ahead. -/
def padL : Nat → Nat → List UInt8
  | 0, _ => []
  | k + 1, r => padL k (r / 10) ++ [dgB (r % 10)]
theorem padL_len : ∀ (k r : Nat), (padL k r).length = k
  | 0, _ => rfl
  | k + 1, r => by rw [padL, List.length_append, padL_len k]; rfl
theorem padL_zero : ∀ k : Nat, padL k 0 = List.replicate k 48
  | 0 => rfl
  | k + 1 => by rw [padL, Nat.zero_div, padL_zero k, List.replicate_succ']; rfl
theorem dec_pad : ∀ (k q r : Nat), q ≠ 0 → r < 10 ^ k → Lib.decDigits (q * 10 ^ k + r) = Lib.decDigits q ++ padL k r
  | 0, q, r, _, h => by
    have : r = 0 := by simpa using h
    subst this; simp [padL]
  | k + 1, q, r, hq, h => by
    have hp : 0 < 10 ^ k := Nat.pow_pos (by decide)
    have hqp : 1 * 10 ^ k ≤ q * 10 ^ k := Nat.mul_le_mul_right _ (Nat.pos_of_ne_zero hq)
    rw [Nat.pow_succ] at h ⊢
    have e1 : q * (10 ^ k * 10) + r = (q * 10 ^ k + r / 10) * 10 + r % 10 := by rw [← Nat.mul_assoc]; omega
    have e2 : ((q * 10 ^ k + r / 10) * 10 + r % 10) / 10 = q * 10 ^ k + r / 10 := by omega
    have e3 : ((q * 10 ^ k + r / 10) * 10 + r % 10) % 10 = r % 10 := by omega
    rw [e1, dec_step (by omega), e2, e3, dec_pad k q (r / 10) hq (by omega), padL, List.append_assoc]
theorem dec_len_le : ∀ (k r : Nat), 0 < k → r < 10 ^ k → (Lib.decDigits r).length ≤ k
  | 0, _, h, _ => absurd h (by decide)
  | k + 1, r, _, h => by
    by_cases h10 : r < 10
    · rw [dec_small h10]; simp
    · rw [dec_step h10, List.length_append]
      rw [Nat.pow_succ] at h
      have hk : 0 < k := by
        rcases Nat.eq_zero_or_pos k with h0 | h0
        · subst h0; simp at h; omega
        · exact h0
      have := dec_len_le k (r / 10) hk (by omega)
      simp only [List.length_singleton]
      omega
theorem dec_len_pos (r : Nat) : 0 < (Lib.decDigits r).length := by
  by_cases h : r < 10
  · rw [dec_small h]; simp
  · rw [dec_step h]; simp
theorem pad_dec : ∀ (k r : Nat), 0 < k → r < 10 ^ k → List.replicate (k - (Lib.decDigits r).length) 48 ++ Lib.decDigits r = padL k r
  | 0, _, h, _ => absurd h (by decide)
  | k + 1, r, _, h => by
    by_cases h10 : r < 10
    · rw [dec_small h10, padL, show r / 10 = 0 by omega, padL_zero, show r % 10 = r by omega]
      simp
    · rw [Nat.pow_succ] at h
      have hk : 0 < k := by
        rcases Nat.eq_zero_or_pos k with h0 | h0
        · subst h0; simp at h; omega
        · exact h0
      rw [dec_step h10, padL, ← pad_dec k (r / 10) hk (by omega), List.length_append, List.append_assoc, List.length_singleton, Nat.add_sub_add_right]
/-- The digits of what is left: nothing of nothing. -/
def decR0 (m : Nat) : List UInt8 := if m = 0 then [] else Lib.decDigits m
theorem dec_chunk {m : Nat} (h : m / 10000000000000000000 ≠ 0) : Lib.decDigits m = Lib.decDigits (m / 10000000000000000000) ++ padL 19 (m % 10000000000000000000) := by
  have h1 := dec_pad 19 (m / 10000000000000000000) (m % 10000000000000000000) h (Nat.mod_lt _ (by decide))
  rw [show (10 : Nat) ^ 19 = 10000000000000000000 from rfl] at h1
  rw [← h1]
  congr 1
  omega
theorem repeatL_zero : ∀ c : Nat, Lib.repeatL [48] c = List.replicate c 48
  | 0 => rfl
  | c + 1 => by rw [Lib.repeatL, repeatL_zero c, List.replicate_succ]; rfl
end Go.Proofs.YtkfbailpifmdcaaGreatDoor
end
