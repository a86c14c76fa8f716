/- RefX RefY -/
import Derived.Test.YtkfbailpifmdcaaGreatDoorMbb
import Derived.Test.YtkfbailpifmdcaaGreatDoorMar
section
namespace Go.Proofs.YtkfbailpifmdcaaGreatDoor
open Go.RowKit

theorem scanL_suffix (hex : Bool) : ∀ (p : Bool) (s : List UInt8), (scanL hex p s).2.2 <:+ s
  | _, [] => by simp [scanL]
  | p, c :: t => by
    rw [scanL]
    split
    · exact (scanL_suffix hex p t).trans (List.suffix_cons c t)
    · split
      · exact (scanL_suffix hex true t).trans (List.suffix_cons c t)
      · exact List.suffix_refl _
theorem scan_rest (hex : Bool) (s : ByteArray) (p0 : Nat) : ∃ pos, pos ≤ s.size ∧ s.size - (scanL hex false (s.data.toList.drop p0)).2.2.length = pos ∧ (scanL hex false (s.data.toList.drop p0)).2.2 = s.data.toList.drop pos := by
  have h := (scanL_suffix hex false (s.data.toList.drop p0)).trans (List.drop_suffix p0 s.data.toList)
  have h2 : s.data.toList.length = s.size := by simp
  have h3 := List.suffix_iff_eq_drop.1 h
  rw [h2] at h3
  exact ⟨_, Nat.sub_le _ _, rfl, h3⟩
theorem head_prefix2 {s : ByteArray} (h : 1 < s.size) (a b : UInt8) : Lib.hasPrefix s.data.toList [a, b] = (a == s[0]'(by omega) && b == s[1]'h) := by
  have h1 := drop_at s 0 (by omega)
  have h2 := drop_at s 1 h
  rw [List.drop_zero] at h1
  rw [h1, h2]
  simp [Lib.hasPrefix, List.isPrefixOf]
theorem nil_prefix2 {s : ByteArray} (h : ¬ 1 < s.size) (a b : UInt8) : Lib.hasPrefix s.data.toList [a, b] = false := by
  have h2 : s.data.toList.length = s.size := by simp
  cases h3 : s.data.toList with
  | nil => rfl
  | cons x t =>
    cases t with
    | nil => simp [Lib.hasPrefix, List.isPrefixOf]
    | cons y u => rw [h3] at h2; simp at h2; omega

def end3P (hex : Bool) : List UInt8 → Int × Bool
  | [] => (0, !hex)
  | c :: t => if c = endB hex then exp3P t else (0, false)
def preN (hex : Bool) : Nat := if hex then 2 else 0
def read3 (s : ByteArray) : List Nat × Nat × List UInt8 := scanL (Lib.hasPrefix s.data.toList [48, 120]) false (s.data.toList.drop (preN (Lib.hasPrefix s.data.toList [48, 120])))
def read3E (s : ByteArray) : Int × Bool := end3P (Lib.hasPrefix s.data.toList [48, 120]) (read3 s).2.2
def zero28 : Value := .agg #[.bool false, .slice none 0 0, .int .i64 0, .int .i64 0, .int .i64 0]
def Read28 (s : ByteArray) (w : World) (e : Ending) (w' : World) : Prop :=
  Below w.heap.size w w' ∧
  ((((read3 s).1 = [] ∨ (read3E s).2 = false) ∧ e = .returned (.tuple #[zero28, .bool false])) ∨
   (((read3 s).1 ≠ [] ∧ (read3E s).2 = true) ∧ ∃ a, Num 0 w' a (natL (baseN (Lib.hasPrefix s.data.toList [48, 120])) (read3 s).1) ∧
     e = .returned (.tuple #[.agg (if Lib.hasPrefix s.data.toList [48, 120] then #[.bool false, a, .int .i64 0, .int .i64 ((read3E s).1 - 4 * (((read3 s).2.1 : Nat) : Int)), .int .i64 2]
       else #[.bool false, a, .int .i64 (((if natL 10 (read3 s).1 = 0 then 0 else (Lib.decDigits (natL 10 (read3 s).1)).length : Nat) : Nat) : Int), .int .i64 ((read3E s).1 - (((read3 s).2.1 : Nat) : Int)), .int .i64 10]), .bool true])))
theorem exp3P_in (s : List UInt8) : -100000 ≤ (exp3P s).1 ∧ (exp3P s).1 ≤ 100000 := by
  unfold exp3P
  split
  · exact ⟨by decide, by decide⟩
  · split
    · exact ⟨by decide, by decide⟩
    · next n h =>
      have := expG3_le _ 0 n (by omega) h
      dsimp only
      split <;> omega
theorem num_set5 {w : World} {v a0 a1 a2 a3 a4 : Value} {n g : Nat} (h : Num (g + 1) w v n) : Num 0 (((((w.setCell ⟨g, 0, none⟩ a0).setCell ⟨g, 1, none⟩ a1).setCell ⟨g, 2, none⟩ a2).setCell ⟨g, 3, none⟩ a3).setCell ⟨g, 4, none⟩ a4) v n :=
  ((((((h.gb (gb_set w g 0 none a0) (by omega)).gb (gb_set _ g 1 none a1) (by omega)).gb (gb_set _ g 2 none a2) (by omega)).gb (gb_set _ g 3 none a3) (by omega)).gb (gb_set _ g 4 none a4) (by omega)).mono (Nat.zero_le _))

set_option maxRecDepth 100000 in
set_option maxHeartbeats 1000000 in
theorem read28_hex (s : ByteArray) (w : World) (hs : s.size ≤ 4096) (hx : Lib.hasPrefix s.data.toList [48, 120] = true) (hlow : ∀ c ∈ s.data.toList, ¬ (65 ≤ c.toNat ∧ c.toNat ≤ 90)) :
    Calls Tryz.prog 31 #[.string s] w (Read28 s w) := by
  have hsz2 : 1 < s.size := by
    rcases Nat.lt_or_ge 1 s.size with h | h
    · exact h
    · rw [nil_prefix2 (by omega)] at hx; cases hx
  have hM := fun w => mantissa28_any true s 2 w hs (by omega) (fun _ => hlow)
  obtain ⟨pos, hpos, hsz, hrest⟩ := scan_rest true s 2
  have hdig := scanL_digit true false (s.data.toList.drop 2)
  have hlen := scanL_len true false (s.data.toList.drop 2)
  have hsl : (s.data.toList.drop 2).length ≤ s.size := by
    have h2 : s.data.toList.length = s.size := by simp
    rw [List.length_drop]; omega
  have hpost : ∀ e w', Read28 s w e w' = (Below w.heap.size w w' ∧ _) := fun e w' => rfl
  simp only [read3E, read3, hx, preN, baseN, if_true] at hpost
  unfold Man28 at hM
  rw [hsz] at hM
  obtain ⟨l, b, rest, hr⟩ : ∃ l b r, scanL true false (s.data.toList.drop 2) = (l, b, r) := ⟨_, _, _, rfl⟩
  simp only [hr] at hM hrest hdig hlen hpost hsz
  have hNb := natL_bl (base := 16) (by decide) l hdig
  have hHB : ∀ w', (l = [] ∨ (end3P true rest).2 = false) → Below w.heap.size w w' → Read28 s w (.returned (.tuple #[.agg #[.bool false, .slice none 0 0, .int .i64 0, .int .i64 0, .int .i64 0], .bool false])) w' := by
    intro w' h1 h2
    rw [hpost]
    exact ⟨h2, Or.inl ⟨h1, rfl⟩⟩
  have hHG : ∀ w' a x, l ≠ [] → end3P true rest = (x, true) → Num 0 w' a (natL 16 l) → Below w.heap.size w w' → Read28 s w (.returned (.tuple #[.agg #[.bool false, a, .int .i64 0, .int .i64 (x - 4 * ((b : Nat) : Int)), .int .i64 2], .bool true])) w' := by
    intro w' a x h1 h2 h3 h4
    rw [hpost, h2]
    exact ⟨h4, Or.inr ⟨⟨h1, rfl⟩, a, h3, rfl⟩⟩
  have hDEC := fun w v (h : Num 0 w v (natL 16 l)) => decimal28_any 0 v (natL 16 l) w h (by omega)
  simp only [baseN, if_true] at hM
  obtain ⟨D, hDD⟩ : ∃ D, (if natL 16 l = 0 then 0 else (Lib.decDigits (natL 16 l)).length) = D := ⟨_, rfl⟩
  simp only [hDD] at hDEC
  obtain ⟨q, hq⟩ : ∃ q, decide (0 < l.length) = q := ⟨_, rfl⟩
  rw [hq] at hM
  generalize natL 16 l = N at *
  have HBAD := Lib.hid hHB
  have HGOOD := Lib.hid hHG
  have HM := Lib.hid hM
  have HDEC := Lib.hid hDEC
  have HQ := Lib.hid hq
  clear hHB hHG hM hDEC hpost hdig hDD hr hq
  generalize Read28 s w = Post at *
  have hba := (Below.refl w.heap.size w).alloc (Nat.le_refl _) (.cells #[.bool false, .slice none 0 0, .int .i64 0, .int .i64 0, .int .i64 0] 53)
  have hk := Blk.new w #[.bool false, .slice none 0 0, .int .i64 0, .int .i64 0, .int .i64 0] 53
  go_enter Tryz.func31, Tryz.ntmps31
  go_upto_region 2 with fail
  generalize hW : w.alloc (.cells #[.bool false, .slice none 0 0, .int .i64 0, .int .i64 0, .int .i64 0] 53) = w1 at *
  obtain ⟨g, hge⟩ : ∃ g, w.heap.size = g := ⟨_, rfl⟩
  have hg : w.heap.size ≤ g := by omega
  rw [hge] at hk
  rw [hge]
  have hgl : g + 1 ≤ w1.heap.size := hk.lt
  clear hW hge
  go_cut [25] (fun u25 wx => u25 = .bool true ∧ wx = w1)
  case first =>
    have hsi : (1 : Int) < ((s.size : Nat) : Int) := by omega
    have h1 := hx
    rw [head_prefix2 hsz2, Bool.and_eq_true, beq_iff_eq, beq_iff_eq] at h1
    have e0 : (((s[0]'(by omega)).toNat : Nat) : Int) = 48 := by rw [← h1.1]; rfl
    have e1 : (((s[1]'hsz2).toNat : Nat) : Int) = 120 := by rw [← h1.2]; rfl
    clear h1 hx hlow
    go_wp2_with fail
    go_meet
    exact ⟨rfl, rfl⟩
  case rest =>
    obtain ⟨rfl, rfl⟩ := hcut
    go_wp2_with fail
    refine (HM.out _).mono ?_
    rintro en w2 ⟨v, rfl, hv, hb2⟩
    obtain ⟨x2, c2, rfl⟩ := num_slice hv
    clear HM
    cases q with
    | false =>
      have hl : l = [] := by
        have := HQ.out
        cases l with
        | nil => rfl
        | cons a t => simp at this
      have hk9 := hk.call (hb2)
      have z0 := hk9.cell 0 _ rfl
      have z1 := hk9.cell 1 _ rfl
      have z2 := hk9.cell 2 _ rfl
      have z3 := hk9.cell 3 _ rfl
      have z4 := hk9.cell 4 _ rfl
      have f0 := hk9.free 0
      have f1 := hk9.free 1
      have f2 := hk9.free 2
      have f3 := hk9.free 3
      have f4 := hk9.free 4
      have hbw := hba.trans ((hb2).mono hba.size)
      go_wp2_with fail
      have hq9 := (((((hk9.set 0 (.bool false)).set 1 (.slice none 0 0)).set 2 (.int .i64 0)).set 3 (.int .i64 0)).set 4 (.int .i64 0))
      have o0 := hq9.cell 0 _ rfl
      have o1 := hq9.cell 1 _ rfl
      have o2 := hq9.cell 2 _ rfl
      have o3 := hq9.cell 3 _ rfl
      have o4 := hq9.cell 4 _ rfl
      exact bodyPost_ret (v := .tuple #[.agg #[.bool false, .slice none 0 0, .int .i64 0, .int .i64 0, .int .i64 0], .bool false]) (by simp [results, Tryz.results31, go_sem, o0, o1, o2, o3, o4]; try rfl) rfl (HBAD.out _ (Or.inl hl) (((((hbw.setCell hg _).setCell hg _).setCell hg _).setCell hg _).setCell hg _))
    | true =>
      have hl : l ≠ [] := by
        have := HQ.out
        cases l with
        | nil => simp at this
        | cons a t => simp
      have hnb2 : ((b : Nat) : Int) ≤ 4096 := by have := hlen.2.1; omega
      cases rest with
      | nil =>
        have hpe : pos = s.size := by rw [List.length_nil] at hsz; omega
        have hpi : ¬ ((pos : Nat) : Int) < ((s.size : Nat) : Int) := by omega
        clear hsz hrest hlen hx hpe
        have hk9 := hk.call (hb2)
        have z0 := hk9.cell 0 _ rfl
        have z1 := hk9.cell 1 _ rfl
        have z2 := hk9.cell 2 _ rfl
        have z3 := hk9.cell 3 _ rfl
        have z4 := hk9.cell 4 _ rfl
        have f0 := hk9.free 0
        have f1 := hk9.free 1
        have f2 := hk9.free 2
        have f3 := hk9.free 3
        have f4 := hk9.free 4
        have hbw := hba.trans ((hb2).mono hba.size)
        go_wp2_with fail
        have hq9 := (((((hk9.set 0 (.bool false)).set 1 (.slice none 0 0)).set 2 (.int .i64 0)).set 3 (.int .i64 0)).set 4 (.int .i64 0))
        have o0 := hq9.cell 0 _ rfl
        have o1 := hq9.cell 1 _ rfl
        have o2 := hq9.cell 2 _ rfl
        have o3 := hq9.cell 3 _ rfl
        have o4 := hq9.cell 4 _ rfl
        exact bodyPost_ret (v := .tuple #[.agg #[.bool false, .slice none 0 0, .int .i64 0, .int .i64 0, .int .i64 0], .bool false]) (by simp [results, Tryz.results31, go_sem, o0, o1, o2, o3, o4]; try rfl) rfl (HBAD.out _ (Or.inr rfl) (((((hbw.setCell hg _).setCell hg _).setCell hg _).setCell hg _).setCell hg _))
      | cons c t =>
        have hp : pos < s.size := by have hq := hlen.2.2; rw [List.length_cons] at hsz hq; omega
        have hpi : ((pos : Nat) : Int) < ((s.size : Nat) : Int) := by omega
        have hdp := drop_at s pos hp
        rw [hdp] at hrest
        obtain ⟨hc, ht⟩ := List.cons.inj hrest
        clear hdp hrest hsz hlen hx
        by_cases hce : c = endB true
        · have ec : (((s[pos]'hp).toNat : Nat) : Int) = 112 := by rw [← hc, hce]; rfl
          have hE := fun w => exponent28_any (s.extract (pos + 1) s.size) w (by simp; omega)
          have htl : (s.extract (pos + 1) s.size).data.toList = t := by rw [extract_tail, ht]
          rw [htl] at hE
          obtain ⟨x, ok, hxo⟩ : ∃ x ok, exp3P t = (x, ok) := ⟨_, _, rfl⟩
          have hin := exp3P_in t
          rw [hxo] at hE hin
          have HE := Lib.hid hE
          have hend : end3P true (c :: t) = (x, ok) := by rw [end3P, if_pos hce, hxo]
          have HEND := Lib.hid hend
          have hpl : ((pos : Nat) : Int) + 1 ≤ ((s.size : Nat) : Int) := by omega
          obtain ⟨hin1, hin2⟩ := hin
          clear hE htl hxo hend hc ht hce
          go_wp2_with fail
          refine (HE.out _).mono ?_
          rintro en w3 ⟨rfl, hb3⟩
          have hb23 := hb2.trans (hb3.mono hb2.size)
          cases ok with
          | false =>
            have hk9 := hk.call (hb23)
            have z0 := hk9.cell 0 _ rfl
            have z1 := hk9.cell 1 _ rfl
            have z2 := hk9.cell 2 _ rfl
            have z3 := hk9.cell 3 _ rfl
            have z4 := hk9.cell 4 _ rfl
            have f0 := hk9.free 0
            have f1 := hk9.free 1
            have f2 := hk9.free 2
            have f3 := hk9.free 3
            have f4 := hk9.free 4
            have hbw := hba.trans ((hb23).mono hba.size)
            go_wp2_with fail
            have hq9 := (((((hk9.set 0 (.bool false)).set 1 (.slice none 0 0)).set 2 (.int .i64 0)).set 3 (.int .i64 0)).set 4 (.int .i64 0))
            have o0 := hq9.cell 0 _ rfl
            have o1 := hq9.cell 1 _ rfl
            have o2 := hq9.cell 2 _ rfl
            have o3 := hq9.cell 3 _ rfl
            have o4 := hq9.cell 4 _ rfl
            exact bodyPost_ret (v := .tuple #[.agg #[.bool false, .slice none 0 0, .int .i64 0, .int .i64 0, .int .i64 0], .bool false]) (by simp [results, Tryz.results31, go_sem, o0, o1, o2, o3, o4]; try rfl) rfl (HBAD.out _ (Or.inr (by rw [HEND.out])) (((((hbw.setCell hg _).setCell hg _).setCell hg _).setCell hg _).setCell hg _))
          | true =>
            have hw1 : IntKind.i64.wrap (4 * ((b : Nat) : Int)) = 4 * ((b : Nat) : Int) := wrapi3 (by omega) (by omega)
            have hw2 : IntKind.i64.wrap (x - 4 * ((b : Nat) : Int)) = x - 4 * ((b : Nat) : Int) := wrapi3 (by omega) (by omega)
            have hk9 := hk.call (hb23)
            have z0 := hk9.cell 0 _ rfl
            have z1 := hk9.cell 1 _ rfl
            have z2 := hk9.cell 2 _ rfl
            have z3 := hk9.cell 3 _ rfl
            have z4 := hk9.cell 4 _ rfl
            have f0 := hk9.free 0
            have f1 := hk9.free 1
            have f2 := hk9.free 2
            have f3 := hk9.free 3
            have f4 := hk9.free 4
            have hbw := hba.trans ((hb23).mono hba.size)
            go_wp2_with fail
            have hq9 := (((((hk9.set 0 (.bool false)).set 1 (.slice x2 (limbsOf N).length c2)).set 2 (.int .i64 0)).set 3 (.int .i64 (x - 4 * ((b : Nat) : Int)))).set 4 (.int .i64 2))
            have o0 := hq9.cell 0 _ rfl
            have o1 := hq9.cell 1 _ rfl
            have o2 := hq9.cell 2 _ rfl
            have o3 := hq9.cell 3 _ rfl
            have o4 := hq9.cell 4 _ rfl
            exact bodyPost_ret (v := .tuple #[.agg #[.bool false, .slice x2 (limbsOf N).length c2, .int .i64 0, .int .i64 (x - 4 * ((b : Nat) : Int)), .int .i64 2], .bool true]) (by simp [results, Tryz.results31, go_sem, o0, o1, o2, o3, o4]; try rfl) rfl (HGOOD.out _ _ _ hl HEND.out (num_set5 ((hv.call hb3).mono hgl)) (((((hbw.setCell hg _).setCell hg _).setCell hg _).setCell hg _).setCell hg _))
        · have ec : ¬ (((s[pos]'hp).toNat : Nat) : Int) = 112 := by
            intro h
            apply hce
            rw [hc]
            exact UInt8.toNat_inj.1 (by show (s[pos]'hp).toNat = 112; omega)
          have hend : end3P true (c :: t) = (0, false) := by rw [end3P, if_neg hce]
          have HEND := Lib.hid hend
          clear hc ht hce hend
          have hk9 := hk.call (hb2)
          have z0 := hk9.cell 0 _ rfl
          have z1 := hk9.cell 1 _ rfl
          have z2 := hk9.cell 2 _ rfl
          have z3 := hk9.cell 3 _ rfl
          have z4 := hk9.cell 4 _ rfl
          have f0 := hk9.free 0
          have f1 := hk9.free 1
          have f2 := hk9.free 2
          have f3 := hk9.free 3
          have f4 := hk9.free 4
          have hbw := hba.trans ((hb2).mono hba.size)
          go_wp2_with fail
          have hq9 := (((((hk9.set 0 (.bool false)).set 1 (.slice none 0 0)).set 2 (.int .i64 0)).set 3 (.int .i64 0)).set 4 (.int .i64 0))
          have o0 := hq9.cell 0 _ rfl
          have o1 := hq9.cell 1 _ rfl
          have o2 := hq9.cell 2 _ rfl
          have o3 := hq9.cell 3 _ rfl
          have o4 := hq9.cell 4 _ rfl
          exact bodyPost_ret (v := .tuple #[.agg #[.bool false, .slice none 0 0, .int .i64 0, .int .i64 0, .int .i64 0], .bool false]) (by simp [results, Tryz.results31, go_sem, o0, o1, o2, o3, o4]; try rfl) rfl (HBAD.out _ (Or.inr (by rw [HEND.out])) (((((hbw.setCell hg _).setCell hg _).setCell hg _).setCell hg _).setCell hg _))

set_option maxRecDepth 100000 in
set_option maxHeartbeats 1000000 in
theorem read28_dec (s : ByteArray) (w : World) (hs : s.size ≤ 4096) (hx : Lib.hasPrefix s.data.toList [48, 120] = false) :
    Calls Tryz.prog 31 #[.string s] w (Read28 s w) := by
  have hM := fun w => mantissa28_any false s 0 w hs (by omega) (fun h => by cases h)
  obtain ⟨pos, hpos, hsz, hrest⟩ := scan_rest false s 0
  have hdig := scanL_digit false false (s.data.toList.drop 0)
  have hlen := scanL_len false false (s.data.toList.drop 0)
  have hsl : (s.data.toList.drop 0).length ≤ s.size := by
    have h2 : s.data.toList.length = s.size := by simp
    rw [List.length_drop]; omega
  have hpost : ∀ e w', Read28 s w e w' = (Below w.heap.size w w' ∧ _) := fun e w' => rfl
  simp only [read3E, read3, hx, preN, baseN, Bool.false_eq_true, if_false] at hpost
  unfold Man28 at hM
  rw [hsz] at hM
  obtain ⟨l, b, rest, hr⟩ : ∃ l b r, scanL false false (s.data.toList.drop 0) = (l, b, r) := ⟨_, _, _, rfl⟩
  simp only [hr] at hM hrest hdig hlen hpost hsz
  have hNb := natL_bl (base := 10) (by decide) l hdig
  have hHB : ∀ w', (l = [] ∨ (end3P false rest).2 = false) → Below w.heap.size w w' → Read28 s w (.returned (.tuple #[.agg #[.bool false, .slice none 0 0, .int .i64 0, .int .i64 0, .int .i64 0], .bool false])) w' := by
    intro w' h1 h2
    rw [hpost]
    exact ⟨h2, Or.inl ⟨h1, rfl⟩⟩
  have hHG : ∀ w' a x, l ≠ [] → end3P false rest = (x, true) → Num 0 w' a (natL 10 l) → Below w.heap.size w w' → Read28 s w (.returned (.tuple #[.agg #[.bool false, a, .int .i64 (((if natL 10 l = 0 then 0 else (Lib.decDigits (natL 10 l)).length : Nat) : Nat) : Int), .int .i64 (x - ((b : Nat) : Int)), .int .i64 10], .bool true])) w' := by
    intro w' a x h1 h2 h3 h4
    rw [hpost, h2]
    exact ⟨h4, Or.inr ⟨⟨h1, rfl⟩, a, h3, rfl⟩⟩
  have hDEC := fun w v (h : Num 0 w v (natL 10 l)) => decimal28_any 0 v (natL 10 l) w h (by omega)
  simp only [baseN, Bool.false_eq_true, if_false] at hM
  obtain ⟨D, hDD⟩ : ∃ D, (if natL 10 l = 0 then 0 else (Lib.decDigits (natL 10 l)).length) = D := ⟨_, rfl⟩
  simp only [hDD] at hDEC hHG
  obtain ⟨q, hq⟩ : ∃ q, decide (0 < l.length) = q := ⟨_, rfl⟩
  rw [hq] at hM
  generalize natL 10 l = N at *
  have HBAD := Lib.hid hHB
  have HGOOD := Lib.hid hHG
  have HM := Lib.hid hM
  have hG0 := fun w' a => HGOOD.out w' a 0
  simp only [Int.zero_sub] at hG0
  have HGOOD0 := Lib.hid hG0
  clear hG0
  have HDEC := Lib.hid hDEC
  have HQ := Lib.hid hq
  clear hHB hHG hM hDEC hpost hdig hDD hr hq
  generalize Read28 s w = Post at *
  have hba := (Below.refl w.heap.size w).alloc (Nat.le_refl _) (.cells #[.bool false, .slice none 0 0, .int .i64 0, .int .i64 0, .int .i64 0] 53)
  have hk := Blk.new w #[.bool false, .slice none 0 0, .int .i64 0, .int .i64 0, .int .i64 0] 53
  go_enter Tryz.func31, Tryz.ntmps31
  go_upto_region 2 with fail
  generalize hW : w.alloc (.cells #[.bool false, .slice none 0 0, .int .i64 0, .int .i64 0, .int .i64 0] 53) = w1 at *
  obtain ⟨g, hge⟩ : ∃ g, w.heap.size = g := ⟨_, rfl⟩
  have hg : w.heap.size ≤ g := by omega
  rw [hge] at hk
  rw [hge]
  have hgl : g + 1 ≤ w1.heap.size := hk.lt
  clear hW hge
  go_cut [25] (fun u25 wx => u25 = .bool false ∧ wx = w1)
  case first =>
    by_cases hsz2 : 1 < s.size
    · have hsi : (1 : Int) < ((s.size : Nat) : Int) := by omega
      have h1 := hx
      rw [head_prefix2 hsz2, Bool.and_eq_false_iff, beq_eq_false_iff_ne, beq_eq_false_iff_ne] at h1
      by_cases h0 : s[0]'(by omega) = 48
      · have e0 : (((s[0]'(by omega)).toNat : Nat) : Int) = 48 := by rw [h0]; rfl
        have e1 : ¬ (((s[1]'hsz2).toNat : Nat) : Int) = 120 := by
          intro h
          rcases h1 with h1 | h1
          · exact h1 h0.symm
          · exact h1 (UInt8.toNat_inj.1 (by show 120 = (s[1]'hsz2).toNat; omega))
        clear h1 hx h0
        go_wp2_with fail
        go_meet
        exact ⟨by first | rfl | simp [beq_eq_false_iff_ne.2 e1], rfl⟩
      · have e0 : ¬ (((s[0]'(by omega)).toNat : Nat) : Int) = 48 := fun h => h0 (UInt8.toNat_inj.1 (by show (s[0]'(by omega)).toNat = 48; omega))
        clear h1 hx h0
        go_wp2_with fail
        go_meet
        exact ⟨by first | rfl | simp [beq_eq_false_iff_ne.2 e0], rfl⟩
    · have hsi : ¬ (1 : Int) < ((s.size : Nat) : Int) := by omega
      go_wp2_with fail
      go_meet
      exact ⟨rfl, rfl⟩
  case rest =>
    obtain ⟨rfl, rfl⟩ := hcut
    go_wp2_with fail
    refine (HM.out _).mono ?_
    rintro en w2 ⟨v, rfl, hv, hb2⟩
    obtain ⟨x2, c2, rfl⟩ := num_slice hv
    clear HM
    cases q with
    | false =>
      have hl : l = [] := by
        have := HQ.out
        cases l with
        | nil => rfl
        | cons a t => simp at this
      have hk9 := hk.call (hb2)
      have z0 := hk9.cell 0 _ rfl
      have z1 := hk9.cell 1 _ rfl
      have z2 := hk9.cell 2 _ rfl
      have z3 := hk9.cell 3 _ rfl
      have z4 := hk9.cell 4 _ rfl
      have f0 := hk9.free 0
      have f1 := hk9.free 1
      have f2 := hk9.free 2
      have f3 := hk9.free 3
      have f4 := hk9.free 4
      have hbw := hba.trans ((hb2).mono hba.size)
      go_wp2_with fail
      have hq9 := (((((hk9.set 0 (.bool false)).set 1 (.slice none 0 0)).set 2 (.int .i64 0)).set 3 (.int .i64 0)).set 4 (.int .i64 0))
      have o0 := hq9.cell 0 _ rfl
      have o1 := hq9.cell 1 _ rfl
      have o2 := hq9.cell 2 _ rfl
      have o3 := hq9.cell 3 _ rfl
      have o4 := hq9.cell 4 _ rfl
      exact bodyPost_ret (v := .tuple #[.agg #[.bool false, .slice none 0 0, .int .i64 0, .int .i64 0, .int .i64 0], .bool false]) (by simp [results, Tryz.results31, go_sem, o0, o1, o2, o3, o4]; try rfl) rfl (HBAD.out _ (Or.inl hl) (((((hbw.setCell hg _).setCell hg _).setCell hg _).setCell hg _).setCell hg _))
    | true =>
      have hl : l ≠ [] := by
        have := HQ.out
        cases l with
        | nil => simp at this
        | cons a t => simp
      have hnb2 : ((b : Nat) : Int) ≤ 4096 := by have := hlen.2.1; omega
      cases rest with
      | nil =>
        have hpe : pos = s.size := by rw [List.length_nil] at hsz; omega
        have hpi : ¬ ((pos : Nat) : Int) < ((s.size : Nat) : Int) := by omega
        clear hsz hrest hlen hx hpe
        have hw2 : IntKind.i64.wrap (- ((b : Nat) : Int)) = - ((b : Nat) : Int) := wrapi3 (by omega) (by omega)
        go_wp2_with fail
        refine (HDEC.out _ _ ((hv).mono (Nat.zero_le _))).mono ?_
        rintro en w8 ⟨rfl, hb8⟩
        have hb18 := (hb2).trans (hb8.mono (hb2).size)
        have hk9 := hk.call (hb18)
        have z0 := hk9.cell 0 _ rfl
        have z1 := hk9.cell 1 _ rfl
        have z2 := hk9.cell 2 _ rfl
        have z3 := hk9.cell 3 _ rfl
        have z4 := hk9.cell 4 _ rfl
        have f0 := hk9.free 0
        have f1 := hk9.free 1
        have f2 := hk9.free 2
        have f3 := hk9.free 3
        have f4 := hk9.free 4
        have hbw := hba.trans ((hb18).mono hba.size)
        go_wp2_with fail
        have hq9 := (((((hk9.set 0 (.bool false)).set 1 (.slice x2 (limbsOf N).length c2)).set 2 (.int .i64 ((D : Nat) : Int))).set 3 (.int .i64 (- ((b : Nat) : Int)))).set 4 (.int .i64 10))
        have o0 := hq9.cell 0 _ rfl
        have o1 := hq9.cell 1 _ rfl
        have o2 := hq9.cell 2 _ rfl
        have o3 := hq9.cell 3 _ rfl
        have o4 := hq9.cell 4 _ rfl
        exact bodyPost_ret (v := .tuple #[.agg #[.bool false, .slice x2 (limbsOf N).length c2, .int .i64 ((D : Nat) : Int), .int .i64 (- ((b : Nat) : Int)), .int .i64 10], .bool true]) (by simp [results, Tryz.results31, go_sem, o0, o1, o2, o3, o4]; try rfl) rfl (HGOOD0.out _ _ hl rfl (num_set5 (((hv).call hb8).mono hgl)) (((((hbw.setCell hg _).setCell hg _).setCell hg _).setCell hg _).setCell hg _))
      | cons c t =>
        have hp : pos < s.size := by have hq := hlen.2.2; rw [List.length_cons] at hsz hq; omega
        have hpi : ((pos : Nat) : Int) < ((s.size : Nat) : Int) := by omega
        have hdp := drop_at s pos hp
        rw [hdp] at hrest
        obtain ⟨hc, ht⟩ := List.cons.inj hrest
        clear hdp hrest hsz hlen hx
        by_cases hce : c = endB false
        · have ec : (((s[pos]'hp).toNat : Nat) : Int) = 101 := by rw [← hc, hce]; rfl
          have hE := fun w => exponent28_any (s.extract (pos + 1) s.size) w (by simp; omega)
          have htl : (s.extract (pos + 1) s.size).data.toList = t := by rw [extract_tail, ht]
          rw [htl] at hE
          obtain ⟨x, ok, hxo⟩ : ∃ x ok, exp3P t = (x, ok) := ⟨_, _, rfl⟩
          have hin := exp3P_in t
          rw [hxo] at hE hin
          have HE := Lib.hid hE
          have hend : end3P false (c :: t) = (x, ok) := by rw [end3P, if_pos hce, hxo]
          have HEND := Lib.hid hend
          have hpl : ((pos : Nat) : Int) + 1 ≤ ((s.size : Nat) : Int) := by omega
          obtain ⟨hin1, hin2⟩ := hin
          clear hE htl hxo hend hc ht hce
          go_wp2_with fail
          refine (HE.out _).mono ?_
          rintro en w3 ⟨rfl, hb3⟩
          have hb23 := hb2.trans (hb3.mono hb2.size)
          cases ok with
          | false =>
            have hk9 := hk.call (hb23)
            have z0 := hk9.cell 0 _ rfl
            have z1 := hk9.cell 1 _ rfl
            have z2 := hk9.cell 2 _ rfl
            have z3 := hk9.cell 3 _ rfl
            have z4 := hk9.cell 4 _ rfl
            have f0 := hk9.free 0
            have f1 := hk9.free 1
            have f2 := hk9.free 2
            have f3 := hk9.free 3
            have f4 := hk9.free 4
            have hbw := hba.trans ((hb23).mono hba.size)
            go_wp2_with fail
            have hq9 := (((((hk9.set 0 (.bool false)).set 1 (.slice none 0 0)).set 2 (.int .i64 0)).set 3 (.int .i64 0)).set 4 (.int .i64 0))
            have o0 := hq9.cell 0 _ rfl
            have o1 := hq9.cell 1 _ rfl
            have o2 := hq9.cell 2 _ rfl
            have o3 := hq9.cell 3 _ rfl
            have o4 := hq9.cell 4 _ rfl
            exact bodyPost_ret (v := .tuple #[.agg #[.bool false, .slice none 0 0, .int .i64 0, .int .i64 0, .int .i64 0], .bool false]) (by simp [results, Tryz.results31, go_sem, o0, o1, o2, o3, o4]; try rfl) rfl (HBAD.out _ (Or.inr (by rw [HEND.out])) (((((hbw.setCell hg _).setCell hg _).setCell hg _).setCell hg _).setCell hg _))
          | true =>
            have hw2 : IntKind.i64.wrap (x - ((b : Nat) : Int)) = x - ((b : Nat) : Int) := wrapi3 (by omega) (by omega)
            go_wp2_with fail
            refine (HDEC.out _ _ (((hv.call hb3)).mono (Nat.zero_le _))).mono ?_
            rintro en w8 ⟨rfl, hb8⟩
            have hb18 := (hb23).trans (hb8.mono (hb23).size)
            have hk9 := hk.call (hb18)
            have z0 := hk9.cell 0 _ rfl
            have z1 := hk9.cell 1 _ rfl
            have z2 := hk9.cell 2 _ rfl
            have z3 := hk9.cell 3 _ rfl
            have z4 := hk9.cell 4 _ rfl
            have f0 := hk9.free 0
            have f1 := hk9.free 1
            have f2 := hk9.free 2
            have f3 := hk9.free 3
            have f4 := hk9.free 4
            have hbw := hba.trans ((hb18).mono hba.size)
            go_wp2_with fail
            have hq9 := (((((hk9.set 0 (.bool false)).set 1 (.slice x2 (limbsOf N).length c2)).set 2 (.int .i64 ((D : Nat) : Int))).set 3 (.int .i64 (x - ((b : Nat) : Int)))).set 4 (.int .i64 10))
            have o0 := hq9.cell 0 _ rfl
            have o1 := hq9.cell 1 _ rfl
            have o2 := hq9.cell 2 _ rfl
            have o3 := hq9.cell 3 _ rfl
            have o4 := hq9.cell 4 _ rfl
            exact bodyPost_ret (v := .tuple #[.agg #[.bool false, .slice x2 (limbsOf N).length c2, .int .i64 ((D : Nat) : Int), .int .i64 (x - ((b : Nat) : Int)), .int .i64 10], .bool true]) (by simp [results, Tryz.results31, go_sem, o0, o1, o2, o3, o4]; try rfl) rfl (HGOOD.out _ _ _ hl HEND.out (num_set5 ((((hv.call hb3)).call hb8).mono hgl)) (((((hbw.setCell hg _).setCell hg _).setCell hg _).setCell hg _).setCell hg _))
        · have ec : ¬ (((s[pos]'hp).toNat : Nat) : Int) = 101 := by
            intro h
            apply hce
            rw [hc]
            exact UInt8.toNat_inj.1 (by show (s[pos]'hp).toNat = 101; omega)
          have hend : end3P false (c :: t) = (0, false) := by rw [end3P, if_neg hce]
          have HEND := Lib.hid hend
          clear hc ht hce hend
          have hk9 := hk.call (hb2)
          have z0 := hk9.cell 0 _ rfl
          have z1 := hk9.cell 1 _ rfl
          have z2 := hk9.cell 2 _ rfl
          have z3 := hk9.cell 3 _ rfl
          have z4 := hk9.cell 4 _ rfl
          have f0 := hk9.free 0
          have f1 := hk9.free 1
          have f2 := hk9.free 2
          have f3 := hk9.free 3
          have f4 := hk9.free 4
          have hbw := hba.trans ((hb2).mono hba.size)
          go_wp2_with fail
          have hq9 := (((((hk9.set 0 (.bool false)).set 1 (.slice none 0 0)).set 2 (.int .i64 0)).set 3 (.int .i64 0)).set 4 (.int .i64 0))
          have o0 := hq9.cell 0 _ rfl
          have o1 := hq9.cell 1 _ rfl
          have o2 := hq9.cell 2 _ rfl
          have o3 := hq9.cell 3 _ rfl
          have o4 := hq9.cell 4 _ rfl
          exact bodyPost_ret (v := .tuple #[.agg #[.bool false, .slice none 0 0, .int .i64 0, .int .i64 0, .int .i64 0], .bool false]) (by simp [results, Tryz.results31, go_sem, o0, o1, o2, o3, o4]; try rfl) rfl (HBAD.out _ (Or.inr (by rw [HEND.out])) (((((hbw.setCell hg _).setCell hg _).setCell hg _).setCell hg _).setCell hg _))
end Go.Proofs.YtkfbailpifmdcaaGreatDoor
end

section
namespace Go.Proofs.YtkfbailpifmdcaaGreatDoor

theorem exp_same (s : List UInt8) : (exp3P s).2 = (expP s).2 ∧ ((expP s).1 = (exp3P s).1 ∨ (100000 < (expP s).1 ∧ (exp3P s).1 = 100000) ∨ ((expP s).1 < -100000 ∧ (exp3P s).1 = -100000) ∨ (expP s).2 = false) := by
  unfold exp3P expP
  by_cases h0 : expT s = []
  · rw [if_pos h0, h0]
    exact ⟨rfl, Or.inr (Or.inr (Or.inr rfl))⟩
  · rw [if_neg h0]
    have h1 := expG3_min (expT s) 0
    rw [Nat.zero_min] at h1
    have he : (expT s).isEmpty = false := by
      cases h : expT s with
      | nil => exact absurd h h0
      | cons a t => rfl
    rw [h1, he]
    cases hg : expG 0 (expT s) with
    | none => exact ⟨rfl, Or.inr (Or.inr (Or.inr rfl))⟩
    | some n =>
      refine ⟨rfl, ?_⟩
      simp only [Option.map_some]
      by_cases hn : n ≤ 100000
      · left; rw [Nat.min_eq_left hn]
      · rw [Nat.min_eq_right (by omega)]
        cases Lib.hasPrefix s [45] with
        | true => right; right; left; simp only [if_true]; omega
        | false => right; left; simp only [Bool.false_eq_true, if_false]; omega
theorem end_same (hex : Bool) (r : List UInt8) : (end3P hex r).2 = (endP hex r).2 ∧ ((endP hex r).1 = (end3P hex r).1 ∨ (100000 < (endP hex r).1 ∧ (end3P hex r).1 = 100000) ∨ ((endP hex r).1 < -100000 ∧ (end3P hex r).1 = -100000) ∨ (endP hex r).2 = false) := by
  cases r with
  | nil => exact ⟨rfl, Or.inl rfl⟩
  | cons c t =>
    unfold end3P endP
    dsimp only
    by_cases h : c = endB hex
    · simp only [if_pos h]; exact exp_same t
    · simp [if_neg h]
theorem tens_far {neg : Bool} {n d : Nat} {k k2 : Int} (hd : d ≤ 5000) (h : (90000 < k ∧ 90000 < k2) ∨ (k < -90000 ∧ k2 < -90000)) : tensP neg n d k = tensP neg n d k2 := by
  unfold tensP
  by_cases hn : n = 0
  · rw [if_pos hn, if_pos hn]
  rw [if_neg hn, if_neg hn]
  rcases h with ⟨h1, h2⟩ | ⟨h1, h2⟩
  · rw [if_pos (show 400 < (d : Int) + k by omega), if_pos (show 400 < (d : Int) + k2 by omega)]
  · rw [if_neg (show ¬ 400 < (d : Int) + k by omega), if_pos (show (d : Int) + k < -400 by omega), if_neg (show ¬ 400 < (d : Int) + k2 by omega), if_pos (show (d : Int) + k2 < -400 by omega)]
theorem twos_far {neg : Bool} {n : Nat} {k k2 : Int} (hd : bl n ≤ 20000) (h : (60000 < k ∧ 60000 < k2) ∨ (k < -60000 ∧ k2 < -60000)) : twosP neg n k = twosP neg n k2 := by
  unfold twosP
  by_cases hn : n = 0
  · rw [if_pos hn, if_pos hn]
  rw [if_neg hn, if_neg hn]
  rcases h with ⟨h1, h2⟩ | ⟨h1, h2⟩
  · rw [if_pos (show 1200 < ((bl n : Nat) : Int) + k by omega), if_pos (show 1200 < ((bl n : Nat) : Int) + k2 by omega)]
  · rw [if_neg (show ¬ 1200 < ((bl n : Nat) : Int) + k by omega), if_pos (show ((bl n : Nat) : Int) + k < -1200 by omega), if_neg (show ¬ 1200 < ((bl n : Nat) : Int) + k2 by omega), if_pos (show ((bl n : Nat) : Int) + k2 < -1200 by omega)]
/-- How many digits the reference counts. -/
def many3 (n : Nat) : Nat := if n = 0 then 0 else (Lib.decDigits n).length
theorem many_same {l : List Nat} (hl : ∀ d ∈ l, d < 10) (neg : Bool) (k : Int) : tensP neg (natL 10 (zerosL l)) (zerosL l).length k = tensP neg (natL 10 l) (many3 (natL 10 l)) k := by
  rw [natL_zerosL]
  by_cases h0 : natL 10 l = 0
  · unfold tensP; rw [if_pos h0, if_pos h0]
  · have h1 := zerosL_big l h0
    have h2 : natL 10 l < 10 ^ (zerosL l).length := by
      rw [← natL_zerosL]
      refine natL_lt _ (fun d hd => hl d ?_)
      exact zerosL_mem l d hd
    have hp : 0 < (zerosL l).length := by
      rcases Nat.eq_zero_or_pos (zerosL l).length with h | h
      · rw [h, Nat.pow_zero] at h2; omega
      · exact h
    have h3 : (Lib.decDigits (natL 10 l)).length = (zerosL l).length := by
      have := dec_len_is (k := (zerosL l).length - 1) (u := natL 10 l) h1 (by rw [show (zerosL l).length - 1 + 1 = (zerosL l).length by omega]; exact h2)
      omega
    unfold many3
    rw [if_neg h0, h3]

theorem read_same (neg : Bool) (s : ByteArray) (hs : s.size ≤ 4096) :
    numberP neg s.data.toList = if (read3 s).1 = [] ∨ (read3E s).2 = false then none else
      some (if Lib.hasPrefix s.data.toList [48, 120] then twosP neg (natL 16 (read3 s).1) ((read3E s).1 - 4 * (((read3 s).2.1 : Nat) : Int)) else tensP neg (natL 10 (read3 s).1) (many3 (natL 10 (read3 s).1)) ((read3E s).1 - (((read3 s).2.1 : Nat) : Int))) := by
  have ht : Lib.trimPrefix s.data.toList [48, 120] = s.data.toList.drop (preN (Lib.hasPrefix s.data.toList [48, 120])) := by
    unfold Lib.trimPrefix preN
    cases Lib.hasPrefix s.data.toList [48, 120] <;> rfl
  have hnum : numberP neg s.data.toList = (if (read3 s).1 = [] then none else if (endP (Lib.hasPrefix s.data.toList [48, 120]) (read3 s).2.2).2 = false then none else
      if Lib.hasPrefix s.data.toList [48, 120] then some (twosP neg (natL 16 (read3 s).1) ((endP (Lib.hasPrefix s.data.toList [48, 120]) (read3 s).2.2).1 - 4 * (((read3 s).2.1 : Nat) : Int)))
      else some (tensP neg (natL 10 (zerosL (read3 s).1)) (zerosL (read3 s).1).length ((endP (Lib.hasPrefix s.data.toList [48, 120]) (read3 s).2.2).1 - (((read3 s).2.1 : Nat) : Int)))) := by
    unfold numberP
    rw [ht]
    rfl
  rw [hnum]
  clear hnum ht
  obtain ⟨e1, e2⟩ := end_same (Lib.hasPrefix s.data.toList [48, 120]) (read3 s).2.2
  have hE : read3E s = end3P (Lib.hasPrefix s.data.toList [48, 120]) (read3 s).2.2 := rfl
  have hdig := scanL_digit (Lib.hasPrefix s.data.toList [48, 120]) false (s.data.toList.drop (preN (Lib.hasPrefix s.data.toList [48, 120])))
  have hlen := scanL_len (Lib.hasPrefix s.data.toList [48, 120]) false (s.data.toList.drop (preN (Lib.hasPrefix s.data.toList [48, 120])))
  have hr : scanL (Lib.hasPrefix s.data.toList [48, 120]) false (s.data.toList.drop (preN (Lib.hasPrefix s.data.toList [48, 120]))) = read3 s := rfl
  rw [hr] at hdig hlen
  rw [List.length_drop] at hlen
  have hsz : s.data.toList.length = s.size := by simp
  rw [hsz] at hlen
  by_cases h1 : (read3 s).1 = []
  · rw [if_pos h1, if_pos (Or.inl h1)]
  by_cases h2 : (read3E s).2 = false
  · rw [if_neg h1, if_pos (by rw [← e1, ← hE]; exact h2), if_pos (Or.inr h2)]
  have h3 : ¬ ((read3 s).1 = [] ∨ (read3E s).2 = false) := by
    rintro (h | h)
    · exact h1 h
    · exact h2 h
  rw [if_neg h1, if_neg (by rw [← e1, ← hE]; exact h2), if_neg h3]
  clear h3
  have hb : (read3 s).2.1 ≤ 4096 := by omega
  have hl : (read3 s).1.length ≤ 4096 := by omega
  have e3 : (endP (Lib.hasPrefix s.data.toList [48, 120]) (read3 s).2.2).2 ≠ false := by rw [← e1, ← hE]; exact h2
  rw [hE]
  clear hr h2 hE e1
  generalize endP (Lib.hasPrefix s.data.toList [48, 120]) (read3 s).2.2 = A at *
  generalize end3P (Lib.hasPrefix s.data.toList [48, 120]) (read3 s).2.2 = C at *
  generalize Lib.hasPrefix s.data.toList [48, 120] = H at *
  cases H with
  | true =>
    simp only [if_true] at hdig ⊢
    have hN := natL_bl (base := 16) (by decide) _ hdig
    rcases e2 with e2 | e2 | e2 | e2
    · rw [e2]
    · rw [twos_far (k2 := C.1 - 4 * (((read3 s).2.1 : Nat) : Int)) (by omega) (Or.inl (by omega))]
    · rw [twos_far (k2 := C.1 - 4 * (((read3 s).2.1 : Nat) : Int)) (by omega) (Or.inr (by omega))]
    · exact absurd e2 e3
  | false =>
    simp only [Bool.false_eq_true, if_false] at hdig ⊢
    rw [many_same hdig]
    have hN := natL_bl (base := 10) (by decide) _ hdig
    have hM : many3 (natL 10 (read3 s).1) ≤ 4096 := by
      unfold many3
      split
      · omega
      · rcases Nat.eq_zero_or_pos (read3 s).1.length with h | h
        · exact absurd (List.eq_nil_of_length_eq_zero h) h1
        · exact Nat.le_trans (dec_len_le _ _ h (natL_lt _ hdig)) hl
    rcases e2 with e2 | e2 | e2 | e2
    · rw [e2]
    · rw [tens_far (k2 := C.1 - (((read3 s).2.1 : Nat) : Int)) (by omega) (Or.inl (by omega))]
    · rw [tens_far (k2 := C.1 - (((read3 s).2.1 : Nat) : Int)) (by omega) (Or.inr (by omega))]
    · exact absurd e2 e3
end Go.Proofs.YtkfbailpifmdcaaGreatDoor
end
