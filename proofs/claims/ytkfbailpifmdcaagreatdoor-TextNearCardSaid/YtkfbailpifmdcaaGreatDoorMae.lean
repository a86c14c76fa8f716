/- LimJ DivD Clone -/
import Derived.Test.YtkfbailpifmdcaaGreatDoorMad
import Derived.Laws.AppendOwn
import Derived.Test.YtkfbailpifmdcaaGreatDoorMaa
import Derived.Laws.AppendOwnNone
import Derived.Laws.CopyOwn
section
namespace Go.Proofs.YtkfbailpifmdcaaGreatDoor
open Go.RowKit

/-- Words of one's own in the midst of a block. -/
def Mid (w : World) (b : Nat) (pre y post : List Nat) : Prop := Blk w b (wArr (pre ++ y ++ post)) 22
theorem Mid.cell {w : World} {b : Nat} {pre y post : List Nat} (h : Mid w b pre y post) (i : Nat) (hi : i < y.length) : w.cell? ⟨b, pre.length + i, none⟩ = some (.int .u64 ((gw y i : Nat) : Int)) := by
  have e : gw (pre ++ y ++ post) (pre.length + i) = gw y i := by
    rw [gw_def, gw_def, List.append_assoc, List.getElem?_append_right (by omega), show pre.length + i - pre.length = i by omega, List.getElem?_append_left hi]
  rw [← e]
  exact Blk.cell h _ _ (wArr_get _ _ (by simp; omega))
theorem Mid.free {w : World} {b : Nat} {pre y post : List Nat} (h : Mid w b pre y post) (o : Nat) : w.frozen? ⟨b, o, none⟩ = false := Blk.free h o
theorem Mid.set {w : World} {b : Nat} {pre y post : List Nat} (h : Mid w b pre y post) (i : Nat) (hi : i < y.length) (x : Nat) : Mid (w.setCell ⟨b, pre.length + i, none⟩ (.int .u64 ((x : Nat) : Int))) b pre (y.set i x) post := by
  have := blk_setW (h : Blk _ _ _ _) (pre.length + i) x
  unfold Mid
  have e : (pre ++ y ++ post).set (pre.length + i) x = pre ++ y.set i x ++ post := by
    rw [List.append_assoc, List.set_append_right _ _ (by omega), show pre.length + i - pre.length = i by omega, List.set_append_left _ _ hi, List.append_assoc]
  rw [e] at this; exact this
theorem Mid.drewN {w : World} {b : Nat} {pre y post : List Nat} (h : Mid w b pre y post) (n : Nat) : Mid (w.drewN n) b pre y post := h

theorem quiet_of2 {P : Program} {f : FuncId} {args : Array Value} {w : World} {k n : Nat} {v : Value}
    (h : Calls P f args (w.drewN (k + n)) fun e w' => e = .returned v ∧ ∃ m, w' = (w.drewN (k + n)).drewN m) : Calls P f args (w.drewN (k + n)) fun e w'' => e = .returned v ∧ ∃ m, w'' = w.drewN (k + m) :=
  h.mono fun _ _ ⟨he, m, hm⟩ => ⟨he, n + m, by rw [hm, World.drewN_drewN, Nat.add_assoc]⟩

/-- What goes on while a multiple is taken away. -/
def TakeRel (w : World) (b : Nat) (pre y post dl : List Nat) (g : Nat) (u95 u11 u10 : Value) (wr : World) : Prop :=
  ∃ (i carry less : Nat) (z : List Nat), i ≤ dl.length ∧ u95 = .int .i64 i ∧ u11 = .int .u64 carry ∧ u10 = .int .u64 less ∧ carry < 18446744073709551616 ∧ less ≤ 1 ∧ z.length = y.length ∧ okW z ∧
    Hid (∀ j, i ≤ j → gw z j = gw y j) ∧ Hid (vt z i + g * vt dl i = vt y i + (less + carry) * pw i) ∧ Mid wr b pre z post ∧ w.grownBy wr (some b)
/-- .. while the divisor is added back. -/
def BackRel (w : World) (b : Nat) (pre y post dl : List Nat) (u148 u17 : Value) (wr : World) : Prop :=
  ∃ (i c : Nat) (z : List Nat), i ≤ dl.length ∧ u148 = .int .i64 i ∧ u17 = .int .u64 c ∧ c ≤ 1 ∧ z.length = y.length ∧ okW z ∧
    Hid (∀ j, i ≤ j → gw z j = gw y j) ∧ Hid (vt z i + c * pw i = vt y i + vt dl i) ∧ Mid wr b pre z post ∧ w.grownBy wr (some b)
def LessRel (w : World) (b : Nat) (pre y post dl : List Nat) (u6 u10 : Value) (wr : World) : Prop :=
  ∃ (g less : Nat) (z : List Nat), u6 = .int .u64 g ∧ u10 = .int .u64 less ∧ g < 18446744073709551616 ∧ less ≤ 1 ∧ z.length = y.length ∧ okW z ∧
    Hid (valN z + g * valN dl = valN y + less * pw y.length) ∧ Hid (valN y / valN dl ≤ g) ∧ Mid wr b pre z post ∧ w.grownBy wr (some b)

def StepPost (w : World) (b : Nat) (pre y post dl : List Nat) (e : Ending) (w' : World) : Prop :=
  e = .returned (.int .u64 ((valN y / valN dl : Nat) : Int)) ∧ ∃ z, z.length = y.length ∧ okW z ∧ valN z = valN y % valN dl ∧ Mid w' b pre z post ∧ w.grownBy w' (some b)

theorem carry_lt {g x c : Nat} (hg : g < 18446744073709551616) (hx : x < 18446744073709551616) (hc : c < 18446744073709551616) : mH g x + aC (mL g x) c 0 < 18446744073709551616 := by
  have h1 := mL_mH g x
  have h2 := aS_aC (mL g x) c 0
  have h3 := mL_lt g x
  have h4 := mH_le hg hx
  have : aC (mL g x) c 0 ≤ 1 := by unfold aC; omega
  omega

theorem take_close {w wr : World} {b : Nat} {pre y post dl z : List Nat} {g i carry less : Nat} {e : Int} (hi : i < dl.length) (hzl : z.length = y.length) (hiz : i < z.length) (hzo : okW z)
    (hl : less ≤ 1) (gz : gw z i < 18446744073709551616) (hs : ∀ j, i ≤ j → gw z j = gw y j) (hv : vt z i + g * vt dl i = vt y i + (less + carry) * pw i)
    (he : e = ((mH g (gw dl i) + aC (mL g (gw dl i)) carry 0 : Nat) : Int)) (hcl : mH g (gw dl i) + aC (mL g (gw dl i)) carry 0 < 18446744073709551616)
    (hz : Mid wr b pre (z.set i (sD (gw z i) (aS (mL g (gw dl i)) carry 0) less)) post) (hgb : w.grownBy wr (some b)) :
    TakeRel w b pre y post dl g (.int .i64 (((i : Nat) : Int) + 1)) (.int .u64 e) (.int .u64 ((sB (gw z i) (aS (mL g (gw dl i)) carry 0) less : Nat) : Int)) wr := by
  subst he
  refine ⟨i + 1, _, _, _, hi, by simp, rfl, rfl, hcl, sB_le _ _ _, by rw [List.length_set]; exact hzl, okW_set hzo _ _ (sD_lt _ _ _), fun j hj => ?_, ?_, hz, hgb⟩
  · rw [gw_set_other _ _ _ _ (by omega)]; exact hs j (by omega)
  · show vt _ (i + 1) + g * vt dl (i + 1) = _
    rw [vt_succ, vt_set _ _ _ _ (Nat.le_refl _), gw_set_same _ _ _ hiz, vt_succ, vt_succ, pw_succ, ← hs i (Nat.le_refl _)]
    exact take_step hv (mL_mH g (gw dl i)) (by have := aS_aC (mL g (gw dl i)) carry 0; omega) rfl (by have := sD_sB gz (aS_lt (mL g (gw dl i)) carry 0) hl; omega)

theorem take_end {w wr : World} {b : Nat} {pre y post dl z : List Nat} {g n carry less : Nat} (hn : dl.length = n) (hyl : y.length = n + 1) (hzl : z.length = n + 1) (hzo : okW z) (gz : gw z n < 18446744073709551616)
    (hc : carry < 18446744073709551616) (hl : less ≤ 1) (hg : g < 18446744073709551616) (hs : ∀ j, n ≤ j → gw z j = gw y j) (hv : vt z n + g * vt dl n = vt y n + (less + carry) * pw n) (hQ : valN y / valN dl ≤ g)
    (hz : Mid wr b pre (z.set n (sD (gw z n) carry less)) post) (hgb : w.grownBy wr (some b)) :
    LessRel w b pre y post dl (.int .u64 ((g : Nat) : Int)) (.int .u64 ((sB (gw z n) carry less : Nat) : Int)) wr := by
  refine ⟨g, _, _, rfl, rfl, hg, sB_le _ _ _, by rw [List.length_set]; omega, okW_set hzo _ _ (sD_lt _ _ _), ?_, hQ, hz, hgb⟩
  show valN _ + g * valN dl = valN y + _ * pw y.length
  have h1 : valN (z.set n (sD (gw z n) carry less)) = vt z n + sD (gw z n) carry less * pw n := by
    rw [← vt_all _ (n + 1) (by rw [List.length_set]; omega), vt_succ, vt_set _ _ _ _ (Nat.le_refl _), gw_set_same _ _ _ (by omega)]
  have h2 : valN y = vt y n + gw z n * pw n := by rw [← vt_all y (n + 1) (by omega), vt_succ, hs n (Nat.le_refl _)]
  rw [h1, h2, hyl, pw_succ, ← vt_all dl n (by omega)]
  exact take_last hv (by have := sD_sB gz hc hl; omega)

theorem less_room {z : List Nat} {less k : Nat} (hl : less ≤ 1) (h0 : less ≠ 0) (hz : okW z) (hk : z.length = k) : valN z < less * pw k := by
  obtain rfl : less = 1 := by omega
  rw [Nat.one_mul, ← hk]; exact valN_lt hz

theorem back_close {w wr : World} {b : Nat} {pre y post dl x : List Nat} {i c c' t : Nat} (hi : i < dl.length) (hxl : x.length = y.length) (hix : i < x.length) (hxo : okW x) (hc' : c' ≤ 1) (ht : t < 18446744073709551616)
    (hst : t + 18446744073709551616 * c' = gw x i + gw dl i + c) (hs : ∀ j, i ≤ j → gw x j = gw y j) (hv : vt x i + c * pw i = vt y i + vt dl i)
    (hz : Mid wr b pre (x.set i t) post) (hgb : w.grownBy wr (some b)) : BackRel w b pre y post dl (.int .i64 (((i : Nat) : Int) + 1)) (.int .u64 ((c' : Nat) : Int)) wr := by
  refine ⟨i + 1, _, _, hi, by simp, rfl, hc', by rw [List.length_set]; exact hxl, okW_set hxo _ _ ht, fun j hj => ?_, ?_, hz, hgb⟩
  · rw [gw_set_other _ _ _ _ (by omega)]; exact hs j (by omega)
  · show vt _ (i + 1) + c' * pw (i + 1) = vt y (i + 1) + vt dl (i + 1)
    rw [vt_succ, vt_set _ _ _ _ (Nat.le_refl _), gw_set_same _ _ _ hix, vt_succ, vt_succ, pw_succ, ← hs i (Nat.le_refl _)]
    exact step_sum hv hst

theorem back_end {w wr : World} {b : Nat} {pre y z post dl x : List Nat} {n c g g' : Nat} {e : Int} (hn : dl.length = n) (hyl : y.length = n + 1) (hzl : z.length = y.length) (hxl : x.length = n + 1) (hxo : okW x) (hg : g < 18446744073709551616) (hg0 : 0 < g) (hg' : g - 1 = g')
    (hc : aC (gw x n) 0 c ≤ 1) (hQ : valN y / valN dl < g) (hs : ∀ j, n ≤ j → gw x j = gw z j) (hv : vt x n + c * pw n = vt z n + vt dl n) (hV : valN z + g * valN dl = valN y + 1 * pw y.length)
    (hz : Mid wr b pre (x.set n (aS (gw x n) 0 c)) post) (hgb : w.grownBy wr (some b)) (he : e = ((1 - aC (gw x n) 0 c : Nat) : Int) := by go_num) :
    LessRel w b pre y post dl (.int .u64 ((g' : Nat) : Int)) (.int .u64 e) wr := by
  subst he
  refine ⟨g', 1 - aC (gw x n) 0 c, _, rfl, rfl, by omega, by omega, by rw [List.length_set]; omega, okW_set hxo _ _ (aS_lt _ _ _), ?_, by show _ ≤ g'; omega, hz, hgb⟩
  show valN _ + g' * valN dl = valN y + _ * pw y.length
  subst hg'
  refine back_step hg0 hc (W := pw y.length) (V := valN z) (by rw [hV, Nat.one_mul]) ?_
  have h1 : valN (x.set n (aS (gw x n) 0 c)) = vt x n + aS (gw x n) 0 c * pw n := by
    rw [← vt_all _ (n + 1) (by rw [List.length_set]; omega), vt_succ, vt_set _ _ _ _ (Nat.le_refl _), gw_set_same _ _ _ (by omega)]
  have h2 : valN z = vt z n + gw x n * pw n := by rw [← vt_all z (n + 1) (by omega), vt_succ, hs n (Nat.le_refl _)]
  rw [h1, h2, hyl, pw_succ, ← vt_all dl n (by omega)]
  have h3 := step_sum (y := 0) hv (aS_aC (gw x n) 0 c)
  rw [Nat.zero_mul, Nat.add_zero] at h3
  rw [h3]

theorem div_digit {y0 y1 d1 d2 y2 Q : Nat} (hlt : y0 < d1) (hy1 : y1 < 18446744073709551616) (hd1 : d1 < 18446744073709551616) (hy2 : y2 < 18446744073709551616)
    (htop : Q * (d1 * 18446744073709551616 + d2) ≤ y0 * (18446744073709551616 * 18446744073709551616) + y1 * 18446744073709551616 + y2) :
    ∃ q r : Nat, (∀ w, Calls Tryz.prog 111 #[.int .u64 ((y0 : Nat) : Int), .int .u64 ((y1 : Nat) : Int), .int .u64 ((d1 : Nat) : Int)] w (DivPost w q r)) ∧
      q * d1 + r = y0 * 18446744073709551616 + y1 ∧ r < d1 ∧ q < 18446744073709551616 ∧ Q ≤ q := by
  refine ⟨_, _, fun w => Div64_any y0 y1 d1 hlt hy1 hd1 w, by rw [Nat.mul_comm]; exact Nat.div_add_mod _ _, Nat.mod_lt _ (by omega), ?_, digit_first (by omega) hy2 htop⟩
  rw [Nat.div_lt_iff_lt_mul (by omega)]
  have : (y0 + 1) * 18446744073709551616 ≤ d1 * 18446744073709551616 := Nat.mul_le_mul_right _ hlt
  rw [Nat.mul_comm d1] at this
  omega

set_option maxRecDepth 100000 in
set_option maxHeartbeats 4000000 in
theorem step_any (b : Nat) (pre y post dl : List Nat) (cap b' o' cap' n : Nat) (w : World) (hn : dl.length = n) (hn2 : 2 ≤ n) (hnb : n ≤ 549755813888) (hyl : y.length = n + 1) (hoky : okW y) (hokd : okW dl)
    (hm : Mid w b pre y post) (hbb : b' ≠ b) (hd : ∀ i, i < n → w.cell? ⟨b', o' + i, none⟩ = some (.int .u64 ((gw dl i : Nat) : Int))) (hlt : valN y < valN dl * 18446744073709551616) :
    Calls Tryz.prog 110 #[.slice (some ⟨b, pre.length, none⟩) (n + 1) cap, .slice (some ⟨b', o', none⟩) n cap'] w (StepPost w b pre y post dl) := by
  have HD := Lib.hid hd
  have HLT := Lib.hid hlt
  have HYL := Lib.hid hyl
  have HN := Lib.hid hn
  have hD : 0 < valN dl := by
    apply Nat.pos_of_ne_zero; intro e; rw [e] at hlt; simp at hlt
  have hD0 := Lib.hid hD
  obtain ⟨n1, hn1⟩ : ∃ k, n - 1 = k := ⟨_, rfl⟩
  obtain ⟨n2, hn2'⟩ : ∃ k, n - 2 = k := ⟨_, rfl⟩
  have hc1 := hd n1 (by omega)
  have hc2 := hd n2 (by omega)
  have yc0 := hm.cell n (by omega)
  have yc1 := hm.cell n1 (by omega)
  have yc2 := hm.cell n2 (by omega)
  have gd1 := okW_gw hokd n1
  have gd2 := okW_gw hokd n2
  have gy0 := okW_gw hoky n
  have gy1 := okW_gw hoky n1
  have gy2 := okW_gw hoky n2
  have hQr := digit_room hlt
  have htop := digit_top (d := dl) (Q := valN y / valN dl) hoky hn2 (by
    rw [vt_all dl n (by omega), vt_all y (n + 1) (by omega), Nat.mul_comm]; exact Nat.mul_div_le _ _)
  rw [hn1, hn2'] at htop
  obtain ⟨Q, hQe⟩ : ∃ Q, valN y / valN dl = Q := ⟨_, rfl⟩
  rw [hQe] at htop hQr
  have HTOP := Lib.hid htop
  have HQR := Lib.hid hQr
  have HQE := Lib.hid hQe
  have e1 : ((n : Nat) : Int) - 1 = ((n1 : Nat) : Int) := by omega
  have e2 : ((n : Nat) : Int) - 2 = ((n2 : Nat) : Int) := by omega
  have hb1 : ((n : Nat) : Int) < ((n : Nat) : Int) + 1 := by omega
  have hb2 : ((n1 : Nat) : Int) < ((n : Nat) : Int) + 1 := by omega
  have hb3 : ((n1 : Nat) : Int) < ((n : Nat) : Int) := by omega
  have hb4 : ((n2 : Nat) : Int) < ((n : Nat) : Int) + 1 := by omega
  have hb5 : ((n2 : Nat) : Int) < ((n : Nat) : Int) := by omega
  clear hd hlt hyl hn hD hQr htop hn1 hn2' hQe
  go_enter Tryz.func110, Tryz.ntmps110
  go_wp2_with fail
  go_quiet (fail)
  go_upto_if 31 with fail
  go_cut [6] (fun u6 wx => ∃ g : Nat, u6 = .int .u64 ((g : Nat) : Int) ∧ g < 18446744073709551616 ∧ Q ≤ g ∧ ∃ m, wx = w.drewN m)
  case first =>
    by_cases hlt : gw y n < gw dl n1
    · simp only [hlt, decide_true]
      go_wp2_with fail
      obtain ⟨q, r, hdiv, hdm, hr, hq, hfirst⟩ := div_digit hlt gy1 gd1 gy2 HTOP.out
      go_quiet ((go_at_call 111; exact quiet_of2 (hdiv _)))
      clear hdiv
      have HDM := Lib.hid hdm
      have HF := Lib.hid hfirst
      clear hdm hfirst
      go_wp2_with fail
      go_loopw [6, 7] (fun u6 u7 wr => ∃ g low : Nat, u6 = .int .u64 ((g : Nat) : Int) ∧ u7 = .int .u64 ((low : Nat) : Int) ∧ g < 18446744073709551616 ∧ low < 18446744073709551616 ∧
        Hid (g * gw dl n1 + low = gw y n * 18446744073709551616 + gw y n1) ∧ Hid (Q ≤ g) ∧ ∃ m, wr = w.drewN m) (fun u6 _ _ => (intOf u6).toNat)
      case atStart => exact ⟨q, r, rfl, rfl, hq, by omega, HDM, HF, _, World.drewN_drewN _ _ _⟩
      case round =>
        clear HDM HF
        obtain ⟨g, low, rfl, rfl, hg, hlow, HG, HQG, m, rfl⟩ := hrel
        have hML := mL_mH g (gw dl n2)
        have hmb := mL_lt g (gw dl n2)
        have hml := mul64 g (gw dl n2) hg gd2
        generalize mL g (gw dl n2) = mid at *
        generalize mH g (gw dl n2) = high at *
        have HML := Lib.hid hML
        clear hML
        go_wp2_with fail
        refine (hml _).mono ?_
        rintro e w3 ⟨rfl, rfl⟩
        have hless : low * 18446744073709551616 + gw y n2 < g * gw dl n2 → Q < g := digit_less HG.out HTOP.out
        rw [← HML.out] at hless
        clear hml HML
        have hq0 := HQG.out
        by_cases hc1 : high < low
        · clear hless
          go_wp2_with fail
          go_meet
          exact ⟨g, rfl, hg, HQG.out, _, rfl⟩
        · by_cases hc2 : high = low
          · have hb2 : (((high : Nat) : Int) == ((low : Nat) : Int)) = true := by rw [hc2]; simp
            by_cases hc3 : mid ≤ gw y n2
            · clear hless hc2
              go_wp2_with fail
              go_meet
              exact ⟨g, rfl, hg, HQG.out, _, rfl⟩
            · have hless := hless (by omega)
              have HC2 := Lib.hid hc2
              clear hc2
              have hw1 : IntKind.u64.wrap (((g : Nat) : Int) - 1) = ((g - 1 : Nat) : Int) := wrapN (by omega) (by omega)
              have hdn := digit_down HG.out (by omega)
              have HDN := Lib.hid hdn
              have HLE := Lib.hid (show Q ≤ g - 1 by omega)
              generalize hg1 : g - 1 = g' at *
              have HG1 := Lib.hid hg1
              clear hless hdn hg1
              by_cases hov : low + gw dl n1 < 18446744073709551616
              · go_wp2_with fail
                go_roundw
                case rel => exact ⟨g', low + gw dl n1, rfl, by simp, by have := HG1.out; omega, hov, HDN, HLE, _, rfl⟩
                case measure => simp [intOf]; have := HG1.out; omega
              · have hw2 : IntKind.u64.wrap (((low : Nat) : Int) + ((gw dl n1 : Nat) : Int)) = ((low + gw dl n1 - 18446744073709551616 : Nat) : Int) := by rw [IntKind.wrap_u64]; omega
                have hw3 : low + gw dl n1 - 18446744073709551616 < gw dl n1 := by omega
                generalize low + gw dl n1 - 18446744073709551616 = low' at *
                go_wp2_with fail
                go_meet
                exact ⟨g', rfl, by have := HG1.out; omega, HLE.out, _, rfl⟩
          · have hb2 : (((high : Nat) : Int) == ((low : Nat) : Int)) = false := beq_eq_false_iff_ne.2 (by omega)
            have hless := hless (by omega)
            have hw1 : IntKind.u64.wrap (((g : Nat) : Int) - 1) = ((g - 1 : Nat) : Int) := wrapN (by omega) (by omega)
            have hdn := digit_down HG.out (by omega)
            have HDN := Lib.hid hdn
            have HLE := Lib.hid (show Q ≤ g - 1 by omega)
            generalize hg1 : g - 1 = g' at *
            have HG1 := Lib.hid hg1
            clear hless hdn hg1
            by_cases hov : low + gw dl n1 < 18446744073709551616
            · go_wp2_with fail
              go_roundw
              case rel => exact ⟨g', low + gw dl n1, rfl, by simp, by have := HG1.out; omega, hov, HDN, HLE, _, rfl⟩
              case measure => simp [intOf]; have := HG1.out; omega
            · have hw2 : IntKind.u64.wrap (((low : Nat) : Int) + ((gw dl n1 : Nat) : Int)) = ((low + gw dl n1 - 18446744073709551616 : Nat) : Int) := by rw [IntKind.wrap_u64]; omega
              have hw3 : low + gw dl n1 - 18446744073709551616 < gw dl n1 := by omega
              generalize low + gw dl n1 - 18446744073709551616 = low' at *
              go_wp2_with fail
              go_meet
              exact ⟨g', rfl, by have := HG1.out; omega, HLE.out, _, rfl⟩
    · go_wp2_with fail
      go_meet
      exact ⟨18446744073709551615, rfl, by omega, by have := HQR.out; omega, _, rfl⟩
  case rest =>
    clear hb1 hb2 hb3 hb4 hb5 e1 e2 yc0 yc1 yc2 hc1 hc2
    obtain ⟨g, rfl, hg, hQg, m, rfl⟩ := hcut
    go_wp2_with fail
    go_loopw [95, 11, 10] (fun u95 u11 u10 wr => TakeRel w b pre y post dl g u95 u11 u10 wr) (fun u95 _ _ _ => n - (intOf u95).toNat)
    case atStart => exact ⟨0, 0, 0, y, Nat.zero_le _, rfl, rfl, rfl, by decide, by decide, rfl, hoky, fun _ _ => rfl, by show vt y 0 + g * vt dl 0 = _; simp [vt], hm.drewN m, gb_drewN _ _ _⟩
    case round =>
      obtain ⟨i, carry, less, z, hi, rfl, rfl, rfl, hc, hl, hzl, hzo, HSame, HSum, hz, hgb⟩ := hrel
      rw [HN.out] at hi
      rw [HYL.out] at hzl
      have HZ := Lib.hid hzl
      clear hzl
      by_cases hlt : i < n
      · have dc := hgb.cell (HD.out i hlt) (by intro e; injection e with e; exact hbb e)
        have zc := hz.cell i (by have := HZ.out; omega)
        have zf := hz.free (pre.length + i)
        have gd := okW_gw hokd i
        have gz := okW_gw hzo i
        have hml := mul64 g (gw dl i) hg gd
        have hadd := add64_c0 (mL g (gw dl i)) carry
        have hcl := carry_lt hg gd hc
        have hsub := sub64 (gw z i) (aS (mL g (gw dl i)) carry 0) less hl
        go_wp2_with fail
        refine (hml _).mono ?_
        rintro e w3 ⟨rfl, rfl⟩
        go_wp2_with fail
        go_roundw
        case rel => exact take_close (by rw [HN.out]; exact hlt) (by rw [HZ.out, HYL.out]) (by have := HZ.out; omega) hzo hl gz HSame.out HSum.out (by simp) hcl (hz.set i (by have := HZ.out; omega) _) (gb_trans hgb (gb_set _ _ _ _ _))
        case measure => simp [intOf]; omega
      · obtain rfl : i = n := by omega
        have zc := hz.cell i (by have := HZ.out; omega)
        have zf := hz.free (pre.length + i)
        have gz := okW_gw hzo i
        have hsub := sub64 (gw z i) carry less hl
        have hLR : LessRel w b pre y post dl (.int .u64 ((g : Nat) : Int)) (.int .u64 ((sB (gw z i) carry less : Nat) : Int)) (wr.setCell ⟨b, pre.length + i, none⟩ (.int .u64 ((sD (gw z i) carry less : Nat) : Int))) :=
          take_end HN.out HYL.out HZ.out hzo gz hc hl hg HSame.out HSum.out (by rw [HQE.out]; exact hQg) (hz.set i (by have := HZ.out; omega) _) (gb_trans hgb (gb_set _ _ _ _ _))
        go_wp2_with fail
        clear hsub HSame HSum zc zf gz
        go_loopw [6, 10] (fun u6 u10 wr => LessRel w b pre y post dl u6 u10 wr) (fun u6 _ _ => (intOf u6).toNat)
        case atStart => exact hLR
        case round =>
          clear hLR hz hgb HZ
          obtain ⟨g, less, z, rfl, rfl, hg, hl, hzl, hzo, HV, HQG, hz, hgb⟩ := hrel
          have HZ := Lib.hid hzl
          clear hzl
          by_cases hl0 : less = 0
          · have hb0 : (((less : Nat) : Int) != 0) = false := by rw [hl0]; rfl
            have hend := HV.out
            rw [hl0, Nat.zero_mul, Nat.add_zero] at hend
            obtain ⟨h1, h2⟩ := digit_end hD0.out hend HQG.out
            have H1 := Lib.hid h1
            have H2 := Lib.hid h2
            clear hl0 hend h1 h2
            go_wp2_with fail
            go_ret
            exact ⟨by rw [H1.out]; rfl, z, HZ.out, hzo, H2.out, hz, hgb⟩
          · have hb0 : (((less : Nat) : Int) != 0) = true := by rw [bne_iff_ne]; omega
            have hg0 : 0 < g := Nat.lt_of_le_of_lt (Nat.zero_le _) (digit_over HV.out (less_room hl hl0 hzo HZ.out))
            have hover := digit_over HV.out (less_room hl hl0 hzo HZ.out)
            have HOV := Lib.hid hover
            have hw1 : IntKind.u64.wrap (((g : Nat) : Int) - 1) = ((g - 1 : Nat) : Int) := wrapN (by omega) (by omega)
            obtain ⟨g', hg'⟩ : ∃ g', g - 1 = g' := ⟨_, rfl⟩
            rw [hg'] at hw1
            have HG' := Lib.hid hg'
            obtain rfl : less = 1 := by omega
            clear hg' hover hl0
            obtain ⟨wo, rfl⟩ : ∃ wo : World, wo = wr := ⟨_, rfl⟩
            go_wp2_with fail
            go_loopw [148, 17] (fun u148 u17 wr => BackRel wo b pre z post dl u148 u17 wr) (fun u148 _ _ => i - (intOf u148).toNat)
            case atStart => exact ⟨0, 0, z, Nat.zero_le _, rfl, rfl, by decide, rfl, hzo, fun _ _ => rfl, by show vt z 0 + 0 * _ = vt z 0 + vt dl 0; simp [vt], hz, gb_refl _ _⟩
            case round =>
              obtain ⟨j, c, x, hj, rfl, rfl, hc, hxl, hxo, HSame, HSum, hx, hgx⟩ := hrel
              rw [HN.out] at hj
              have HX := Lib.hid hxl
              clear hxl
              by_cases hlt2 : j < i
              · have dc := (gb_trans hgb hgx).cell (HD.out j hlt2) (by intro e; injection e with e; exact hbb e)
                have xc := hx.cell j (by have := HX.out; have := HZ.out; have := HYL.out; omega)
                have xf := hx.free (pre.length + j)
                have gd := okW_gw hokd j
                have gx := okW_gw hxo j
                have hadd := add64 (gw x j) (gw dl j) c hc
                go_wp2_with fail
                go_roundw
                case rel => exact back_close (by rw [HN.out]; exact hlt2) (by rw [HX.out]) (by have := HX.out; have := HZ.out; have := HYL.out; omega) hxo (aC_le gx gd hc) (aS_lt _ _ _) (aS_aC _ _ _) HSame.out HSum.out (hx.set j (by have := HX.out; have := HZ.out; have := HYL.out; omega) _) (gb_trans hgx (gb_set _ _ _ _ _))
                case measure => simp [intOf]; omega
              · obtain rfl : j = i := by omega
                have xc := hx.cell j (by have := HX.out; have := HZ.out; have := HYL.out; omega)
                have xf := hx.free (pre.length + j)
                have gx := okW_gw hxo j
                have hadd := add64_y0 (gw x j) c hc
                have hcb := aC_le (y := 0) gx (by decide) hc
                go_wp2_with fail
                go_roundw
                case rel => exact back_end HN.out HYL.out HZ.out (by have := HX.out; have := HZ.out; have := HYL.out; omega) hxo hg hg0 HG'.out hcb HOV.out HSame.out HSum.out HV.out (hx.set j (by have := HX.out; have := HZ.out; have := HYL.out; omega) _) (gb_trans hgb (gb_trans hgx (gb_set _ _ _ _ _)))
                case measure => simp [intOf]; have := HG'.out; omega
end Go.Proofs.YtkfbailpifmdcaaGreatDoor
end

section
namespace Go.Proofs.YtkfbailpifmdcaaGreatDoor

theorem shift_len {B n s : Nat} (hB : B ≠ 0) (hn : (limbsOf B).length = n) (hs : s = 64 - bl (gw (limbsOf B) (n - 1))) : (limbsOf (B * 2 ^ s)).length = n ∧ B * 2 ^ s < pw n ∧ s < 64 := by
  have hl := limbsOf_last hB
  rw [hn] at hl
  have hn0 : n ≠ 0 := by rw [← hn]; rw [Ne, limbsOf_len_zero]; exact hB
  obtain ⟨m, rfl⟩ : ∃ m, n = m + 1 := ⟨n - 1, by omega⟩
  rw [Nat.add_sub_cancel] at *
  have hg := okW_gw (okW_limbsOf B) m
  have hlt := norm_lt hg
  rw [← hs] at hlt
  have hv : B = vt (limbsOf B) m + gw (limbsOf B) m * pw m := by
    conv => lhs; rw [← valN_limbsOf B]
    rw [← vt_all _ (m + 1) (by omega), vt_succ]
  have hvl := vt_lt (okW_limbsOf B) m
  have hbl := bl_pos hl
  have hb64 : bl (gw (limbsOf B) m) ≤ 64 := bl_le hg
  have hs64 : s < 64 := by omega
  have htop : (gw (limbsOf B) m + 1) * 2 ^ s ≤ 18446744073709551616 := by
    have h1 := bl_lt (gw (limbsOf B) m)
    have e : (18446744073709551616 : Nat) = 2 ^ bl (gw (limbsOf B) m) * 2 ^ s := by rw [← Nat.pow_add, show bl (gw (limbsOf B) m) + s = 64 by omega]
    rw [e]
    exact Nat.mul_le_mul_right _ h1
  have hup : B * 2 ^ s < pw (m + 1) := by
    have h1 : B < (gw (limbsOf B) m + 1) * pw m := by rw [Nat.add_mul, Nat.one_mul]; omega
    rw [pw_succ]
    calc B * 2 ^ s < (gw (limbsOf B) m + 1) * pw m * 2 ^ s := Nat.mul_lt_mul_of_pos_right h1 (Nat.two_pow_pos s)
      _ = (gw (limbsOf B) m + 1) * 2 ^ s * pw m := by rw [Nat.mul_right_comm]
      _ ≤ _ := Nat.mul_le_mul_right _ htop
  refine ⟨?_, hup, hs64⟩
  have h1 := limbsOf_len hup
  have h2 := limbsOf_ge hB
  rw [hn, Nat.add_sub_cancel] at h2
  have h3 := limbsOf_lt (B * 2 ^ s)
  rcases Nat.lt_or_ge (limbsOf (B * 2 ^ s)).length (m + 1) with h | h
  · have h4 := pw_le (show (limbsOf (B * 2 ^ s)).length ≤ m by omega)
    have h5 : B ≤ B * 2 ^ s := Nat.le_mul_of_pos_right _ (Nat.two_pow_pos s)
    omega
  · omega
theorem long_room {A B n lx s m : Nat} (hA : A < pw lx) (hB : pw (n - 1) ≤ B) (hn : 0 < n) (hm : m = lx - n + 1) (hl : n ≤ lx) : A * 2 ^ s < B * 2 ^ s * pw m := by
  have e : pw lx = pw (n - 1) * pw m := by rw [← pw_add]; congr 1; omega
  calc A * 2 ^ s < pw lx * 2 ^ s := Nat.mul_lt_mul_of_pos_right hA (Nat.two_pow_pos s)
    _ = pw (n - 1) * pw m * 2 ^ s := by rw [e]
    _ ≤ B * pw m * 2 ^ s := Nat.mul_le_mul_right _ (Nat.mul_le_mul_right _ hB)
    _ = _ := by rw [Nat.mul_right_comm]
/-- One digit of it. -/
theorem long_parts {z : List Nat} {j n : Nat} (hj : j + n + 1 ≤ z.length) : z = z.take j ++ (z.drop j).take (n + 1) ++ z.drop (j + n + 1) ∧ (z.take j).length = j ∧ ((z.drop j).take (n + 1)).length = n + 1 := by
  refine ⟨?_, by rw [List.length_take]; omega, by rw [List.length_take, List.length_drop]; omega⟩
  conv => lhs; rw [← List.take_append_drop j z, ← List.take_append_drop (n + 1) (z.drop j), List.drop_drop]
  rw [List.append_assoc]; rfl
theorem long_digit {pre y post : List Nat} {D j n : Nat} (hp : pre.length = j) (hy : y.length = n + 1) (hD : D < pw n) (hv : valN (pre ++ y ++ post) < D * pw (j + 1)) : valN post = 0 ∧ valN y < D * 18446744073709551616 := by
  rw [valN_append, valN_append, List.length_append, hp, hy] at hv
  have h1 : D * pw (j + 1) < pw (j + (n + 1)) := by
    rw [show j + (n + 1) = n + (j + 1) by omega, pw_add n]
    exact Nat.mul_lt_mul_of_pos_right hD (pw_pos _)
  have h0 : valN post = 0 := by
    apply Nat.eq_zero_of_not_pos
    intro hpos
    have h2 : pw (j + (n + 1)) * 1 ≤ pw (j + (n + 1)) * valN post := Nat.mul_le_mul_left _ hpos
    omega
  refine ⟨h0, ?_⟩
  rw [h0, Nat.mul_zero, Nat.add_zero, pw_succ] at hv
  have h3 : pw j * valN y < pw j * (D * 18446744073709551616) := by
    have e : D * (18446744073709551616 * pw j) = pw j * (D * 18446744073709551616) := by rw [Nat.mul_comm 18446744073709551616, ← Nat.mul_assoc, Nat.mul_comm D, Nat.mul_assoc]
    rw [e] at hv; omega
  exact Nat.lt_of_mul_lt_mul_left h3
theorem long_step {pre y y' post q : List Nat} {D A j : Nat} (hD : 0 < D) (hp : pre.length = j) (_ : y'.length = y.length) (hok : okW pre) (h0 : valN post = 0) (hy : valN y' = valN y % D) (hq : j < q.length)
    (hv : valN (pre ++ y ++ post) + D * (vd q (j + 1) * pw (j + 1)) = A) :
    valN (pre ++ y' ++ post) + D * (vd (q.set j (valN y / D)) j * pw j) = A ∧ valN (pre ++ y' ++ post) < D * pw j := by
  rw [valN_append, valN_append, List.length_append, hp, h0, Nat.mul_zero, Nat.add_zero] at hv
  have hpl := valN_lt hok
  rw [hp] at hpl
  have hdm := Nat.div_add_mod (valN y) D
  have hm := Nat.mod_lt (valN y) hD
  rw [valN_append, valN_append, List.length_append, hp, h0, Nat.mul_zero, Nat.add_zero, hy]
  constructor
  · rw [vd_step _ _ (by rw [List.length_set]; exact hq), vd_set, gw_set_same _ _ _ hq, ← hv, pw_succ]
    generalize valN y / D = Q at *
    generalize valN y % D = R at *
    rw [← hdm]
    generalize vd q (j + 1) = V at *
    generalize pw j = P at *
    grind
  · generalize valN y % D = R at *
    have h1 : pw j * (R + 1) ≤ pw j * D := Nat.mul_le_mul_left _ hm
    rw [Nat.mul_add, Nat.mul_one] at h1
    rw [Nat.mul_comm D]; omega
theorem long_end {A B s z q : Nat} (_ : 0 < B) (hv : z + B * 2 ^ s * q = A * 2 ^ s) (hz : z < B * 2 ^ s) : q = A / B ∧ z / 2 ^ s = A % B := by
  have h1 : A * 2 ^ s / (B * 2 ^ s) = q := by
    rw [← hv, Nat.add_comm, Nat.mul_add_div (by omega), Nat.div_eq_of_lt hz, Nat.add_zero]
  have h2 : A * 2 ^ s % (B * 2 ^ s) = z := by
    rw [← hv, Nat.add_comm, Nat.mul_add_mod, Nat.mod_eq_of_lt hz]
  rw [Nat.mul_div_mul_right _ _ (Nat.two_pow_pos s)] at h1
  rw [Nat.mul_mod_mul_right] at h2
  exact ⟨h1.symm, by rw [← h2, Nat.mul_div_cancel _ (Nat.two_pow_pos s)]⟩
end Go.Proofs.YtkfbailpifmdcaaGreatDoor
end

section
namespace Go.Proofs.YtkfbailpifmdcaaGreatDoor
open Go.RowKit

theorem addr_add (b off j : Nat) : (⟨b, off, none⟩ : Addr).add j = ⟨b, off + j, none⟩ := by
  unfold Addr.add
  by_cases h : j = 0
  · subst h; rfl
  · simp [h]

def wVals (z : List Nat) : List Value := z.map (fun n : Nat => Value.int .u64 (n : Int))
theorem wVals_arr (z : List Nat) : (wVals z).toArray = wArr z := rfl
theorem wVals_len (z : List Nat) : (wVals z).length = z.length := by simp [wVals]
theorem wVals_get {z : List Nat} {j : Nat} {u : Value} (h : (wVals z)[j]? = some u) : j < z.length ∧ u = .int .u64 ((gw z j : Nat) : Int) := by
  unfold wVals at h
  rw [List.getElem?_map] at h
  cases hz : z[j]? with
  | none => rw [hz] at h; cases h
  | some x =>
    rw [hz] at h
    have hj : j < z.length := by
      rcases Nat.lt_or_ge j z.length with h1 | h1
      · exact h1
      · rw [List.getElem?_eq_none h1] at hz; cases hz
    refine ⟨hj, ?_⟩
    rw [gw_def, hz]
    simpa using h.symm
theorem wVals_one {z : List Nat} : ∀ u ∈ wVals z, u.oneCell' = true := by
  intro u hu
  unfold wVals at hu
  obtain ⟨n, _, rfl⟩ := List.mem_map.1 hu
  rfl
/-- A row of one's own, read as words. -/
theorem Words.ofRow {w : World} {lo base : Nat} {e : TypeId} {v : Value} {l : List Nat} (h : w.ownsRow base e 1 v l.length (wVals l)) (hlo : lo ≤ base) (hok : okW l) : Words lo w v l := by
  obtain ⟨_, h⟩ := h
  rcases h with ⟨rfl, hn⟩ | ⟨g, cap, cur, rfl, hb, hg, hc, hm, hs, ht⟩
  · obtain rfl : l = [] := List.eq_nil_of_length_eq_zero hn
    exact Words.nil _ _ _ _ (by omega)
  · refine ⟨_, cap, rfl, hc, by unfold maxLen at hm; omega, ⟨hok, fun e => by cases e⟩, fun i hi => ⟨g, 0, rfl, Nat.le_trans hlo hb, ?_⟩⟩
    have h1 : (wVals l)[i]? = some (.int .u64 ((gw l i : Nat) : Int)) := by
      unfold wVals; rw [List.getElem?_map, List.getElem?_eq_getElem hi, gw_of_lt hi]; rfl
    rw [← ht, Nat.mul_one, List.getElem?_take, if_pos hi, Array.getElem?_toList] at h1
    simp [World.cell?, hg, h1]

theorem append_types {P : Program} {t t' ty e e' : TypeId} (ht : P.underlying t = some (.slice e)) (ht' : P.underlying t' = some (.slice e')) (s x : Value) (w : World) :
    (Builtin.append_ #[t, t'] ty #[s, x]).run P w = (Builtin.append_ #[t, t] ty #[s, x]).run P w := by
  cases s <;> simp [Builtin.append_, Sem.run_bind, run_underlying ht, run_underlying ht']

theorem wpList_clone2 {w : World} {ops : Array Oper} {rest : List Oper} {o : Oper} {a : Act} {Q : Exit → Act → World → Prop} (hgd : o.guard = none) (s x : Operand) (t t' : TypeId)
    (ho : o.op = .call { callee := .builtin .append, args := #[s, x], argTypes := #[t, t'] }) (ht : Tryz.prog.underlying t = some (.slice 22)) (ht' : Tryz.prog.underlying t' = some (.slice 22))
    (hs : a.eval s = .slice none 0 0) (lo : Nat) (l : List Nat) (hx : Words lo w (a.eval x) l) (hl : l.length ≤ 1099511627776)
    (h : ∀ v' w', Words w.heap.size w' v' l → Below w.heap.size w w' → wpList Tryz.prog ops Q rest (a.put o.dst v') w') : wpList Tryz.prog ops Q (o :: rest) a w := by
  obtain ⟨i0, hi, hz0, hz1, hz2⟩ := info_parts Tryz.infoW
  obtain ⟨p, cap, hxe, hcap, hcm, ⟨hok, hnil⟩, hc⟩ := hx
  refine wpList_plain hgd fun K hK => ?_
  cases p with
  | none =>
    obtain rfl := hnil rfl
    obtain rfl : l = [] := List.eq_nil_of_length_eq_zero (by omega)
    have hr := run_append_owned_none (P := Tryz.prog) (w := w) w.heap.size t o.type 22 i0 1 ht hi _ 0 [] (World.ownsRow_nil _ _ _ _)
    rw [← append_types ht ht'] at hr
    unfold Oper.wp execOp
    simp only [ho, resolve, invoke, builtin, Sem.run_bind, Sem.run_pure, Result.andThen_ok, List.map_toArray, List.map_cons, List.map_nil, hs, hxe, List.length_nil, hr]
    exact hK _ _ (h _ _ (Words.nil _ _ _ _ (by omega)) (Below.refl _ _))
  | some ad =>
    have hcell : ∀ j u, (wVals l)[j]? = some u → w.cell? (ad.add j) = some u := by
      intro j u hu
      obtain ⟨hj, rfl⟩ := wVals_get hu
      obtain ⟨b, off, e, _, hcc⟩ := hc j hj
      have e := Option.some.inj e
      subst e
      rw [addr_add]; exact hcc
    have hml : 0 + l.length ≤ maxLen := by simp only [maxLen]; omega
    obtain ⟨v', w', hr, h2, h3, _⟩ := run_append_own (P := Tryz.prog) w w.heap.size t o.type 22 i0 (.int .u64 0) 1 8 ht hi hz0 hz1 hz2 rfl (by decide) _ 0 [] (World.ownsRow_nil _ _ _ _) ad l.length cap (wVals l) (by rw [wVals_len, Nat.mul_one]) hcell wVals_one
      hml (by omega) (Nat.le_refl _)
    rw [← append_types ht ht'] at hr
    unfold Oper.wp execOp
    simp only [ho, resolve, invoke, builtin, Sem.run_bind, Sem.run_pure, Result.andThen_ok, List.map_toArray, List.map_cons, List.map_nil, hs, hxe, hr]
    rw [List.nil_append, Nat.zero_add] at h2
    exact hK _ _ (h v' w' (Words.ofRow h2 (Nat.le_refl _) hok) ⟨h3.os, h3.tape, h3.output, h3.size, fun k hk => h3.block k hk (by simp [Value.ownBlock])⟩)

theorem wpList_clone {w : World} {ops : Array Oper} {rest : List Oper} {o : Oper} {a : Act} {Q : Exit → Act → World → Prop} (hgd : o.guard = none) (s x : Operand) (t : TypeId)
    (ho : o.op = .call { callee := .builtin .append, args := #[s, x], argTypes := #[t, t] }) (ht : Tryz.prog.underlying t = some (.slice 22))
    (hs : a.eval s = .slice none 0 0) (lo : Nat) (l : List Nat) (hx : Words lo w (a.eval x) l) (hl : l.length ≤ 1099511627776)
    (h : ∀ v' w', Words w.heap.size w' v' l → Below w.heap.size w w' → wpList Tryz.prog ops Q rest (a.put o.dst v') w') : wpList Tryz.prog ops Q (o :: rest) a w :=
  wpList_clone2 hgd s x t t ho ht ht hs lo l hx hl h

/-- A copy into the head of a block of one's own. -/
theorem wpList_copy_words {w w0 : World} {ops : Array Oper} {rest : List Oper} {o : Oper} {a : Act} {Q : Exit → Act → World → Prop} (hgd : o.guard = none) (d s : Operand) (dT sT : TypeId)
    (ho : o.op = .call { callee := .builtin .copy, args := #[d, s], argTypes := #[dT, sT] }) (hu : Tryz.prog.underlying dT = some (.slice 22))
    (g dCap : Nat) (z l : List Nat) (hd : a.eval d = .slice (some ⟨g, 0, none⟩) z.length dCap) (lo : Nat) (hs : Words lo w (a.eval s) l) (hg : Blk w g (wArr z) 22) (hl : l.length ≤ z.length)
    (hb : Below w0.heap.size w0 w) (hBg : w0.heap.size ≤ g)
    (h : ∀ w', Hid (Blk w' g (wArr (l ++ z.drop l.length)) 22) → Below w0.heap.size w0 w' → wpList Tryz.prog ops Q rest (a.put o.dst (goInt l.length)) w') : wpList Tryz.prog ops Q (o :: rest) a w := by
  obtain ⟨p, cap, hxe, hcap, hcm, ⟨hok, hnil⟩, hc⟩ := hs
  refine wpList_copy_splice hgd d s dT sT ho 22 hu (by have := Tryz.infoW; obtain ⟨i0, hi, hz0, hz1, hz2⟩ := info_parts this; rw [hi]; simp [hz1]) (some ⟨g, 0, none⟩) p z.length dCap l.length cap hd hxe g 0 (wVals z) 22 hg (wVals l)
    (by rw [wVals_len]; exact (Nat.min_eq_left hl).symm) ?_ (by rw [wVals_len, wVals_len]; omega) wVals_one w0.heap.size w0 hb hBg ?_
  · intro hpos
    rw [wVals_len] at hpos
    obtain ⟨b, off, e, _, _⟩ := hc 0 hpos
    refine ⟨rfl, _, e, ?_⟩
    intro j u hu
    obtain ⟨hj, rfl⟩ := wVals_get hu
    obtain ⟨b', off', e', _, hcc⟩ := hc j hj
    rw [e] at e'
    have e2 := Option.some.inj e'
    have e3 : off' = off := by have := congrArg Addr.off e2; exact this.symm
    have e4 : b' = b := by have := congrArg Addr.block e2; exact this.symm
    subst e3; subst e4
    rw [addr_add]; exact hcc
  · intro w' h1 h2
    rw [wVals_len]
    refine h w' ?_ h2
    have := h1.out
    have e : splice (wVals z) 0 (wVals l) = wVals (l ++ z.drop l.length) := by simp [splice, wVals]
    rw [e] at this
    exact this
end Go.Proofs.YtkfbailpifmdcaaGreatDoor
end
