/- The iterator over windows, walked: it yields the windows of the minutes. -/
import Derived.Test.YtaomlmkcifpfkaaPTools
import Derived.Test.YtaomlmkcifpfkaaPWinMath
import Derived.Test.YtaomlmkcifpfkaaPDayAll
import Derived.Deep.DeepCutAuto
namespace Go.Proofs.Ytaomlmkcifpfkaa
open Go.RowKit Go.Shelf

set_option maxRecDepth 100000 in
set_option maxHeartbeats 1600000 in
theorem windowsDay_c (m : Int) (B : Nat) (vr vw vc : Value) (r : PRule) (w : World) (hs : RSls w vr vw vc r) (hv : ruleB r = true) (hd : 0 ≤ m) (hd2 : m ≤ 9223372036854775807) (hc : w.cell? ⟨B, 0, none⟩ = some (.int .i64 m)) :
    Calls Try.prog 89 #[.agg #[.string r.name, vr, vw, .int .i64 r.h0, .int .i64 r.h1, .int .i64 r.days, .int .i64 r.s0, .int .i64 r.s1, .bool r.forbid, vc, .int .i64 r.cost], .pointer (some ⟨B, 0, none⟩)] w fun e w' => e = .returned (.bool (!dayB r (m / 1440))) ∧ Ext w w' := by
  have C2 := fun w' (hE : Ext w w') => day_c vr vw vc r (m / 1440) w' (hs.ext hE) hv (Int.ediv_nonneg hd (by omega))
  have hB := lt_of_cell hc
  have t1 : m.tdiv 1440 = m / 1440 := Int.tdiv_eq_ediv_of_nonneg hd
  have d2 : m / 1440 ≤ 9223372036854775807 := by omega
  have d1 := Int.ediv_nonneg hd (show (0 : Int) ≤ 1440 by omega)
  obtain ⟨hr, hw, hcc⟩ := hs
  obtain ⟨Ar, cr, rfl, lr, lr2⟩ := hr.shape
  obtain ⟨Aw, cw, rfl, lw, lw2⟩ := hw.shape
  obtain ⟨Ac, cc, rfl, lc, lc2⟩ := hcc.shape
  generalize dayB r (m / 1440) = q at *
  generalize m / 1440 = u at *
  clear hr hw hcc hv
  replace C2 := Lib.hid C2
  go_enter Try.func89, Try.ntmps89
  go_wp2_with (go_at_call 90; refine (C2.out _ (by (repeat' (first | exact Ext.refl _ | assumption | refine Ext.alloc ?_ _ | refine Ext.drew ?_ | refine Ext.drewN ?_ _ | refine Ext.set ?_ (by first | exact Nat.le_refl _ | exact le1 _ | exact le2 _ | exact le3 _ | exact le4 _ | exact le5 _ | exact le6 _) _ | refine Ext.trans ?_ (by assumption))))).mono ?_; rintro e w1 ⟨rfl, hb1⟩)
  go_ret
  exact ⟨rfl, by (repeat' (first | exact Ext.refl _ | assumption | refine Ext.alloc ?_ _ | refine Ext.drew ?_ | refine Ext.drewN ?_ _ | refine Ext.set ?_ (by first | exact Nat.le_refl _ | exact le1 _ | exact le2 _ | exact le3 _ | exact le4 _ | exact le5 _ | exact le6 _) _ | refine Ext.trans ?_ (by assumption)))⟩

def dayNo (l : List PRule) (d : Int) : Bool := l.any fun r => !dayB r d
set_option maxHeartbeats 800000 in
theorem dayNo_c (m : Int) (B : Nat) (v : Value) (l : List PRule) (w : World) (hs : Sl 11 RRule w v l) (hv : ∀ r ∈ l, ruleB r = true) (hd : 0 ≤ m) (hd2 : m ≤ 9223372036854775807) (hc : w.cell? ⟨B, 0, none⟩ = some (.int .i64 m)) :
    Calls Try.prog 82 #[v, .func (.func 89) #[] #[.pointer (some ⟨B, 0, none⟩)]] w fun e w' => e = .returned (.bool (dayNo l (m / 1440))) ∧ Ext w w' := by
  refine ContainsFuncRule_c RRule.stable 89 _ (enters_of Try.func89 (by kernel_rfl) rfl) _ v l w hs ?_
  rintro W cs x he ⟨vr, vw, vc, rfl, hx⟩ hm
  exact windowsDay_c m B vr vw vc x W hx (hv x hm) hd hd2 (he.cell hc)
/-- on a day that a rule does not allow no minute is allowed -/
theorem dayNo_skip {l : List PRule} {m x : Int} (h : dayNo l (m / 1440) = true) (hx : x / 1440 = m / 1440) : allowedB l x = false := by
  unfold dayNo at h
  rw [List.any_eq_true] at h
  obtain ⟨r, hr, hd⟩ := h
  unfold allowedB
  rw [List.all_eq_false]
  refine ⟨r, hr, ?_⟩
  unfold allowsB
  rw [hx]
  simp at hd
  simp [hd]

def winV (x : Int × Int) : Value := .agg #[.int .i64 x.1, .int .i64 x.2]
def keptT (t : TypeId) : Prop := t = 2 ∨ t = 103
def atM (p : Value) (wr : World) : Int := match p with | .pointer (some a) => (match wr.cell? a with | some (.int _ z) => z | _ => 0) | _ => 0
/-- between two rounds of the iterator's own loop -/
structure WSt (J : List (Int × Int) → World → Prop) (w0 W : World) (Bt Bs B o : Nat) (to' : Int) (pre : List (Int × Int)) (wr : World) : Prop where
  j : J pre wr
  sz : W.heap.size ≤ wr.heap.size
  ct : Boxed wr Bt 2 (.int .i64 to')
  cs : Boxed wr Bs 103 (.pointer (some ⟨B, o, none⟩))
theorem WSt.ext {J : List (Int × Int) → World → Prop} {w0 W : World} {Bt Bs B o : Nat} {to' : Int} {pre : List (Int × Int)} {wr wr' : World} (hJ : AbT 2 W.heap.size J) (h : WSt J w0 W Bt Bs B o to' pre wr) (he : Ext wr wr') : WSt J w0 W Bt Bs B o to' pre wr' :=
  ⟨hJ.1 _ _ _ h.j he, Nat.le_trans h.sz he.size, (he.block _ (Array.getElem?_eq_some_iff.1 h.ct).1).trans h.ct, (he.block _ (Array.getElem?_eq_some_iff.1 h.cs).1).trans h.cs⟩
theorem WSt.set {J : List (Int × Int) → World → Prop} {w0 W : World} {Bt Bs B o : Nat} {to' : Int} {pre : List (Int × Int)} {wr : World} (hJ : AbT 2 W.heap.size J) (h : WSt J w0 W Bt Bs B o to' pre wr) {Ba : Nat} {x : Value} (hb : Boxed wr Ba 2 x) (hge : W.heap.size ≤ Ba) (ht : Bt < W.heap.size) (hs : Bs < W.heap.size) (u : Value) : WSt J w0 W Bt Bs B o to' pre (wr.setCell ⟨Ba, 0, none⟩ u) :=
  ⟨hJ.2 _ _ ⟨Ba, 0, none⟩ _ _ _ h.j hb hge, by rw [size_setCell]; exact h.sz, (Below.heap_setCell _ _ _ _ (by simp only; omega)).trans h.ct, (Below.heap_setCell _ _ _ _ (by simp only; omega)).trans h.cs⟩

theorem wf_yes {al : Int → Bool} {fr m T sv : Int} {n k : Nat} {pre X : List (Int × Int)} (hm : fr + k = m) (hT : fr + n = T) (hlt : m < T) (ha : al m = true) (h : pre ++ winsF al (T - m).toNat m sv = X) :
    pre ++ winsF al (n - (k + 1)) (fr + ((k + 1 : Nat) : Int)) (if sv < 0 then m else sv) = X := by
  rw [show (T - m).toNat = (n - (k + 1)) + 1 by omega] at h
  simp only [winsF, ha, if_true] at h
  rw [show fr + ((k + 1 : Nat) : Int) = m + 1 by omega]
  exact h
theorem wf_no {al : Int → Bool} {fr m T sv : Int} {n k : Nat} {pre X : List (Int × Int)} (hm : fr + k = m) (hT : fr + n = T) (hlt : m < T) (ha : al m = false) (h : pre ++ winsF al (T - m).toNat m sv = X) :
    (pre ++ if 0 ≤ sv then [(sv, m)] else []) ++ winsF al (n - (k + 1)) (fr + ((k + 1 : Nat) : Int)) (-1) = X := by
  rw [show (T - m).toNat = (n - (k + 1)) + 1 by omega] at h
  simp only [winsF, ha, Bool.false_eq_true, if_false] at h
  rw [show fr + ((k + 1 : Nat) : Int) = m + 1 by omega, List.append_assoc]
  exact h
theorem wf_skip {al : Int → Bool} {fr m m' T : Int} {n k k' : Nat} {pre X : List (Int × Int)} (hm : fr + k = m) (hT : fr + n = T) (hm' : fr + k' = m') (h1 : m < m') (h2 : m' ≤ T) (hs : ∀ x, m ≤ x → x < m' → al x = false)
    (h : pre ++ winsF al (n - (k + 1)) (fr + ((k + 1 : Nat) : Int)) (-1) = X) : pre ++ winsF al (n - k') (fr + (k' : Int)) (-1) = X := by
  have := winsF_skip al (n - k') (k' - (k + 1)) (m + 1) (fun x h3 h4 => hs x (by omega) (by omega))
  rw [show (n - k') + (k' - (k + 1)) = n - (k + 1) by omega, show m + 1 + ((k' - (k + 1) : Nat) : Int) = fr + k' by omega] at this
  rw [show fr + ((k + 1 : Nat) : Int) = m + 1 by omega, this] at h
  exact h
theorem wf_end {al : Int → Bool} {m T sv : Int} {pre X : List (Int × Int)} (he : m = T) (h : pre ++ winsF al (T - m).toNat m sv = X) : (pre ++ if 0 ≤ sv then [(sv, m)] else []) = X := by
  subst he
  rw [show (m - m).toNat = 0 by omega] at h
  exact h

set_option maxRecDepth 100000 in
set_option maxHeartbeats 8000000 in
theorem windows_seq (B o Bf Bt Bs : Nat) (v : Value) (rs : List PRule) (fr : Int) (n : Nat) (w0 w : World) (hw : Ext w0 w)
    (hs : Sl 11 RRule w0 v rs) (hv : ∀ r ∈ rs, ruleB r = true) (hv0 : w0.cell? ⟨B, o, none⟩ = some v)
    (h0 : 0 ≤ fr) (h1 : fr + n ≤ 4611686018427387904)
    (cf : Boxed w Bf 2 (.int .i64 fr)) (ct : Boxed w Bt 2 (.int .i64 (fr + n))) (cs : Boxed w Bs 103 (.pointer (some ⟨B, o, none⟩)))
    (gt : w0.heap.size ≤ Bt) (gs : w0.heap.size ≤ Bs) :
    SeqT Fence.wide 4 Try.prog 88 #[.pointer (some ⟨Bf, 0, none⟩), .pointer (some ⟨Bt, 0, none⟩), .pointer (some ⟨Bs, 0, none⟩)] winV keptT 2 (winsF (allowedB rs) n fr (-1)) w0 w := by
  intro l J Jx W hE hJb hJ hY hJ0
  refine callsIn_wide.2 ?_
  have hS0 : WSt J w0 W Bt Bs B o (fr + n) [] W := ⟨hJ0, Nat.le_refl _, (hE.block _ (Array.getElem?_eq_some_iff.1 ct).1).trans ct, (hE.block _ (Array.getElem?_eq_some_iff.1 cs).1).trans cs⟩
  have cf' : Boxed W Bf 2 (.int .i64 fr) := (hE.block _ (Array.getElem?_eq_some_iff.1 cf).1).trans cf
  have hsz := hE.size
  have lf : Bf < W.heap.size := (Array.getElem?_eq_some_iff.1 cf').1
  have lt' : Bt < W.heap.size := (Array.getElem?_eq_some_iff.1 hS0.ct).1
  have ls : Bs < W.heap.size := (Array.getElem?_eq_some_iff.1 hS0.cs).1
  have f0 := cf'.cell
  have hBlt := lt_of_cell hv0
  have hw0sz := hw.size
  obtain ⟨X, hX⟩ : ∃ X, winsF (allowedB rs) n fr (-1) = X := ⟨_, rfl⟩
  rw [hX] at hY ⊢
  have HX := Lib.hid hX
  have HY := Lib.hid hY
  have HJ := Lib.hid hJ
  have HJb := Lib.hid hJb
  have HS := Lib.hid hs
  have HV := Lib.hid hv
  have HV0 := Lib.hid hv0
  have HS0 := Lib.hid hS0
  clear hX hY hJ hJb hs hv hv0 hS0 hJ0 cf ct cs cf' hE hw
  go_enter Try.func88, Try.ntmps88
  go_wp2
  have hS1 := HS0.out.ext HJ.out ((Ext.refl W).alloc (.cells #[.int .i64 fr] 2))
  have hB1 : Boxed (W.alloc (.cells #[.int .i64 fr] 2)) W.heap.size 2 (.int .i64 fr) := Boxed.new W _ _
  generalize W.alloc (.cells #[.int .i64 fr] 2) = W1 at *
  go_loopw [5, 6] (fun s p wr => ∃ (k : Nat) (sv : Int) (pre : List (Int × Int)) (Ba : Nat), k ≤ n + 1 ∧ s = .int .i64 sv ∧ p = .pointer (some ⟨Ba, 0, none⟩) ∧ W.heap.size ≤ Ba ∧ Boxed wr Ba 2 (.int .i64 (fr + k)) ∧ WSt J w0 W Bt Bs B o (fr + n) pre wr ∧ (sv = -1 ∨ (0 ≤ sv ∧ sv ≤ fr + k)) ∧ (k ≤ n → pre ++ winsF (allowedB rs) (n - k) (fr + k) sv = X) ∧ (k = n + 1 → pre = X)) (fun _ p wr => (fr + n + 1 - atM p wr).toNat)
  case atStart => exact ⟨0, -1, [], W.heap.size, by omega, rfl, rfl, Nat.le_refl _, by simpa using hB1, hS1, .inl rfl, fun _ => by simpa using HX.out, fun h => by omega⟩
  case round =>
    clear hS1 hB1
    obtain ⟨k, sv, pre, Ba, hk, rfl, rfl, hBa, hat, hS, hsv, hp1, hp2⟩ := hrel
    have c0 := hat.cell
    have g0 := hat.frozen
    have ct := hS.ct.cell
    have cs := hS.cs.cell
    have HAT := Lib.hid hat
    have HS' := Lib.hid hS
    have HP1 := Lib.hid hp1
    have HP2 := Lib.hid hp2
    have E0 : Ext w0 wr := HJb.out _ _ hS.j
    have hv0 := E0.cell HV0.out
    clear hat hS hp1 hp2
    have hlB := lt_of_cell c0
    by_cases hend : k = n + 1
    · obtain rfl := HP2.out hend
      have e1 : (fr + (n : Int)) < fr + (k : Int) := by omega
      go_wp2_with fail
      go_end0
      exact ⟨⟨_, rfl⟩, .inl HS'.out.j⟩
    · have hkn : k ≤ n := by omega
      have C1 := fun w' (h : Ext wr w') => allowedAt_c B o v rs (fr + k) w' (HS.out.ext RRule.stable (E0.trans h)) HV.out (by omega) (by omega) ((E0.trans h).cell HV0.out)
      have HM : n - k = ((fr + (n : Int)) - (fr + (k : Int))).toNat := by omega
      obtain ⟨m, hm⟩ : ∃ m : Int, fr + k = m := ⟨_, rfl⟩
      obtain ⟨T, hT⟩ : ∃ T : Int, fr + n = T := ⟨_, rfl⟩
      rw [hm] at C1 HM c0 HAT HP1 hsv
      rw [hT] at HM ct h1
      rw [HM] at HP1
      have hmT : m ≤ T := by omega
      have hm0 : 0 ≤ m := by omega
      by_cases hal : m < T ∧ allowedB rs m = true
      · obtain ⟨hlt, hal⟩ := hal
        rw [hal] at C1
        have HAL := Lib.hid hal
        replace C1 := Lib.hid C1
        clear hal
        rcases hsv with hsv | hsv
        · subst hsv
          go_wp2_with (go_at_call 69; refine (C1.out _ (by (repeat' (first | exact Ext.refl _ | assumption | refine Ext.alloc ?_ _ | refine Ext.drew ?_ | refine Ext.drewN ?_ _ | refine Ext.set ?_ (by first | exact Nat.le_refl _ | exact le1 _ | exact le2 _ | exact le3 _ | exact le4 _ | exact le5 _ | exact le6 _) _ | refine Ext.trans ?_ (by assumption))))).mono ?_; rintro e w2 ⟨rfl, hb2⟩; have c0' := hb2.cell c0; have ct' := hb2.cell ct; have cs' := hb2.cell cs)
          have hz2 := hb2.size
          have ca' : (w2.alloc (.cells #[.int .i64 (m + 1)] 2)).cell? ⟨w2.heap.size, 0, none⟩ = some (.int .i64 (m + 1)) := World.cell?_alloc_new _ _ _ _
          go_roundw
          case rel => exact ⟨k + 1, _, pre, _, by omega, rfl, rfl, by omega, by rw [show fr + ((k + 1 : Nat) : Int) = m + 1 by omega]; exact Boxed.new _ _ _, HS'.out.ext HJ.out (by (repeat' (first | exact Ext.refl _ | assumption | refine Ext.alloc ?_ _ | refine Ext.drew ?_ | refine Ext.drewN ?_ _ | refine Ext.set ?_ (by first | exact Nat.le_refl _ | exact le1 _ | exact le2 _ | exact le3 _ | exact le4 _ | exact le5 _ | exact le6 _) _ | refine Ext.trans ?_ (by assumption)))), .inr (by omega), fun _ => by have := wf_yes hm hT hlt HAL.out (HP1.out hkn); rw [if_pos (by omega)] at this; exact this, fun h => by omega⟩
          case measure => simp [atM, ca', c0]; omega
        · have hsv0 : 0 ≤ sv := hsv.1
          go_wp2_with (go_at_call 69; refine (C1.out _ (by (repeat' (first | exact Ext.refl _ | assumption | refine Ext.alloc ?_ _ | refine Ext.drew ?_ | refine Ext.drewN ?_ _ | refine Ext.set ?_ (by first | exact Nat.le_refl _ | exact le1 _ | exact le2 _ | exact le3 _ | exact le4 _ | exact le5 _ | exact le6 _) _ | refine Ext.trans ?_ (by assumption))))).mono ?_; rintro e w2 ⟨rfl, hb2⟩; have c0' := hb2.cell c0; have ct' := hb2.cell ct; have cs' := hb2.cell cs)
          have hz2 := hb2.size
          have ca' : (w2.alloc (.cells #[.int .i64 (m + 1)] 2)).cell? ⟨w2.heap.size, 0, none⟩ = some (.int .i64 (m + 1)) := World.cell?_alloc_new _ _ _ _
          go_roundw
          case rel => exact ⟨k + 1, _, pre, _, by omega, rfl, rfl, by omega, by rw [show fr + ((k + 1 : Nat) : Int) = m + 1 by omega]; exact Boxed.new _ _ _, HS'.out.ext HJ.out (by (repeat' (first | exact Ext.refl _ | assumption | refine Ext.alloc ?_ _ | refine Ext.drew ?_ | refine Ext.drewN ?_ _ | refine Ext.set ?_ (by first | exact Nat.le_refl _ | exact le1 _ | exact le2 _ | exact le3 _ | exact le4 _ | exact le5 _ | exact le6 _) _ | refine Ext.trans ?_ (by assumption)))), .inr (by omega), fun _ => by have := wf_yes hm hT hlt HAL.out (HP1.out hkn); rw [if_neg (Int.not_lt.2 hsv0)] at this; exact this, fun h => by omega⟩
          case measure => simp [atM, ca', c0]; omega
      · have C2 := fun w' (h : Ext w0 w') (hc : w'.cell? ⟨Ba, 0, none⟩ = some (.int .i64 m)) => dayNo_c m Ba v rs w' (HS.out.ext RRule.stable h) HV.out hm0 (by omega) hc
        have htd : m.tdiv 1440 = m / 1440 := Int.tdiv_eq_ediv_of_nonneg hm0
        have d1 : m / 1440 * 1440 ≤ m := by omega
        have d2 : m < m / 1440 * 1440 + 1440 := by omega
        have d3 : 0 ≤ m / 1440 := by omega
        have HD := fun (h : dayNo rs (m / 1440) = true) x (h1 : m ≤ x) (h2 : x < m / 1440 * 1440 + 1440) => dayNo_skip (x := x) h (by omega)
        have HDH := Lib.hid HD
        clear HD
        have hmn : ∀ (x y : Int) (W : World), (Builtin.min_ #[2, 2] 2 #[.int .i64 x, .int .i64 y]).run Try.prog W = .ok (.int .i64 (min x y)) W := fun x y W => by
          have : (if y < x then y else x) = min x y := by split <;> omega
          rw [← this]; rfl
        by_cases hlt : m < T
        · have ha : allowedB rs m = false := by
            cases h : allowedB rs m
            · rfl
            · exact absurd ⟨hlt, h⟩ hal
          rw [ha] at C1
          have HNO := Lib.hid (fun sv' (h : pre ++ winsF (allowedB rs) (T - m).toNat m sv' = X) => wf_no hm hT hlt ha h)
          clear ha hal
          replace C1 := Lib.hid C1
          rcases hsv with hsv | hsv
          · subst hsv
            have HQ := HNO.out (-1) (HP1.out hkn)
            rw [if_neg (by omega), List.append_nil] at HQ
            replace HQ := Lib.hid HQ
            cases hdn : dayNo rs (m / 1440)
            · rw [hdn] at C2
              replace C2 := Lib.hid C2
              clear hdn
              generalize m / 1440 = d at *
              go_wp2_with (first | (go_at_call 69; refine (C1.out _ (by (repeat' (first | exact Ext.refl _ | assumption | refine Ext.alloc ?_ _ | refine Ext.drew ?_ | refine Ext.drewN ?_ _ | refine Ext.set ?_ (by first | exact Nat.le_refl _ | exact le1 _ | exact le2 _ | exact le3 _ | exact le4 _ | exact le5 _ | exact le6 _) _ | refine Ext.trans ?_ (by assumption))))).mono ?_; rintro e w2 ⟨rfl, hb2⟩; have c0' := hb2.cell c0; have ct' := hb2.cell ct; have cs' := hb2.cell cs; have hv0' := hb2.cell hv0) | (go_at_call 82; refine (C2.out _ (E0.trans hb2) c0').mono ?_; rintro e w3 ⟨rfl, hb3⟩; have c0'' := hb3.cell c0'; have ct'' := hb3.cell ct'; have g3 := Ext.frz hb3 (p := ⟨Ba, 0, none⟩) (by have := hb2.size; simp only; omega) (Ext.frz hb2 (p := ⟨Ba, 0, none⟩) hlB g0)))
              have hz2 := hb2.size
              have hz3 := hb3.size
              have E3 : Ext wr w3 := hb2.trans hb3
              have ca' : (w3.alloc (.cells #[.int .i64 (m + 1)] 2)).cell? ⟨w3.heap.size, 0, none⟩ = some (.int .i64 (m + 1)) := World.cell?_alloc_new _ _ _ _
              go_roundw
              case rel => exact ⟨k + 1, _, pre, _, by omega, rfl, rfl, by omega, by rw [show fr + ((k + 1 : Nat) : Int) = m + 1 by omega]; exact Boxed.new _ _ _, HS'.out.ext HJ.out (E3.alloc _), .inl rfl, fun _ => HQ.out, fun h => by omega⟩
              case measure => simp [atM, ca', c0]; omega
            · rw [hdn] at C2
              replace C2 := Lib.hid C2
              have HDN := Lib.hid hdn
              clear hdn
              generalize m / 1440 = d at *
              obtain ⟨m', hm'⟩ : ∃ m', min T (d * 1440 + 1440) = m' := ⟨_, rfl⟩
              have hm1 : m < m' := by omega
              have hm2 : m' ≤ T := by omega
              have hm3 : m' ≤ d * 1440 + 1440 := by omega
              go_wp2_with (first | (go_at_call 69; refine (C1.out _ (by (repeat' (first | exact Ext.refl _ | assumption | refine Ext.alloc ?_ _ | refine Ext.drew ?_ | refine Ext.drewN ?_ _ | refine Ext.set ?_ (by first | exact Nat.le_refl _ | exact le1 _ | exact le2 _ | exact le3 _ | exact le4 _ | exact le5 _ | exact le6 _) _ | refine Ext.trans ?_ (by assumption))))).mono ?_; rintro e w2 ⟨rfl, hb2⟩; have c0' := hb2.cell c0; have ct' := hb2.cell ct; have cs' := hb2.cell cs; have hv0' := hb2.cell hv0) | (go_at_call 82; refine (C2.out _ (E0.trans hb2) c0').mono ?_; rintro e w3 ⟨rfl, hb3⟩; have c0'' := hb3.cell c0'; have ct'' := hb3.cell ct'; have g3 := Ext.frz hb3 (p := ⟨Ba, 0, none⟩) (by have := hb2.size; simp only; omega) (Ext.frz hb2 (p := ⟨Ba, 0, none⟩) hlB g0)))
              have hz2 := hb2.size
              have hz3 := hb3.size
              have E3 : Ext wr w3 := hb2.trans hb3
              have hat3 : Boxed w3 Ba 2 (.int .i64 m) := (E3.block _ hlB).trans HAT.out
              have ca' : ((w3.setCell ⟨Ba, 0, none⟩ (.int .i64 (m' - 1))).alloc (.cells #[.int .i64 m'] 2)).cell? ⟨w3.heap.size, 0, none⟩ = some (.int .i64 m') := by
                have := (Boxed.new (w3.setCell ⟨Ba, 0, none⟩ (.int .i64 (m' - 1))) 2 (.int .i64 m')).cell
                rw [size_setCell] at this
                exact this
              go_roundw
              case rel => exact ⟨(m' - fr).toNat, _, pre, _, by omega, rfl, rfl, by omega, by rw [show fr + (((m' - fr).toNat : Nat) : Int) = m' by omega, ← size_setCell w3 ⟨Ba, 0, none⟩ (.int .i64 (m' - 1))]; exact Boxed.new _ _ _, ((HS'.out.ext HJ.out E3).set HJ.out hat3 hBa lt' ls _).ext HJ.out ((Ext.refl _).alloc _), .inl rfl, fun _ => wf_skip (m' := m') hm hT (by omega) hm1 hm2 (fun x hx1 hx2 => HDH.out HDN.out x hx1 (by omega)) HQ.out, fun h => by omega⟩
              case measure => simp [atM, ca', c0]; omega
          · have hX2 := HNO.out sv (HP1.out hkn)
            rw [if_pos hsv.1, List.append_assoc] at hX2
            have HX2 := Lib.hid hX2
            clear hX2
            have hsv0 : 0 ≤ sv := hsv.1
            go_upto_region 7 with (first | (go_at_call 69; refine (C1.out _ (by (repeat' (first | exact Ext.refl _ | assumption | refine Ext.alloc ?_ _ | refine Ext.drew ?_ | refine Ext.drewN ?_ _ | refine Ext.set ?_ (by first | exact Nat.le_refl _ | exact le1 _ | exact le2 _ | exact le3 _ | exact le4 _ | exact le5 _ | exact le6 _) _ | refine Ext.trans ?_ (by assumption))))).mono ?_; rintro e w2 ⟨rfl, hb2⟩; have c0' := hb2.cell c0; have ct' := hb2.cell ct; have cs' := hb2.cell cs; have hv0' := hb2.cell hv0))
            obtain ⟨fn', tmps', asg', bod', hy, hR⟩ := HY.out pre (sv, m) _ w2 (HJ.out.1 _ _ _ HS'.out.j hb2) HX2.out.symm
            dsimp only [winV] at hy
            refine (wpIn_wide (n := 4)).1 ?_
            gi_wp2
            refine hR.mono ?_
            rintro e W4 (⟨rfl, hA4, hK4⟩ | ⟨rfl, hx4⟩)
            rotate_left
            · gi_wp2
              go_wp2_with fail
              refine bodyPost_ret (results_none rfl _ _ _) rfl ?_
              exact ⟨⟨_, rfl⟩, .inr ⟨_, hx4⟩⟩
            have hS2 := HS'.out.ext HJ.out hb2
            have hat4 : Boxed W4 Ba 2 (.int .i64 m) := hK4.2 Ba _ _ _ (.inl rfl) (by omega) ((hb2.block _ hlB).trans HAT.out)
            have hS4 : WSt J w0 W Bt Bs B o (fr + n) (pre ++ [(sv, m)]) W4 := ⟨hA4, Nat.le_trans hS2.sz hK4.1, hK4.2 Bt _ _ _ (.inl rfl) gt hS2.ct, hK4.2 Bs _ _ _ (.inr rfl) gs hS2.cs⟩
            have E4 : Ext w0 W4 := HJb.out _ _ hA4
            have v4 := E4.cell HV0.out
            have c4 := hat4.cell
            have g4 := hat4.frozen
            have t4 := hS4.ct.cell
            have s4 := hS4.cs.cell
            rw [hT] at t4
            have hl4 := lt_of_cell c4
            have z4 := hS4.sz
            have HS4 := Lib.hid hS4
            have HAT4 := Lib.hid hat4
            clear hS2 hS4 hat4 hA4 hK4 hR hy c0 c0' ct ct' cs cs' hv0 hv0' g0
            gi_wp2
            cases hdn : dayNo rs (m / 1440)
            · rw [hdn] at C2
              replace C2 := Lib.hid C2
              clear hdn
              generalize m / 1440 = d at *
              go_wp2_with (first | (go_at_call 82; refine (C2.out _ E4 c4).mono ?_; rintro e w5 ⟨rfl, hb5⟩; have c5 := hb5.cell c4; have t5 := hb5.cell t4; have g5 := Ext.frz hb5 (p := ⟨Ba, 0, none⟩) hl4 g4))
              have hz5 := hb5.size
              have ca' : (w5.alloc (.cells #[.int .i64 (m + 1)] 2)).cell? ⟨w5.heap.size, 0, none⟩ = some (.int .i64 (m + 1)) := World.cell?_alloc_new _ _ _ _
              go_roundw
              case rel => exact ⟨k + 1, _, _, _, by omega, rfl, rfl, by omega, by rw [show fr + ((k + 1 : Nat) : Int) = m + 1 by omega]; exact Boxed.new _ _ _, HS4.out.ext HJ.out (hb5.alloc _), .inl rfl, fun _ => by rw [List.append_assoc]; exact HX2.out, fun h => by omega⟩
              case measure => simp [atM, ca', HAT.out.cell]; omega
            · rw [hdn] at C2
              replace C2 := Lib.hid C2
              have HDN := Lib.hid hdn
              clear hdn
              generalize m / 1440 = d at *
              obtain ⟨m', hm'⟩ : ∃ m', min T (d * 1440 + 1440) = m' := ⟨_, rfl⟩
              have hm1 : m < m' := by omega
              have hm2 : m' ≤ T := by omega
              have hm3 : m' ≤ d * 1440 + 1440 := by omega
              go_wp2_with (first | (go_at_call 82; refine (C2.out _ E4 c4).mono ?_; rintro e w5 ⟨rfl, hb5⟩; have c5 := hb5.cell c4; have t5 := hb5.cell t4; have g5 := Ext.frz hb5 (p := ⟨Ba, 0, none⟩) hl4 g4))
              have hz5 := hb5.size
              have hat5 : Boxed w5 Ba 2 (.int .i64 m) := (hb5.block _ hl4).trans HAT4.out
              have ca' : ((w5.setCell ⟨Ba, 0, none⟩ (.int .i64 (m' - 1))).alloc (.cells #[.int .i64 m'] 2)).cell? ⟨w5.heap.size, 0, none⟩ = some (.int .i64 m') := by
                have := (Boxed.new (w5.setCell ⟨Ba, 0, none⟩ (.int .i64 (m' - 1))) 2 (.int .i64 m')).cell
                rw [size_setCell] at this
                exact this
              go_roundw
              case rel => exact ⟨(m' - fr).toNat, _, _, _, by omega, rfl, rfl, by omega, by rw [show fr + (((m' - fr).toNat : Nat) : Int) = m' by omega, ← size_setCell w5 ⟨Ba, 0, none⟩ (.int .i64 (m' - 1))]; exact Boxed.new _ _ _, ((HS4.out.ext HJ.out hb5).set HJ.out hat5 hBa lt' ls _).ext HJ.out ((Ext.refl _).alloc _), .inl rfl, fun _ => wf_skip (m' := m') hm hT (by omega) hm1 hm2 (fun x hx1 hx2 => HDH.out HDN.out x hx1 (by omega)) (by rw [List.append_assoc]; exact HX2.out), fun h => by omega⟩
              case measure => simp [atM, ca', HAT.out.cell]; omega
        · have he : m = T := by omega
          have HEND := Lib.hid (wf_end he (HP1.out hkn))
          subst he
          rcases hsv with hsv | hsv
          · subst hsv
            have hXE := HEND.out
            rw [if_neg (by omega), List.append_nil] at hXE
            have HXE := Lib.hid hXE
            clear hXE hal
            go_wp2_with fail
            have ca' : (wr.alloc (.cells #[.int .i64 (m + 1)] 2)).cell? ⟨wr.heap.size, 0, none⟩ = some (.int .i64 (m + 1)) := World.cell?_alloc_new _ _ _ _
            go_roundw
            case rel => exact ⟨k + 1, _, pre, _, by omega, rfl, rfl, by omega, by rw [show fr + ((k + 1 : Nat) : Int) = m + 1 by omega]; exact Boxed.new _ _ _, HS'.out.ext HJ.out ((Ext.refl _).alloc _), .inl rfl, fun h => by omega, fun _ => HXE.out⟩
            case measure => simp [atM, ca', c0]; omega
          · have hXE := HEND.out
            rw [if_pos hsv.1] at hXE
            have HXE := Lib.hid hXE
            have hsv0 : 0 ≤ sv := hsv.1
            clear hXE hal
            go_upto_region 7 with fail
            obtain ⟨fn', tmps', asg', bod', hy, hR⟩ := HY.out pre (sv, m) [] wr HS'.out.j HXE.out.symm
            dsimp only [winV] at hy
            refine (wpIn_wide (n := 4)).1 ?_
            gi_wp2
            refine hR.mono ?_
            rintro e W4 (⟨rfl, hA4, hK4⟩ | ⟨rfl, hx4⟩)
            rotate_left
            · gi_wp2
              go_wp2_with fail
              refine bodyPost_ret (results_none rfl _ _ _) rfl ?_
              exact ⟨⟨_, rfl⟩, .inr ⟨_, hx4⟩⟩
            have hS2 := HS'.out
            have hat4 : Boxed W4 Ba 2 (.int .i64 m) := hK4.2 Ba _ _ _ (.inl rfl) (by omega) HAT.out
            have hS4 : WSt J w0 W Bt Bs B o (fr + n) (pre ++ [(sv, m)]) W4 := ⟨hA4, Nat.le_trans hS2.sz hK4.1, hK4.2 Bt _ _ _ (.inl rfl) gt hS2.ct, hK4.2 Bs _ _ _ (.inr rfl) gs hS2.cs⟩
            have E4 : Ext w0 W4 := HJb.out _ _ hA4
            have v4 := E4.cell HV0.out
            have c4 := hat4.cell
            have g4 := hat4.frozen
            have t4 := hS4.ct.cell
            have s4 := hS4.cs.cell
            rw [hT] at t4
            have hl4 := lt_of_cell c4
            have z4 := hS4.sz
            have HS4 := Lib.hid hS4
            have HAT4 := Lib.hid hat4
            clear hS2 hS4 hat4 hA4 hK4 hR hy c0 ct cs hv0 g0
            gi_wp2
            go_wp2_with fail
            have ca' : (W4.alloc (.cells #[.int .i64 (m + 1)] 2)).cell? ⟨W4.heap.size, 0, none⟩ = some (.int .i64 (m + 1)) := World.cell?_alloc_new _ _ _ _
            go_roundw
            case rel => exact ⟨k + 1, _, _, _, by omega, rfl, rfl, by omega, by rw [show fr + ((k + 1 : Nat) : Int) = m + 1 by omega]; exact Boxed.new _ _ _, HS4.out.ext HJ.out ((Ext.refl _).alloc _), .inl rfl, fun h => by omega, fun _ => HXE.out⟩
            case measure => simp [atM, ca', HAT.out.cell]; omega
end Go.Proofs.Ytaomlmkcifpfkaa
