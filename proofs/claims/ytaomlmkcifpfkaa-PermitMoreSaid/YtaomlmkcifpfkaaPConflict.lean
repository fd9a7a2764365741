/- Contract: 'Conflict' of the program. -/
import Derived.Test.YtaomlmkcifpfkaaPDrop
namespace Go.Proofs.Ytaomlmkcifpfkaa
open Go.RowKit Go.Shelf Go.Maps

def confN (rs : List PRule) (ns : List Int) : List Int := (dropP (fun r => ofB r (thingsL rs) (kindN rs)) rs.length (rs, ns)).2
def conflictS (l : List PAuth) (t : PTrip) (k : Int) : Int × List Int × Int := if someE l t k = 0 then (if kindN (rsAt l t k) = 0 then (0, [], 0) else (((kindN (rsAt l t k) : Nat) : Int), confN (rsAt l t k) (numsAt l t k), 0)) else (0, [], someE l t k)
theorem conflictS_bad {l : List PAuth} {t : PTrip} {k : Int} (h : someE l t k ≠ 0) : conflictS l t k = (0, [], someE l t k) := by unfold conflictS; rw [if_neg h]
theorem conflictS_none {l : List PAuth} {t : PTrip} {k : Int} (h : someE l t k = 0) (h2 : kindN (rsAt l t k) = 0) : conflictS l t k = (0, [], 0) := by unfold conflictS; rw [if_pos h, if_pos h2]
theorem conflictS_some {l : List PAuth} {t : PTrip} {k : Int} (h : someE l t k = 0) (h2 : kindN (rsAt l t k) ≠ 0) : conflictS l t k = (((kindN (rsAt l t k) : Nat) : Int), confN (rsAt l t k) (numsAt l t k), 0) := by unfold conflictS; rw [if_pos h, if_neg h2]
def ConflictR (l : List PAuth) (t : PTrip) (k : Int) (w : World) (e : Ending) (w' : World) : Prop := Ext w w' ∧ ∃ v, e = .returned (.tuple #[.int .i64 (conflictS l t k).1, v, .int .i64 (conflictS l t k).2.2]) ∧ Sl 1 RInt w' v (conflictS l t k).2.1
theorem sl_nil {α : Type} {n : Nat} {R : World → List Value → α → Prop} {w : World} : Sl n R w (.slice none 0 0) [] := ⟨none, 0, rfl, by simp, by simp, fun i x h => by simp at h⟩

theorem drop_step {f : List PRule → Bool} {j : Nat} {ls : List PRule} {ns R : List Int} (hj0 : ¬ j = 0) (hj : j ≤ ls.length) (hn : ns.length = ls.length) (hl : ls.length ≤ 24) (hv : ∀ r ∈ ls, ruleB r = true) (h : (dropP f j (ls, ns)).2 = R) :
    (dropP f (j - 1) (if f (ls.eraseIdx (j - 1)) = true then ls.eraseIdx (j - 1) else ls, if f (ls.eraseIdx (j - 1)) = true then ns.eraseIdx (j - 1) else ns)).2 = R ∧ j - 1 ≤ (if f (ls.eraseIdx (j - 1)) = true then ls.eraseIdx (j - 1) else ls).length ∧
      (if f (ls.eraseIdx (j - 1)) = true then ns.eraseIdx (j - 1) else ns).length = (if f (ls.eraseIdx (j - 1)) = true then ls.eraseIdx (j - 1) else ls).length ∧ (if f (ls.eraseIdx (j - 1)) = true then ls.eraseIdx (j - 1) else ls).length ≤ 24 ∧ ∀ r ∈ (if f (ls.eraseIdx (j - 1)) = true then ls.eraseIdx (j - 1) else ls), ruleB r = true := by
  obtain ⟨i, rfl⟩ : ∃ i, j = i + 1 := ⟨j - 1, by omega⟩
  simp only [Nat.add_sub_cancel] at *
  simp only [dropP] at h
  have e1 : (ls.eraseIdx i).length = ls.length - 1 := List.length_eraseIdx_of_lt (by omega)
  have e2 : (ns.eraseIdx i).length = ns.length - 1 := List.length_eraseIdx_of_lt (by omega)
  by_cases hf : f (ls.eraseIdx i) = true
  · simp only [hf, if_true] at h ⊢
    exact ⟨h, by omega, by omega, by omega, fun r hr => hv r (List.mem_of_mem_eraseIdx hr)⟩
  · simp only [hf] at h ⊢
    exact ⟨h, by simp only [Bool.false_eq_true, if_false]; omega, hn, hl, hv⟩
/-- both clones are made: their boxes are not stored yet -/
structure Pre9 (w0 : World) (nb Bk Bt k : Nat) (ts : List ByteArray) (ls : List PRule) (ns : List Int) (v8 v9 : Value) (W : World) : Prop where
  e : Ext w0 W
  l : OwnL 11 58 (fun _ => RRule w0) nb W v8 ls
  n : OwnL 1 3 (fun _ => RInt w0) nb W v9 ns
  bk : Boxed W Bk 3 (.int .i64 k)
  bt : ∃ v, Boxed W Bt 51 v ∧ OwnL 1 9 (fun _ => RStr w0) w0.heap.size W v ts
theorem Pre9.ext {w0 : World} {nb Bk Bt k : Nat} {ts : List ByteArray} {ls : List PRule} {ns : List Int} {v8 v9 : Value} {W W' : World} (h : Pre9 w0 nb Bk Bt k ts ls ns v8 v9 W) (he : Ext W W') : Pre9 w0 nb Bk Bt k ts ls ns v8 v9 W' := by
  obtain ⟨h1, h3, h5, h6, ⟨vt, h7, h8⟩⟩ := h
  exact ⟨h1.trans he, h3.ext (fun _ _ _ _ _ h => h) he, h5.ext (fun _ _ _ _ _ h => h) he, box_ext h6 he, ⟨vt, box_ext h7 he, h8.ext (fun _ _ _ _ _ h => h) he⟩⟩
theorem Pre9.set {w0 : World} {nb Bk Bt k : Nat} {ts : List ByteArray} {ls : List PRule} {ns : List Int} {v8 v9 : Value} {W : World} (h : Pre9 w0 nb Bk Bt k ts ls ns v8 v9 W) {B : Nat} {t : TypeId} {x : Value} (hb : Boxed W B t x) (hB : w0.heap.size ≤ B) (h1 : t ≠ 58) (h2 : t ≠ 3) (h3 : t ≠ 51) (h4 : t ≠ 9) (u : Value) : Pre9 w0 nb Bk Bt k ts ls ns v8 v9 (W.setCell ⟨B, 0, none⟩ u) := by
  obtain ⟨k1, k3, k5, k6, ⟨vt, k7, k8⟩⟩ := h
  exact ⟨k1.set hB u, k3.set' (fun _ _ h => h) (own_ne_box k3 hb h1), k5.set' (fun _ _ h => h) (own_ne_box k5 hb h2), box_set k6 (box_box_ne k6 hb (Ne.symm h2)) u, ⟨vt, box_set k7 (box_box_ne k7 hb (Ne.symm h3)) u, k8.set' (fun _ _ h => h) (own_ne_box k8 hb h4)⟩⟩
theorem Pre9.st {w0 : World} {nb Bk Bt k : Nat} {ts : List ByteArray} {ls : List PRule} {ns : List Int} {v8 v9 : Value} {W : World} (h : Pre9 w0 nb Bk Bt k ts ls ns v8 v9 W) {Ba Bb : Nat} (ha : Boxed W Ba 42 v8) (hb : Boxed W Bb 41 v9) : DrSt w0 nb Ba Bk Bt Bb k ts ls ns W :=
  ⟨h.e, ⟨v8, ha, h.l⟩, ⟨v9, hb, h.n⟩, h.bk, h.bt⟩
/-- what holds when both clones lie in their boxes -/
def ConfOk (w0 : World) (nb Bk Bt k : Nat) (ts : List ByteArray) (ls : List PRule) (ns : List Int) (p q : Value) (W : World) : Prop :=
  ∃ Ba Bb : Nat, p = .pointer (some ⟨Ba, 0, none⟩) ∧ q = .pointer (some ⟨Bb, 0, none⟩) ∧ DrSt w0 nb Ba Bk Bt Bb k ts ls ns W ∧ w0.heap.size ≤ Ba ∧ w0.heap.size ≤ Bb ∧ Ba ≠ Bb ∧ nb ≤ W.heap.size
section
variable {w0 : World} {nb Bk Bt k : Nat} {ts : List ByteArray} {ls : List PRule} {ns : List Int} {v8 v9 : Value} {W : World}
theorem conf1 (h : Pre9 w0 nb Bk Bt k ts ls ns v8 v9 W) (hn : nb ≤ W.heap.size) {Ba Bb : Nat} {x y : Value} (ha : Boxed W Ba 42 x) (hb : Boxed W Bb 41 y) (za : w0.heap.size ≤ Ba) (zb : w0.heap.size ≤ Bb) :
    ConfOk w0 nb Bk Bt k ts ls ns (.pointer (some ⟨Ba, 0, none⟩)) (.pointer (some ⟨Bb, 0, none⟩)) ((W.setCell ⟨Ba, 0, none⟩ v8).setCell ⟨Bb, 0, none⟩ v9) := by
  have hne := box_box_ne ha hb (by decide)
  have hb' := box_set hb (Ne.symm hne) v8
  exact ⟨Ba, Bb, rfl, rfl, ((h.set ha za (by decide) (by decide) (by decide) (by decide) v8).set hb' zb (by decide) (by decide) (by decide) (by decide) v9).st (box_set (Boxed.set v8 ha) hne v9) (Boxed.set v9 hb'), za, zb, hne, by rw [size_setCell, size_setCell]; exact hn⟩
theorem conf2 (h : Pre9 w0 nb Bk Bt k ts ls ns v8 v9 W) (hn : nb ≤ W.heap.size) {Bb : Nat} {y : Value} (hb : Boxed W Bb 41 y) (zb : w0.heap.size ≤ Bb) :
    ConfOk w0 nb Bk Bt k ts ls ns (.pointer (some ⟨W.heap.size, 0, none⟩)) (.pointer (some ⟨Bb, 0, none⟩)) ((W.setCell ⟨Bb, 0, none⟩ v9).alloc (.cells #[v8] 42)) := by
  have hne : W.heap.size ≠ Bb := by have := Boxed.lt hb; omega
  have ha := Boxed.new (W.setCell ⟨Bb, 0, none⟩ v9) 42 v8
  rw [size_setCell] at ha
  exact ⟨W.heap.size, Bb, rfl, rfl, ((h.set hb zb (by decide) (by decide) (by decide) (by decide) v9).ext ((Ext.refl _).alloc _)).st ha ((Boxed.set v9 hb).alloc _), h.e.size, zb, hne, by simp; omega⟩
theorem conf3 (h : Pre9 w0 nb Bk Bt k ts ls ns v8 v9 W) (hn : nb ≤ W.heap.size) {Ba : Nat} {y : Value} (ha : Boxed W Ba 42 y) (za : w0.heap.size ≤ Ba) :
    ConfOk w0 nb Bk Bt k ts ls ns (.pointer (some ⟨Ba, 0, none⟩)) (.pointer (some ⟨W.heap.size, 0, none⟩)) ((W.setCell ⟨Ba, 0, none⟩ v8).alloc (.cells #[v9] 41)) := by
  have hne : Ba ≠ W.heap.size := by have := Boxed.lt ha; omega
  have hb := Boxed.new (W.setCell ⟨Ba, 0, none⟩ v8) 41 v9
  rw [size_setCell] at hb
  exact ⟨Ba, W.heap.size, rfl, rfl, ((h.set ha za (by decide) (by decide) (by decide) (by decide) v8).ext ((Ext.refl _).alloc _)).st ((Boxed.set v8 ha).alloc _) hb, za, h.e.size, hne, by simp; omega⟩
theorem conf4 (h : Pre9 w0 nb Bk Bt k ts ls ns v8 v9 W) (hn : nb ≤ W.heap.size) :
    ConfOk w0 nb Bk Bt k ts ls ns (.pointer (some ⟨W.heap.size, 0, none⟩)) (.pointer (some ⟨W.heap.size + 1, 0, none⟩)) ((W.alloc (.cells #[v8] 42)).alloc (.cells #[v9] 41)) := by
  have hb := Boxed.new (W.alloc (.cells #[v8] 42)) 41 v9
  rw [size_alloc] at hb
  exact ⟨W.heap.size, W.heap.size + 1, rfl, rfl, (h.ext (((Ext.refl _).alloc _).alloc _)).st ((Boxed.new W _ _).alloc _) hb, h.e.size, by have := h.e.size; omega, by omega, by simp; omega⟩
theorem conf5 (h : Pre9 w0 nb Bk Bt k ts ls ns v8 v9 W) (hn : nb ≤ W.heap.size) :
    ConfOk w0 nb Bk Bt k ts ls ns (.pointer (some ⟨W.heap.size + 1, 0, none⟩)) (.pointer (some ⟨W.heap.size, 0, none⟩)) ((W.alloc (.cells #[v9] 41)).alloc (.cells #[v8] 42)) := by
  have ha := Boxed.new (W.alloc (.cells #[v9] 41)) 42 v8
  rw [size_alloc] at ha
  exact ⟨W.heap.size + 1, W.heap.size, rfl, rfl, (h.ext (((Ext.refl _).alloc _).alloc _)).st ha ((Boxed.new W _ _).alloc _), by have := h.e.size; omega, h.e.size, by omega, by simp; omega⟩
theorem box_new2 (W : World) (o : Obj) (t : TypeId) (v : Value) : Boxed ((W.alloc o).alloc (.cells #[v] t)) (W.heap.size + 1) t v := by
  have := Boxed.new (W.alloc o) t v
  rw [size_alloc] at this
  exact this
end

set_option maxRecDepth 100000 in
set_option maxHeartbeats 4000000 in
theorem Conflict_c (v vp : Value) (l : List PAuth) (t : PTrip) (k : Int) (w : World) (hk : -9223372036854775808 ≤ k) (hk2 : k ≤ 9223372036854775807) (hs : Sl 4 RAuth w v l) (hp : Sl 3 RPass w vp t.passages) :
    Calls Try.prog 25 #[v, tripV t vp, .int .i64 k] w (ConflictR l t k w) := by
  have C1 := fun w' (h : Ext w w') => findP_c v vp l t k w' hk hk2 (hs.ext RAuth.stable h) (hp.ext RPass.stable h)
  obtain ⟨A, cap, rfl, hl, hcap⟩ := hs.shape
  obtain ⟨Ap, capp, rfl, hpl, hpcap⟩ := hp.shape
  unfold tripV at *
  replace C1 := Lib.hid C1
  clear hs hp
  obtain ⟨Post, hPost⟩ : ∃ Post, ConflictR l t k w = Post := ⟨_, rfl⟩
  rw [hPost]
  replace hPost := Lib.hid hPost
  go_enter Try.func25, Try.ntmps25
  go_wp2_with fail
  refine (C1.out _ (by (repeat' (first | exact Ext.refl _ | assumption | refine Ext.alloc ?_ _ | refine Ext.drew ?_ | refine Ext.drewN ?_ _ | refine Ext.set ?_ (by first | exact Nat.le_refl _ | exact le1 _ | exact le2 _ | exact le3 _ | exact le4 _ | exact le5 _ | exact le6 _) _ | refine Ext.trans ?_ (by assumption))))).mono ?_
  rintro e w1 ⟨hb1, ⟨hne, rfl⟩ | ⟨h0, B, o, vl, vn, rfl, c0, c1, c2, hr1, hr2⟩⟩
  · have hne' : (someE l t k != 0) = true := by simp [hne]
    have E1 : Ext w w1 := by (repeat' (first | exact Ext.refl _ | assumption | refine Ext.alloc ?_ _ | refine Ext.drew ?_ | refine Ext.drewN ?_ _ | refine Ext.set ?_ (by first | exact Nat.le_refl _ | exact le1 _ | exact le2 _ | exact le3 _ | exact le4 _ | exact le5 _ | exact le6 _) _ | refine Ext.trans ?_ (by assumption)))
    have HA := Lib.hid (conflictS_bad hne)
    generalize someE l t k = E at *
    go_wp2_with fail
    refine bodyPost_ret (v := .tuple #[.int .i64 0, .slice none 0 0, .int .i64 E]) (by simp [results, Try.results25, go_sem]) rfl ?_
    rw [← hPost.out]
    exact ⟨E1, _, by rw [HA.out], by rw [HA.out]; exact sl_nil⟩
  · have E1 : Ext w w1 := by (repeat' (first | exact Ext.refl _ | assumption | refine Ext.alloc ?_ _ | refine Ext.drew ?_ | refine Ext.drewN ?_ _ | refine Ext.set ?_ (by first | exact Nat.le_refl _ | exact le1 _ | exact le2 _ | exact le3 _ | exact le4 _ | exact le5 _ | exact le6 _) _ | refine Ext.trans ?_ (by assumption)))
    have hPO := passOk h0
    obtain ⟨Al, capl, rfl, _, _⟩ := hr1.shape
    obtain ⟨An, capn, rfl, _, _⟩ := hr2.shape
    have C2 := fun w' (h : Ext w1 w') => kind_c _ (rsAt l t k) w' (hr1.ext RRule.stable h) hPO.rules (by have := hPO.len; omega)
    by_cases hkn : kindN (rsAt l t k) = 0
    · have HA := Lib.hid (conflictS_none h0 hkn)
      rw [hkn] at C2
      replace C2 := Lib.hid C2
      clear hr1 hr2 hkn hPO h0
      go_wp2_with (go_at_call 60; refine (C2.out _ (by (repeat' (first | exact Ext.refl _ | assumption | refine Ext.alloc ?_ _ | refine Ext.drew ?_ | refine Ext.drewN ?_ _ | refine Ext.set ?_ (by first | exact Nat.le_refl _ | exact le1 _ | exact le2 _ | exact le3 _ | exact le4 _ | exact le5 _ | exact le6 _) _ | refine Ext.trans ?_ (by assumption))))).mono ?_; rintro e w2 ⟨rfl, hb2⟩)
      refine bodyPost_ret (v := .tuple #[.int .i64 0, .slice none 0 0, .int .i64 0]) (by simp [results, Try.results25, go_sem]) rfl ?_
      rw [← hPost.out]
      exact ⟨E1.trans (hb2.alloc _), _, by rw [HA.out], by rw [HA.out]; exact sl_nil⟩
    · have HA := Lib.hid (conflictS_some h0 hkn)
      have hlt := kindN_lt (rsAt l t k)
      have C3 := fun w' (h : Ext w1 w') => things_c _ (rsAt l t k) w' (hr1.ext RRule.stable h) (by have := hPO.len; omega) (counts_ok hPO.rules)
      have HR1 := Lib.hid hr1
      have HR2 := Lib.hid hr2
      have HPO := Lib.hid hPO
      have hkn' : (((kindN (rsAt l t k) : Nat) : Int) == 0) = false := by simp; omega
      obtain ⟨kn, hkn0⟩ : ∃ z, kindN (rsAt l t k) = z := ⟨_, rfl⟩
      have HKN := Lib.hid hkn0
      rw [hkn0] at C2 HA hlt hkn' hkn
      clear hkn0
      replace C2 := Lib.hid C2
      replace C3 := Lib.hid C3
      clear hr1 hr2 h0 hPO
      go_upto_region 7 with (first | (go_at_call 60; refine (C2.out _ (by (repeat' (first | exact Ext.refl _ | assumption | refine Ext.alloc ?_ _ | refine Ext.drew ?_ | refine Ext.drewN ?_ _ | refine Ext.set ?_ (by first | exact Nat.le_refl _ | exact le1 _ | exact le2 _ | exact le3 _ | exact le4 _ | exact le5 _ | exact le6 _) _ | refine Ext.trans ?_ (by assumption))))).mono ?_; rintro e w2 ⟨rfl, hb2⟩; have c0' := hb2.cell c0; have c1' := hb2.cell c1))
      have E2 := E1.trans hb2
      have E12 : Ext w1 (w2.alloc (.cells #[.int .i64 kn] 3)) := hb2.alloc _
      have bk := Boxed.new w2 3 (.int .i64 kn)
      have c0'' := E12.cell c0
      have c1'' := E12.cell c1
      have HBK := Lib.hid bk
      have HC0 := Lib.hid c0
      have hz2 : (w2.alloc (.cells #[.int .i64 kn] 3)).heap.size = w2.heap.size + 1 := size_alloc _ _
      generalize (w2.alloc (.cells #[.int .i64 kn] 3)) = W3 at *
      clear bk c0 c1 c0' c1'
      go_upto_region 8 with (first | (go_at_call 61; refine (C3.out _ E12).mono ?_; rintro e w4 ⟨vt, rfl, ho4, hb4⟩; obtain ⟨At, capt, rfl, _, _⟩ := ho4.sl.shape; have c0' := hb4.cell c0''; have c1' := hb4.cell c1''))
      have E45 : Ext w4 (w4.alloc (.cells #[.slice At (thingsL (rsAt l t k)).length capt] 51)) := (Ext.refl _).alloc _
      have bt5 := Boxed.new w4 51 (.slice At (thingsL (rsAt l t k)).length capt)
      have E35 := hb4.trans E45
      have E15 := E12.trans E35
      have bk5 := box_ext HBK.out E35
      have d0 := E35.cell c0''
      have d1 := E35.cell c1''
      have ot5 := (ho4.ext (fun _ _ _ _ _ h => h) E45).lower E12.size
      have hz5 : (w4.alloc (.cells #[.slice At (thingsL (rsAt l t k)).length capt] 51)).heap.size = w4.heap.size + 1 := size_alloc _ _
      generalize (w4.alloc (.cells #[.slice At (thingsL (rsAt l t k)).length capt] 51)) = W5 at *
      have C4 := fun w' (h : Ext W5 w') => cloneRule_c (R := fun _ => RRule w1) _ (rsAt l t k) w' (Sl.ext (R := fun _ => RRule w1) (fun _ _ _ _ _ h => h) HR1.out (E15.trans h)) (fun cs x h => one_rule h) (by have := HPO.out.len; omega)
      have C5 := fun w' (h : Ext W5 w') => cloneInt_c (R := fun _ => RInt w1) _ (numsAt l t k) w' (Sl.ext (R := fun _ => RInt w1) (fun _ _ _ _ _ h => h) HR2.out (E15.trans h)) (fun cs x h => one_int' h) (by have := HPO.out.len; have := HPO.out.nums; omega)
      replace C4 := Lib.hid C4
      replace C5 := Lib.hid C5
      have hBl := lt_of_cell d0
      have hz5' : w4.heap.size < W5.heap.size := by omega
      have hz2' : w2.heap.size < W3.heap.size := by omega
      have hz35 := E35.size
      clear hz5 hz2
      have hz15 := E15.size
      have hBk : w2.heap.size < W5.heap.size := by omega
      have HB5 := Lib.hid (And.intro bk5 (And.intro bt5 ot5))
      clear bk5 bt5 ot5 c0' c1' c0'' c1'' ho4
      go_cut [13, 14] from 40 to 65 (fun p q wc => ConfOk w1 W5.heap.size w2.heap.size w4.heap.size kn (thingsL (rsAt l t k)) (rsAt l t k) (numsAt l t k) p q wc)
      case first =>
        go_region_held3 (fun w' => w'.cell? ⟨B, o, none⟩ = some (.slice Al (rsAt l t k).length capl) ∧ w'.cell? ⟨B, o + 1, none⟩ = some (.slice An (numsAt l t k).length capn)) (refine ⟨?_, ?_⟩ <;> (repeat' (with_reducible (first | assumption | refine Ext.cell hb9 ?_ | refine Ext.cell hb8 ?_ | refine Ext.cell (Ext.refl _).drew ?_ | refine cell_set_ne (by first | omega | (simp; omega)) ?_ | refine Ext.cell ((Ext.refl _).alloc _) ?_)))) (first
          | (go_at_call 62; refine (C4.out _ (by (repeat' (first | exact Ext.refl _ | assumption | refine Ext.alloc ?_ _ | refine Ext.drew ?_ | refine Ext.drewN ?_ _ | refine Ext.set ?_ (by first | exact Nat.le_refl _ | exact le1 _ | exact le2 _ | exact le3 _ | exact le4 _ | exact le5 _ | exact le6 _) _ | refine Ext.trans ?_ (by assumption))))).mono ?_; rintro e w8 ⟨v8, rfl, ho8, hb8⟩; obtain ⟨A8, cap8, rfl, _, _⟩ := ho8.sl.shape; have E58 : Ext W5 w8 := (by (repeat' (first | exact Ext.refl _ | assumption | refine Ext.alloc ?_ _ | refine Ext.drew ?_ | refine Ext.drewN ?_ _ | refine Ext.set ?_ (by first | exact Nat.le_refl _ | exact le1 _ | exact le2 _ | exact le3 _ | exact le4 _ | exact le5 _ | exact le6 _) _ | refine Ext.trans ?_ (by assumption)))); have z8 := E58.size; (try (have ya : Boxed w8 (W5.heap.size) 42 (.slice none 0 0) := box_ext (W := (W5.alloc (.cells #[.slice none 0 0] 42)).drew) (Boxed.new W5 _ _) hb8)); (try (have yb : Boxed w8 (W5.heap.size) 41 (.slice none 0 0) := box_ext (W := (W5.alloc (.cells #[.slice none 0 0] 41)).drew) (Boxed.new W5 _ _) hb8)); (try (have ya : Boxed w8 (W5.heap.size) 42 (.slice none 0 0) := box_ext (W := ((W5.alloc (.cells #[.slice none 0 0] 42)).alloc (.cells #[.slice none 0 0] 41)).drew) ((Boxed.new W5 _ _).alloc _) hb8; have yb : Boxed w8 (W5.heap.size + 1) 41 (.slice none 0 0) := box_ext (W := ((W5.alloc (.cells #[.slice none 0 0] 42)).alloc (.cells #[.slice none 0 0] 41)).drew) (box_new2 W5 _ _ _) hb8)); (try (have yb : Boxed w8 (W5.heap.size) 41 (.slice none 0 0) := box_ext (W := ((W5.alloc (.cells #[.slice none 0 0] 41)).alloc (.cells #[.slice none 0 0] 42)).drew) ((Boxed.new W5 _ _).alloc _) hb8; have ya : Boxed w8 (W5.heap.size + 1) 42 (.slice none 0 0) := box_ext (W := ((W5.alloc (.cells #[.slice none 0 0] 41)).alloc (.cells #[.slice none 0 0] 42)).drew) (box_new2 W5 _ _ _) hb8)); (try (have qa := ya.cell; have fa := ya.frozen; have la := lt_of_cell qa)); (try (have qb := yb.cell; have fb := yb.frozen; have lb := lt_of_cell qb)); (try (have nab := box_box_ne ya yb (by decide); have nba := Ne.symm nab)); skip)
          | (go_at_call 63; refine (C5.out _ (by (repeat' (first | exact Ext.refl _ | assumption | refine Ext.alloc ?_ _ | refine Ext.drew ?_ | refine Ext.drewN ?_ _ | refine Ext.set ?_ (by first | exact Nat.le_refl _ | exact le1 _ | exact le2 _ | exact le3 _ | exact le4 _ | exact le5 _ | exact le6 _) _ | refine Ext.trans ?_ (by assumption))))).mono ?_; rintro e w9 ⟨v9, rfl, ho9, hb9⟩; obtain ⟨A9, cap9, rfl, _, _⟩ := ho9.sl.shape; have E89 : Ext w8 w9 := (by (repeat' (first | exact Ext.refl _ | assumption | refine Ext.alloc ?_ _ | refine Ext.drew ?_ | refine Ext.drewN ?_ _ | refine Ext.set ?_ (by first | exact Nat.le_refl _ | exact le1 _ | exact le2 _ | exact le3 _ | exact le4 _ | exact le5 _ | exact le6 _) _ | refine Ext.trans ?_ (by assumption)))); have z9 := E89.size; (try clear qa fa la); (try clear qb fb lb); (try (replace ya := box_ext ya E89)); (try (replace yb := box_ext yb E89)); (try (have ya : Boxed w9 (w8.heap.size) 42 (.slice none 0 0) := box_ext (W := w8.alloc (.cells #[.slice none 0 0] 42)) (Boxed.new w8 _ _) hb9)); (try (have yb : Boxed w9 (w8.heap.size) 41 (.slice none 0 0) := box_ext (W := w8.alloc (.cells #[.slice none 0 0] 41)) (Boxed.new w8 _ _) hb9)); (try (have ya : Boxed w9 (w8.heap.size) 42 (.slice none 0 0) := box_ext (W := (w8.alloc (.cells #[.slice none 0 0] 42)).alloc (.cells #[.slice none 0 0] 41)) ((Boxed.new w8 _ _).alloc _) hb9; have yb : Boxed w9 (w8.heap.size + 1) 41 (.slice none 0 0) := box_ext (W := (w8.alloc (.cells #[.slice none 0 0] 42)).alloc (.cells #[.slice none 0 0] 41)) (box_new2 w8 _ _ _) hb9)); (try (have yb : Boxed w9 (w8.heap.size) 41 (.slice none 0 0) := box_ext (W := (w8.alloc (.cells #[.slice none 0 0] 41)).alloc (.cells #[.slice none 0 0] 42)) ((Boxed.new w8 _ _).alloc _) hb9; have ya : Boxed w9 (w8.heap.size + 1) 42 (.slice none 0 0) := box_ext (W := (w8.alloc (.cells #[.slice none 0 0] 41)).alloc (.cells #[.slice none 0 0] 42)) (box_new2 w8 _ _ _) hb9)); (try (have qa := ya.cell; have fa := ya.frozen; have la := lt_of_cell qa)); (try (have qb := yb.cell; have fb := yb.frozen; have lb := lt_of_cell qb)); (try (have nab := box_box_ne ya yb (by decide); have nba := Ne.symm nab)); skip))
        all_goals
          go_wp2_with fail
          go_meet
          have P9 : Pre9 w1 W5.heap.size w2.heap.size w4.heap.size kn (thingsL (rsAt l t k)) (rsAt l t k) (numsAt l t k) _ _ w9 := ⟨E15.trans (E58.trans E89), (ho8.lower (by first | exact Nat.le_refl _ | (simp; done) | (simp; omega))).ext (fun _ _ _ _ _ h => h) E89, ho9.lower (by first | exact z8 | (simp; omega)), box_ext HB5.out.1 (E58.trans E89), ⟨_, box_ext HB5.out.2.1 (E58.trans E89), HB5.out.2.2.ext (fun _ _ _ _ _ h => h) (E58.trans E89)⟩⟩
          have hn9 : W5.heap.size ≤ w9.heap.size := Nat.le_trans z8 z9
          first
            | exact conf1 P9 hn9 ya yb (by omega) (by omega)
            | exact conf2 P9 hn9 yb (by omega)
            | exact conf3 P9 hn9 ya (by omega)
            | exact conf4 P9 hn9
            | exact conf5 P9 hn9
      case rest =>
        obtain ⟨Ba, Bb, rfl, rfl, hD, za, zb, hab, hnb⟩ := hcut
        have e0 := hD.e.cell HC0.out
        obtain ⟨R, hR⟩ : ∃ R, confN (rsAt l t k) (numsAt l t k) = R := ⟨_, rfl⟩
        rw [hR] at HA
        have hR' : (dropP (fun r => ofB r (thingsL (rsAt l t k)) kn) (rsAt l t k).length (rsAt l t k, numsAt l t k)).2 = R := by rw [← hR, ← HKN.out]; rfl
        have hln := HPO.out.nums
        have hl24 := HPO.out.len
        have HRR := Lib.hid hR'
        clear hR hR'
        have HD := Lib.hid hD
        clear hD
        go_wp2_with fail
        go_loopw [16] (fun i wr => ∃ (j : Nat) (ls : List PRule) (ns : List Int), j ≤ ls.length ∧ i = .int .i64 ((j : Int) - 1) ∧ DrSt w1 W5.heap.size Ba w2.heap.size w4.heap.size Bb kn (thingsL (rsAt l t k)) ls ns wr ∧ ns.length = ls.length ∧ ls.length ≤ 24 ∧ (∀ r ∈ ls, ruleB r = true) ∧ W5.heap.size ≤ wr.heap.size ∧ (dropP (fun r => ofB r (thingsL (rsAt l t k)) kn) j (ls, ns)).2 = R) (fun i _ => (intOf i + 1).toNat)
        case atStart => exact ⟨(rsAt l t k).length, _, _, Nat.le_refl _, rfl, HD.out, hln, hl24, HPO.out.rules, hnb, HRR.out⟩
        case round =>
          obtain ⟨j, ls, ns, hj, rfl, hD, hnl, hl2, hru, hwn, hdp⟩ := hrel
          have HDS := Lib.hid hD
          have HDP := Lib.hid hdp
          have HRU := Lib.hid hru
          clear hdp hru
          by_cases hj0 : j = 0
          · subst hj0
            obtain ⟨vx, bx, ox⟩ := hD.bn
            have f0 := hD.bk.cell
            have f1 := bx.cell
            have hox := (ox.to (R' := RInt) (fun cs x h => h)).sl
            obtain ⟨Ax, capx, rfl, _, _⟩ := hox.shape
            have HOX := Lib.hid hox
            clear hD bx ox hox
            go_wp2_with fail
            go_region
            go_wp2_with fail
            have hn : ns = R := HDP.out
            refine bodyPost_ret (v := .tuple #[.int .i64 kn, .slice Ax ls.length capx, .int .i64 0]) (by simp [results, Try.results25, go_sem]) rfl ?_
            rw [← hPost.out]
            refine ⟨(E1.trans HDS.out.e).drew, _, by rw [HA.out], ?_⟩
            rw [HA.out, ← hn]
            have hox := HOX.out
            rw [hnl] at hox
            exact hox.ext (fun _ _ _ _ _ h => h) ((Ext.refl _).drew)
          · have C6 := drop_c w1 W5.heap.size Ba w2.heap.size w4.heap.size Bb kn (j - 1) (thingsL (rsAt l t k)) ls ns wr hD hBk za zb E15.size hwn hab (by omega) hnl (by omega) HRU.out (by omega) hlt
            rw [show (((j - 1 : Nat) : Nat) : Int) = (j : Int) - 1 by omega] at C6
            replace C6 := Lib.hid C6
            clear hD
            go_wp2_with (go_at_call 64; refine C6.out.mono ?_; rintro e w6 ⟨⟨v6, rfl⟩, hD6, hz6⟩)
            have hst := drop_step hj0 hj hnl hl2 HRU.out HDP.out
            have HST := Lib.hid hst
            clear hst
            go_roundw
            case rel => exact ⟨j - 1, _, _, HST.out.2.1, by rw [show (((j - 1 : Nat) : Nat) : Int) = (j : Int) - 1 by omega], hD6, HST.out.2.2.1, HST.out.2.2.2.1, HST.out.2.2.2.2, by omega, HST.out.1⟩
            case measure => simp [intOf]; omega
end Go.Proofs.Ytaomlmkcifpfkaa
