
/- LProvAll: several texts in one. -/
import Derived.Test.YtkkeblgahbpmmaaLCont
import Derived.Shelf.Abstract
import Derived.Test.YtkkeblgahbpmmaaLRigAll
/- Contracts: slices.IndexFunc and ContainsFunc at points, proves. -/
namespace Go.Proofs.Ytkkeblgahbpmmaa
open Go.RowKit Go.Shelf Go.Lib

/-- where the first point is for which p holds; -1 if there is none -/
def idxP (p : HPt → Bool) (l : List HPt) : Int := match l.findIdx? p with | some i => (i : Int) | none => -1
theorem idxP_hit {p : HPt → Bool} {l : List HPt} {k : Nat} {x : HPt} (h0 : (l.take k).any p = false) (h : l[k]? = some x) (hp : p x = true) : (k : Int) = idxP p l := by
  have hk := lt_of_some h
  have : l.findIdx? p = some k := by
    rw [List.findIdx?_eq_some_iff_getElem]
    refine ⟨hk, by rw [List.getElem?_eq_getElem hk] at h; injection h with h; rw [h]; exact hp, fun j hj => ?_⟩
    have h1 := List.any_eq_false.1 h0 (l[j]'(by omega)) (by rw [List.mem_take_iff_getElem]; exact ⟨j, by omega, rfl⟩)
    simpa using h1
  unfold idxP; rw [this]
theorem idxP_miss {p : HPt → Bool} {l : List HPt} (h0 : l.any p = false) : (-1 : Int) = idxP p l := by
  have : l.findIdx? p = none := by
    rw [List.findIdx?_eq_none_iff]
    intro x hx
    have := List.any_eq_false.1 h0 x hx
    simpa using this
  unfold idxP; rw [this]
theorem idxP_nonneg {p : HPt → Bool} {l : List HPt} : decide (0 ≤ idxP p l) = l.any p := by
  unfold idxP
  cases h : l.findIdx? p with
  | none =>
    rw [List.findIdx?_eq_none_iff] at h
    have : l.any p = false := by rw [List.any_eq_false]; intro x hx; simpa using h x hx
    rw [this]; rfl
  | some i =>
    rw [List.findIdx?_eq_some_iff_getElem] at h
    obtain ⟨hi, hp, _⟩ := h
    have : l.any p = true := by rw [List.any_eq_true]; exact ⟨_, List.getElem_mem hi, hp⟩
    rw [this]; simp
set_option maxRecDepth 100000 in
set_option maxHeartbeats 1600000 in
theorem idxPts_c (g : Nat) (lb : Array Value) (eg : ∀ args w, (callFunc g args).run Try.prog w = .ok (.enter g args) w) (p : HPt → Bool) (v : Value) (l : List HPt) (w : World) (hs : Pts w v l) (hn : l.length ≤ 1000000)
    (hp : ∀ W x, Ext w W → x ∈ l → Calls Try.prog g (#[.agg #[.int .i64 x.1, .int .i64 x.2]] ++ lb) W fun e w' => e = .returned (.bool (p x)) ∧ Ext W w') :
    Calls Try.prog 59 #[v, .func (.func g) #[] lb] w fun e w' => e = .returned (.int .i64 (idxP p l)) ∧ Ext w w' := by
  have HPP := Lib.hid hp
  clear hp
  rcases hs with ⟨a0, c0, rfl, rfl⟩ | ⟨b, off, cap, rfl, hl, hcap, hc⟩
  · have HM := Lib.hid (idxP_miss (p := p) (l := []) rfl)
    go_enter Try.func59, Try.ntmps59
    go_wp2
    go_loopw [8] (fun i wr => i = .int .i64 0 ∧ w = wr) (fun _ _ => 0)
    case atStart => exact ⟨rfl, rfl⟩
    case round =>
      obtain ⟨rfl, rfl⟩ := hrel
      go_wp2
      go_ret
      exact ⟨ret_int HM.out, Ext.refl _⟩
  · have HC := Lib.hid hc
    clear hc
    go_enter Try.func59, Try.ntmps59
    go_wp2
    go_loopw [8] (fun i wr => ∃ k : Nat, k ≤ l.length ∧ i = .int .i64 k ∧ (l.take k).any p = false ∧ Ext w wr) (fun i _ => l.length - (intOf i).toNat)
    case atStart => exact ⟨0, by omega, rfl, by simp, Ext.refl _⟩
    case round =>
      obtain ⟨k, hk, rfl, ha, hE⟩ := hrel
      have HA := Lib.hid ha
      have HE := Lib.hid hE
      clear ha hE
      by_cases hlt : k < l.length
      · obtain ⟨x, hx⟩ := some_of_lt hlt
        obtain ⟨c0, c1⟩ := load_pt HC.out hx
        replace c0 := HE.out.cell c0
        replace c1 := HE.out.cell c1
        have hbl := lt_of_cell c0
        have CALL := HPP.out wr x HE.out (mem_of_some hx)
        have HX := Lib.hid hx
        clear hx
        cases hpx : p x
        · rw [hpx] at CALL
          replace CALL := Lib.hid CALL
          have HPX := Lib.hid hpx
          clear hpx
          go_wp2_with (go_at_fn g; refine CALL.out.mono ?_; rintro e w1 ⟨rfl, h1⟩)
          go_roundw
          case rel => exact ⟨k + 1, by omega, by go_num, any_take HX.out HA.out HPX.out, HE.out.trans h1⟩
          case measure => simp [intOf]; omega
        · rw [hpx] at CALL
          replace CALL := Lib.hid CALL
          have HPX := Lib.hid hpx
          clear hpx
          go_wp2_with (go_at_fn g; refine CALL.out.mono ?_; rintro e w1 ⟨rfl, h1⟩)
          go_ret
          exact ⟨ret_int (idxP_hit HA.out HX.out HPX.out), HE.out.trans h1⟩
      · have HM := Lib.hid (idxP_miss (any_end HA.out (show l.length ≤ k by omega)))
        go_wp2
        go_ret
        exact ⟨ret_int HM.out, HE.out⟩
set_option maxRecDepth 100000 in
set_option maxHeartbeats 1600000 in
theorem idxHull_c (g : Nat) (lb : Array Value) (eg : ∀ args w, (callFunc g args).run Try.prog w = .ok (.enter g args) w) (p : HPt → Bool) (v : Value) (l : List HPt) (w : World) (hs : Pts w v l) (hn : l.length ≤ 1000000)
    (hp : ∀ W x, Ext w W → x ∈ l → Calls Try.prog g (#[.agg #[.int .i64 x.1, .int .i64 x.2]] ++ lb) W fun e w' => e = .returned (.bool (p x)) ∧ Ext W w') :
    Calls Try.prog 93 #[v, .func (.func g) #[] lb] w fun e w' => e = .returned (.int .i64 (idxP p l)) ∧ Ext w w' := by
  have HPP := Lib.hid hp
  clear hp
  rcases hs with ⟨a0, c0, rfl, rfl⟩ | ⟨b, off, cap, rfl, hl, hcap, hc⟩
  · have HM := Lib.hid (idxP_miss (p := p) (l := []) rfl)
    go_enter Try.func93, Try.ntmps93
    go_wp2
    go_loopw [8] (fun i wr => i = .int .i64 0 ∧ w = wr) (fun _ _ => 0)
    case atStart => exact ⟨rfl, rfl⟩
    case round =>
      obtain ⟨rfl, rfl⟩ := hrel
      go_wp2
      go_ret
      exact ⟨ret_int HM.out, Ext.refl _⟩
  · have HC := Lib.hid hc
    clear hc
    go_enter Try.func93, Try.ntmps93
    go_wp2
    go_loopw [8] (fun i wr => ∃ k : Nat, k ≤ l.length ∧ i = .int .i64 k ∧ (l.take k).any p = false ∧ Ext w wr) (fun i _ => l.length - (intOf i).toNat)
    case atStart => exact ⟨0, by omega, rfl, by simp, Ext.refl _⟩
    case round =>
      obtain ⟨k, hk, rfl, ha, hE⟩ := hrel
      have HA := Lib.hid ha
      have HE := Lib.hid hE
      clear ha hE
      by_cases hlt : k < l.length
      · obtain ⟨x, hx⟩ := some_of_lt hlt
        obtain ⟨c0, c1⟩ := load_pt HC.out hx
        replace c0 := HE.out.cell c0
        replace c1 := HE.out.cell c1
        have hbl := lt_of_cell c0
        have CALL := HPP.out wr x HE.out (mem_of_some hx)
        have HX := Lib.hid hx
        clear hx
        cases hpx : p x
        · rw [hpx] at CALL
          replace CALL := Lib.hid CALL
          have HPX := Lib.hid hpx
          clear hpx
          go_wp2_with (go_at_fn g; refine CALL.out.mono ?_; rintro e w1 ⟨rfl, h1⟩)
          go_roundw
          case rel => exact ⟨k + 1, by omega, by go_num, any_take HX.out HA.out HPX.out, HE.out.trans h1⟩
          case measure => simp [intOf]; omega
        · rw [hpx] at CALL
          replace CALL := Lib.hid CALL
          have HPX := Lib.hid hpx
          clear hpx
          go_wp2_with (go_at_fn g; refine CALL.out.mono ?_; rintro e w1 ⟨rfl, h1⟩)
          go_ret
          exact ⟨ret_int (idxP_hit HA.out HX.out HPX.out), HE.out.trans h1⟩
      · have HM := Lib.hid (idxP_miss (any_end HA.out (show l.length ≤ k by omega)))
        go_wp2
        go_ret
        exact ⟨ret_int HM.out, HE.out⟩
set_option maxHeartbeats 1600000 in
theorem hasHull_c (g : Nat) (lb : Array Value) (eg : ∀ args w, (callFunc g args).run Try.prog w = .ok (.enter g args) w) (p : HPt → Bool) (v : Value) (l : List HPt) (w : World) (hs : Pts w v l) (hn : l.length ≤ 1000000)
    (hp : ∀ W x, Ext w W → x ∈ l → Calls Try.prog g (#[.agg #[.int .i64 x.1, .int .i64 x.2]] ++ lb) W fun e w' => e = .returned (.bool (p x)) ∧ Ext W w') :
    Calls Try.prog 78 #[v, .func (.func g) #[] lb] w fun e w' => e = .returned (.bool (l.any p)) ∧ Ext w w' := by
  have C := Lib.hid (idxHull_c g lb eg p v l w hs hn hp)
  have HN := Lib.hid (idxP_nonneg (p := p) (l := l))
  generalize idxP p l = r at *
  clear hs hp eg
  go_enter Try.func78, Try.ntmps78
  go_wp2_with (go_at_call 93; refine C.out.mono ?_; rintro e w1 ⟨rfl, h1⟩)
  go_ret
  exact ⟨ret_bool HN.out, h1⟩
/-- directions for which the products are right -/
def wideN (n : HPt) : Prop := (-1073741824 ≤ n.1 ∧ n.1 ≤ 1073741824) ∧ (-1073741824 ≤ n.2 ∧ n.2 ≤ 1073741824)
def mulP (a n : HPt) : Int := a.1 * n.1 + a.2 * n.2
def provesB (h : List HPt) (p n : HPt) : Bool := !h.any (fun a => decide (mulP p n ≤ mulP a n))
theorem mul_wraps {a n : HPt} (ha : wideB a) (hn : wideN n) : IntKind.i64.wrap (a.1 * n.1) = a.1 * n.1 ∧ IntKind.i64.wrap (a.2 * n.2) = a.2 * n.2 ∧ IntKind.i64.wrap (a.1 * n.1 + a.2 * n.2) = a.1 * n.1 + a.2 * n.2 := by
  unfold wideB at ha
  unfold wideN at hn
  have k1 := Pl.mul_bd (a := a.1) (b := n.1) (A := 536870912) (B := 1073741824) (by omega) (by omega) (by omega) (by omega)
  have k2 := Pl.mul_bd (a := a.2) (b := n.2) (A := 536870912) (B := 1073741824) (by omega) (by omega) (by omega) (by omega)
  exact ⟨IntWalk.i64_in _ (by omega), IntWalk.i64_in _ (by omega), IntWalk.i64_in _ (by omega)⟩
set_option maxRecDepth 100000 in
set_option maxHeartbeats 1600000 in
theorem proves1_c (a p n : HPt) (nb pb : Nat) (w : World) (ha : wideB a) (hp : wideB p) (hn : wideN n) (n0 : w.cell? ⟨nb, 0, none⟩ = some (.int .i64 n.1)) (n1 : w.cell? ⟨nb, 1, none⟩ = some (.int .i64 n.2)) (p0 : w.cell? ⟨pb, 0, none⟩ = some (.int .i64 p.1)) (p1 : w.cell? ⟨pb, 1, none⟩ = some (.int .i64 p.2)) :
    Calls Try.prog 79 #[.agg #[.int .i64 a.1, .int .i64 a.2], .pointer (some ⟨nb, 0, none⟩), .pointer (some ⟨pb, 0, none⟩)] w fun e w' => e = .returned (.bool (decide (mulP p n ≤ mulP a n))) ∧ Ext w w' := by
  obtain ⟨e1, e2, e3⟩ := mul_wraps ha hn
  obtain ⟨e4, e5, e6⟩ := mul_wraps hp hn
  have l1 := lt_of_cell n0
  have l2 := lt_of_cell p0
  unfold mulP
  clear ha hp hn
  go_enter Try.func79, Try.ntmps79
  go_wp2
  go_ret
  exact ⟨ret_bool (by first | rfl | simp), by (repeat' (first | exact Ext.refl _ | assumption | refine Ext.alloc ?_ _ | refine Ext.drew ?_ | refine Ext.drewN ?_ _ | refine Ext.set ?_ (by first | exact Nat.le_refl _ | exact le1 _ | exact le2 _ | exact le3 _ | exact le4 _ | exact le5 _ | exact le6 _) _ | refine Ext.trans ?_ (by assumption)))⟩
set_option maxRecDepth 100000 in
set_option maxHeartbeats 1600000 in
theorem proves_c (v : Value) (h : List HPt) (p n : HPt) (w : World) (hs : Pts w v h) (hl : h.length ≤ 1000000) (hw : ∀ a ∈ h, wideB a) (hp : wideB p) (hn : wideN n) :
    Calls Try.prog 61 #[v, .agg #[.int .i64 p.1, .int .i64 p.2], .agg #[.int .i64 n.1, .int .i64 n.2]] w fun e w' => e = .returned (.bool (provesB h p n)) ∧ Ext w w' := by
  have eg : ∀ args w, (callFunc 79 args).run Try.prog w = .ok (.enter 79 args) w := enters_of Try.func79 (by kernel_rfl) rfl
  have C := Lib.hid (fun (W : World) (nb pb : Nat) (hE : Ext w W) n0 n1 p0 p1 => hasHull_c 79 #[.pointer (some ⟨nb, 0, none⟩), .pointer (some ⟨pb, 0, none⟩)] eg (fun a => decide (mulP p n ≤ mulP a n)) v h W (hs.ext hE) hl (fun W' x hx hm => proves1_c x p n nb pb W' (hw x hm) hp hn (hx.cell n0) (hx.cell n1) (hx.cell p0) (hx.cell p1)))
  unfold provesB
  generalize h.any (fun a => decide (mulP p n ≤ mulP a n)) = r at *
  clear hs hw hp hn eg
  go_enter Try.func61, Try.ntmps61
  go_wp2_with (go_at_call 78; refine (C.out _ _ _ (by (repeat' (first | exact Ext.refl _ | assumption | refine Ext.alloc ?_ _ | refine Ext.drew ?_ | refine Ext.drewN ?_ _ | refine Ext.set ?_ (by first | exact Nat.le_refl _ | exact le1 _ | exact le2 _ | exact le3 _ | exact le4 _ | exact le5 _ | exact le6 _) _ | refine Ext.trans ?_ (by assumption)))) (by go_simp) (by go_simp) (by go_simp) (by go_simp)).mono ?_; rintro e w1 ⟨rfl, h1⟩)
  go_ret
  exact ⟨rfl, Ext.trans (by (repeat' (first | exact Ext.refl _ | assumption | refine Ext.alloc ?_ _ | refine Ext.drew ?_ | refine Ext.drewN ?_ _ | refine Ext.set ?_ (by first | exact Nat.le_refl _ | exact le1 _ | exact le2 _ | exact le3 _ | exact le4 _ | exact le5 _ | exact le6 _) _ | refine Ext.trans ?_ (by assumption)))) h1⟩
end Go.Proofs.Ytkkeblgahbpmmaa
/- Contract: the normals of a hull of three corners or more. -/
namespace Go.Proofs.Ytkkeblgahbpmmaa
open Go.RowKit Go.Shelf Go.Lib Go.Maps
attribute [local go_sem] Oper.semAt_some

def nrmP (e : HPt × HPt) : HPt := (e.2.2 - e.1.2, e.1.1 - e.2.1)
def nrmL (l : List (HPt × HPt)) : List HPt := l.map nrmP
theorem nrmL_snoc (l : List (HPt × HPt)) (e : HPt × HPt) : nrmL (l ++ [e]) = nrmL l ++ [nrmP e] := by unfold nrmL; simp
set_option maxRecDepth 100000 in
set_option maxHeartbeats 8000000 in
theorem normals_big_c (v : Value) (h : List HPt) (w : World) (hs : Pts w v h) (h0 : 2 < h.length) (hn : h.length ≤ 100000) (hw : ∀ p ∈ h, wideB p) :
    Calls Try.prog 58 #[v] w fun e w' => ∃ v', e = .returned v' ∧ Pts w' v' (nrmL (edgesP h)) ∧ Ext w w' := by
  have HSQ := Lib.hid (fun W (hw : Ext w W) T t => edges_seq v h w W hs T t hn)
  rcases hs with ⟨a0, c0, rfl, rfl⟩ | ⟨b, off, cap, rfl, hl, hcap, hc⟩
  · simp at h0
  have HW := Lib.hid hw
  clear hc hw
  have g1 : ¬ (h.length : Int) = 1 := by omega
  have g2 : ¬ (h.length : Int) = 2 := by omega
  refine (callsIn_wide (n := 5)).1 ?_
  refine callsIn_of_wp_marks Try.func58 rfl trivial ?_ rfl
  simp only [Try.ntmps58, List.size_toArray, List.length_cons, List.length_nil, Nat.reduceAdd, Nat.reduceSub, Array.replicate_succ, Array.replicate_zero, List.push_toArray, List.append_toArray, List.nil_append, List.cons_append]
  refine wpIn_wide.2 ?_
  go_upto_region 3 with fail
  have E2 : Ext w (w.alloc (.cells #[.slice none 0 0] 48)) := (Ext.refl w).alloc _
  have b1 : Boxed (w.alloc (.cells #[.slice none 0 0] 48)) w.heap.size 48 (.slice none 0 0) := Boxed.new w _ _
  have z4 : (w.alloc (.cells #[.slice none 0 0] 48)).heap.size = w.heap.size + 1 := size_alloc _ _
  generalize (w.alloc (.cells #[.slice none 0 0] 48)) = W2 at *
  have SQ := HSQ.out W2 E2 (fun _ => False) 2
  have Hz4 := Lib.hid z4
  have H2 := Lib.hid (And.intro E2 b1)
  clear z4 E2 b1
  go_wp2_with fail
  refine (wpIn_wide (n := 5)).1 ?_
  refine wpIn_rangeFunc_T3 (α := HPt × HPt) (n := 5) rfl (by omega) (gf := 77) rfl trivial (enters_of Try.func77 (by kernel_rfl) rfl) SQ (Ext.refl _) (fun _ => rfl)
    (fun pre W => Ext w W ∧ ∃ vo, Boxed W w.heap.size 48 vo ∧ OwnP w.heap.size W vo (nrmL pre))
    (fun _ _ _ => False)
    (fun _ _ h => h.1) ?_ ?_ ?_ (fun _ _ _ _ _ _ h => h.elim) ⟨H2.out.1, _, H2.out.2, OwnP.none0⟩
    (fun e a' W' => ∃ H1 H2, W'.cell? ⟨H1, 0, none⟩ = some (.int .i64 e.1.1) ∧ W'.cell? ⟨H1, 1, none⟩ = some (.int .i64 e.1.2) ∧ W'.cell? ⟨H2, 0, none⟩ = some (.int .i64 e.2.1) ∧ W'.cell? ⟨H2, 1, none⟩ = some (.int .i64 e.2.2) ∧ a' = ({ tmps := #[.slice (some ⟨b, off, none⟩) h.length cap, undef, .pointer (some ⟨w.heap.size, 0, none⟩), .pointer (some ⟨H1, 0, none⟩), .pointer (some ⟨H2, 0, none⟩), undef, undef, .slice (some ⟨b, off, none⟩) h.length cap, .int .i64 h.length, .bool false, undef, undef, undef, undef, undef, .slice (some ⟨b, off, none⟩) h.length cap, .func (.func 77) #[.slice (some ⟨b, off, none⟩) h.length cap] #[], .agg #[.int .i64 e.1.1, .int .i64 e.1.2], .agg #[.int .i64 e.2.1, .int .i64 e.2.2], undef, undef, undef, undef, undef, undef, undef, undef, undef, undef, undef, undef, undef, undef, undef, undef, undef, undef, undef, undef, undef, undef, undef, undef, undef, undef, undef, undef, undef, undef, undef, undef, undef, undef, undef, undef], defers := [] } : Act)) ?_ ?_ ?_ ?_ ?_
  · exact fun s W W' ⟨h1, vo, h3, h4⟩ he => ⟨h1.trans he, vo, box_ext h3 he, h4.ext he⟩
  · exact fun s W p u cs fr ⟨h1, vo, h3, h4⟩ hp hge => ⟨h1.set (by have := Hz4.out; omega) u, vo, (Below.heap_setCell W p u _ (by have := Hz4.out; omega)).trans h3, ownsRow_setP h4 (h4.ne_obj hp (by rintro cs e; cases e)) u⟩
  · exact fun s W l o o' ⟨h1, vo, h3, h4⟩ hl hW ho => ⟨h1.put (by have := Hz4.out; omega) o', vo, (World.putObj_heap_other (by have := Hz4.out; omega)).trans h3, h4.grown (grownBy_putObj' W l o') (.inr (h4.ne_obj hW (by rintro cs rfl; cases ho)))⟩
  · exact fun e a' W0 l1 o1 o' ⟨H1, H2, h1, h2, h3, h4, h5⟩ _ hW ho => ⟨H1, H2, cell_put h1 o' hW ho, cell_put h2 o' hW ho, cell_put h3 o' hW ho, cell_put h4 o' hW ho, h5⟩
  · intro l1 e W0 K hz hK
    obtain ⟨⟨xa, xb⟩, ⟨ya, yb⟩⟩ := e
    simp only [encEd, vPt] at hK ⊢
    gi_wp2
    exact hK _ _ (((Ext.refl W0).alloc _).alloc _) ⟨W0.heap.size, W0.heap.size + 1, by go_simp, by go_simp, by go_simp, by go_simp, rfl⟩
  · rintro l1 pre e suf a' W ⟨i1, vo, i3, i4⟩ ⟨H1, H3, k1, k2, k3, k4, rfl⟩ hsp hz
    have hem : e ∈ edgesP h := by rw [hsp]; simp
    obtain ⟨m1, m2⟩ := edge_mem hem
    have d1 := HW.out _ m1
    have d2 := HW.out _ m2
    unfold wideB at d1 d2
    have q1 := IntWalk.i64_in (e.2.2 - e.1.2) (by omega)
    have q2 := IntWalk.i64_in (e.1.1 - e.2.1) (by omega)
    have hlp : (nrmL pre).length ≤ 100000 := by
      have h9 := congrArg List.length hsp
      have h8 := edgesP_len (h := h) (by omega)
      unfold nrmL
      simp at h9 ⊢
      omega
    obtain ⟨ip, hi0, hii⟩ := Option.map_eq_some_iff.1 infoPoint
    simp only [Prod.mk.injEq] at hii
    obtain ⟨hi1, hi2, hi3⟩ := hii
    obtain ⟨Ao, co, rfl, hlo⟩ := i4.shape
    have y8 := i3.cell
    have f8 := i3.frozen
    have HSN := Lib.hid (nrmL_snoc pre e)
    have hown := i4
    unfold OwnP at hown
    have HOW := Lib.hid hown
    have HBX := Lib.hid i3
    have HI := Lib.hid i1
    have zW : w.heap.size < W.heap.size := (Array.getElem?_eq_some_iff.1 i3).1
    have hz1 := Hz4.out
    clear hown i1 i3 i4 hsp hem m1 m2 d1 d2
    gi_wp2_with (gi_at_builtin; refine wpListIn_append_own _ rfl _ _ 48 rfl w.heap.size 52 ip _ 2 16 Try.underlying48 hi0 hi1 hi2 hi3 rfl (by decide) _ _ _ rfl (HOW.out.alloc _) ⟨W.heap.size, 0, none⟩ 1 1 [.int .i64 (e.2.2 - e.1.2), .int .i64 (e.1.1 - e.2.1)] rfl rfl (World.news_of_block (cs := #[.int .i64 (e.2.2 - e.1.2), .int .i64 (e.1.1 - e.2.1)]) (t := 52) (fr := (0, 0)) (World.alloc_heap_new W _)) (by simp [Value.oneCell']) (by unfold maxLen; omega) (by omega) (by simp; omega) ?_; intro v' w4 hown' hg3 _; obtain ⟨g', cap', rfl⟩ := ownsRow_succ hown'; have hap := Boxed.appended HBX.out (by decide) HOW.out (by omega) (by omega) hown' hg3; have hc3 := hap.1.cell; have hf3 := hap.1.frozen; replace hap := Lib.hid hap; replace hg3 := Lib.hid hg3)
    obtain ⟨p1, p2, p3, p4, p5⟩ := hap.out
    refine ⟨p4, ⟨p5.size, fun _ _ _ _ h => h.elim⟩, Below.trans HI.out p5, _, p2, ?_⟩
    rw [HSN.out]
    exact OwnP.snoc p3
  · rintro D W hD ⟨j1, vo, j3, j4⟩ hDD
    have hz := Hz4.out
    obtain ⟨Ao, co, rfl, _⟩ := j4.shape
    have y3 := j3.cell
    have f3 := j3.frozen
    have HJ := Lib.hid (And.intro j1 (And.intro j3 j4))
    have hDD' := Lib.hid hDD
    clear j1 j3 j4 hDD
    refine (‹∀ (a : Act) (w : World), Code.wp Try.prog _ _ a w → _›) _ _ ?_
    go_wp2_with fail
    have hD5 := lb_old (i := 0) (u := .slice Ao (nrmL (edgesP h)).length co) hDD'.out (show D ≠ w.heap.size by omega)
    have bR5 := HJ.out.2.1.set (.slice Ao (nrmL (edgesP h)).length co)
    have hx := ownsRow_setP (p := ⟨w.heap.size, 0, none⟩) HJ.out.2.2 (HJ.out.2.2.ne_obj HJ.out.2.1 (by rintro cs e; cases e)) (.slice Ao (nrmL (edgesP h)).length co)
    have e5 := HJ.out.1.set (p := ⟨w.heap.size, 0, none⟩) (by simp) (.slice Ao (nrmL (edgesP h)).length co)
    have r6 : ((W.setCell ⟨w.heap.size, 0, none⟩ (.slice Ao (nrmL (edgesP h)).length co)).putObj D (.deferred none)).heap[w.heap.size]? = _ := (World.putObj_heap_other (by omega)).trans bR5
    have n0 : ((W.setCell ⟨w.heap.size, 0, none⟩ (.slice Ao (nrmL (edgesP h)).length co)).putObj D (.deferred none)).cell? ⟨w.heap.size, 0, none⟩ = some (.slice Ao (nrmL (edgesP h)).length co) := lb_cell r6 0 _ rfl
    have hx2 := OwnP.grown hx (grownBy_putObj' _ D (.deferred none)) (.inr (OwnP.ne_obj hx hD5 (by rintro cs e; cases e)))
    refine ⟨by simp, .inl ⟨_, _, rfl, run_takeDeferred hD5, ?_⟩⟩
    refine ⟨.slice Ao (nrmL (edgesP h)).length co, by simp [results, Try.results58, go_sem, n0], ?_⟩
    exact ⟨_, rfl, OwnP.pts hx2, e5.put (by omega) _⟩
  · exact fun _ _ _ _ _ h _ => h.elim
end Go.Proofs.Ytkkeblgahbpmmaa
/- Contract: Hold where there are no lashings, of a valid load in a valid shake. -/
namespace Go.Proofs.Ytkkeblgahbpmmaa
open Go.RowKit Go.Shelf Go.Lib

def reachN (l : LLoad) (c : Int) : List HPt := cornersP (fricL ((massN l.pieces * c).tdiv 1000) l.friction 0 0)
theorem pts_shape {w : World} {v : Value} {l : List HPt} (h : Pts w v l) : ∃ (A : Option Addr) (c : Nat), v = .slice A l.length c := by
  rcases h with ⟨a, c, rfl, rfl⟩ | ⟨b, off, cap, rfl, _⟩
  · exact ⟨a, c, rfl⟩
  · exact ⟨_, _, rfl⟩
/-- reads as points, in a block between two marks -/
def PtsIn (lo hi : Nat) (w : World) (v : Value) (l : List HPt) : Prop := Pts w v l ∧ (l = [] ∨ ∀ k, v.ownBlock = some k → lo ≤ k ∧ k < hi)
theorem PtsIn.of {lo : Nat} {w : World} {v : Value} {l : List HPt} (h : Pts w v l) (hf : Fresh lo v) : PtsIn lo w.heap.size w v l := by
  refine ⟨h, ?_⟩
  rcases h with ⟨a, c, rfl, rfl⟩ | ⟨b, off, cap, rfl, hl, hc, hp⟩
  · exact .inl rfl
  · by_cases h0 : l = []
    · exact .inl h0
    · refine .inr (fun k hk => ⟨hf k hk, ?_⟩)
      have := hp 0 (List.length_pos_iff.2 h0)
      have h2 := World.block_lt_of_cell? _ _ this.1
      simp [Value.ownBlock] at hk
      simp only at h2
      omega
theorem PtsIn.ext {lo hi : Nat} {w w' : World} {v : Value} {l : List HPt} (h : PtsIn lo hi w v l) (he : Ext w w') : PtsIn lo hi w' v l := ⟨h.1.ext he, h.2⟩
theorem PtsIn.set {lo hi b i : Nat} {w : World} {u v : Value} {l : List HPt} (h : PtsIn lo hi w v l) (hb : b < lo ∨ hi ≤ b) : PtsIn lo hi (w.setCell ⟨b, i, none⟩ u) v l := by
  refine ⟨?_, h.2⟩
  obtain ⟨h1, h2⟩ := h
  rcases h2 with rfl | h2
  · rcases h1 with h | ⟨g, off, cap, rfl, hl, hc, hp⟩
    · exact .inl h
    · exact .inl ⟨_, _, rfl, rfl⟩
  · rcases h1 with h | ⟨g, off, cap, rfl, hl, hc, hp⟩
    · exact .inl h
    · have hne := h2 g (by simp [Value.ownBlock])
      exact .inr ⟨g, off, cap, rfl, hl, hc, fun j hj => ⟨cell_set_ne (by simp only; omega) (hp j hj).1, cell_set_ne (by simp only; omega) (hp j hj).2⟩⟩
theorem PtsIn.pts {lo hi : Nat} {w : World} {v : Value} {l : List HPt} (h : PtsIn lo hi w v l) : Pts w v l := h.1
theorem PtsIn.alloc {lo hi : Nat} {w : World} {v : Value} {l : List HPt} (h : PtsIn lo hi w v l) (o : Obj) : PtsIn lo hi (w.alloc o) v l := h.ext ((Ext.refl _).alloc _)
theorem PtsIn.drew {lo hi : Nat} {w : World} {v : Value} {l : List HPt} (h : PtsIn lo hi w v l) : PtsIn lo hi w.drew v l := h.ext ((Ext.refl _).drew)
theorem lb_setE {W : World} {b : Nat} {t : TypeId} {cs cs0 : Array Value} {i : Nat} {u : Value} (h : W.heap[b]? = some (.cells cs0 t (0, 0))) (e : cs0.setIfInBounds i u = cs) : (W.setCell ⟨b, i, none⟩ u).heap[b]? = some (.cells cs t (0, 0)) := e ▸ lb_set i u h
theorem lb_newE (W : World) (o : Obj) {b : Nat} (h : b = W.heap.size) : (W.alloc o).heap[b]? = some o := h ▸ lb_new W o
theorem lb_drew {W : World} {b : Nat} {o : Obj} (h : W.heap[b]? = some o) : W.drew.heap[b]? = some o := h
set_option maxRecDepth 100000 in
set_option maxHeartbeats 1600000 in
theorem hold1_c (x p : HPt) (ba bb : Nat) (A : Option Addr) (n c : Nat) (h : List HPt) (w : World) (hs : Pts w (.slice A n c) h) (a0 : w.cell? ⟨ba, 0, none⟩ = some (.slice A n c)) (b0 : w.cell? ⟨bb, 0, none⟩ = some (.int .i64 p.1)) (b1 : w.cell? ⟨bb, 1, none⟩ = some (.int .i64 p.2))
    (hl : h.length ≤ 1000000) (hw : ∀ a ∈ h, wideB a) (hp : wideB p) (hn : wideN x) :
    Calls Try.prog 60 #[.agg #[.int .i64 x.1, .int .i64 x.2], .pointer (some ⟨ba, 0, none⟩), .pointer (some ⟨bb, 0, none⟩)] w fun e w' => e = .returned (.bool (provesB h p x)) ∧ Ext w w' := by
  have C := Lib.hid (fun W (hE : Ext w W) => proves_c (.slice A n c) h p x W (hs.ext hE) hl hw hp hn)
  have la := lt_of_cell a0
  have lb := lt_of_cell b0
  obtain ⟨p1, p2⟩ := p
  obtain ⟨x1, x2⟩ := x
  clear hs hw hp hn
  generalize provesB h (p1, p2) (x1, x2) = r at *
  go_enter Try.func60, Try.ntmps60
  go_wp2_with (go_at_call 61; refine (C.out _ (by (repeat' (first | exact Ext.refl _ | assumption | refine Ext.alloc ?_ _ | refine Ext.drew ?_ | refine Ext.drewN ?_ _ | refine Ext.set ?_ (by first | exact Nat.le_refl _ | exact le1 _ | exact le2 _ | exact le3 _ | exact le4 _ | exact le5 _ | exact le6 _) _ | refine Ext.trans ?_ (by assumption))))).mono ?_; rintro e w2 ⟨rfl, h2⟩)
  go_ret
  exact ⟨rfl, Ext.trans (by (repeat' (first | exact Ext.refl _ | assumption | refine Ext.alloc ?_ _ | refine Ext.drew ?_ | refine Ext.drewN ?_ _ | refine Ext.set ?_ (by first | exact Nat.le_refl _ | exact le1 _ | exact le2 _ | exact le3 _ | exact le4 _ | exact le5 _ | exact le6 _) _ | refine Ext.trans ?_ (by assumption)))) h2⟩
theorem nrm_wide {h : List HPt} (hw : ∀ a ∈ h, wideB a) : ∀ x ∈ nrmL (edgesP h), wideN x := by
  intro x hx
  unfold nrmL at hx
  obtain ⟨e, he, rfl⟩ := List.mem_map.1 hx
  obtain ⟨m1, m2⟩ := edge_mem he
  have k1 := hw _ m1
  have k2 := hw _ m2
  unfold wideB at k1 k2
  unfold wideN nrmP
  simp only
  omega
/-- what Hold answers: that p lies in h, or a direction that proves that it does not -/
def HoldAns (h : List HPt) (p : HPt) (z : Int) (q : HPt) : Prop :=
  (containsB h p.1 p.2 1 = true ∧ z = 0 ∧ q = (0, 0)) ∨ (containsB h p.1 p.2 1 = false ∧ 2 < h.length ∧ z = 20 ∧ ∃ k : Nat, idxP (fun n => provesB h p n) (nrmL (edgesP h)) = (k : Int) ∧ (nrmL (edgesP h))[k]? = some q)
theorem pts_some {w : World} {v : Value} {l : List HPt} (h : Pts w v l) (h0 : l ≠ []) : ∃ b off cap, v = .slice (some ⟨b, off, none⟩) l.length cap ∧ PtCells w b off l := by
  rcases h with ⟨a, c, rfl, rfl⟩ | ⟨b, off, cap, rfl, _, _, hp⟩
  · exact absurd rfl h0
  · exact ⟨b, off, cap, rfl, hp⟩
theorem nrm_len (h : List HPt) : (nrmL (edgesP h)).length ≤ h.length := by
  unfold nrmL edgesP
  split <;> simp
theorem cont_of {h : List HPt} {p : HPt} (hw : ∀ a ∈ h, wideB a) (hp : wideB p) : ContOk h p.1 p.2 1 536870912 1073741824 := by
  refine ⟨fun a ha => ?_, fun a ha => ?_, by decide, by decide, by decide⟩
  · have := hw a ha
    unfold wideB at this
    exact this
  · have := hw a ha
    unfold wideB at this hp
    omega
set_option maxRecDepth 100000 in
set_option maxHeartbeats 6400000 in
theorem hold_nil_of (l : LLoad) (vp ve : Value) (a b c z : Int) (q : HPt) (w : World) (hl : IsLoad w l vp ve) (hE : loadE l = 0) (hs : steadyB a b c = true) (h1 : 0 < (reachN l c).length) (h2 : (reachN l c).length ≤ 1000) (hw : ∀ a ∈ reachN l c, wideB a) (hp : wideB (needP (massN l.pieces) a b))
    (hres : HoldAns (reachN l c) (needP (massN l.pieces) a b) z q) :
    Calls Try.prog 26 #[loadV l vp ve, .slice none 0 0, .agg #[.int .i64 a, .int .i64 b, .int .i64 c]] w fun e w' => e = .returned (.tuple #[.agg #[.int .i64 q.1, .int .i64 q.2], .int .i64 z]) ∧ Ext w w' := by
  have HRES := Lib.hid hres
  have HW := Lib.hid (And.intro h1 (And.intro h2 (And.intro hw hp)))
  clear hres h1 h2 hw hp
  have K := load_ok hE
  have hst := hs
  unfold steadyB at hst
  simp only [Bool.and_eq_true] at hst
  obtain ⟨t1, t2, t3⟩ := hst
  have t1 := inB_iff.1 t1
  have t2 := inB_iff.1 t2
  have t3 := inB_iff.1 t3
  have NR := Lib.hid (fun W (h : Ext w W) => newRig_nil_c l vp ve W (hl.ext h))
  have ST := fun W => steady_c a b c W
  rw [hs] at ST
  replace ST := Lib.hid ST
  have RC := fun (W : World) (rb : Nat) (fv : Value) hr => reach_nil_c l vp ve fv (massN l.pieces) rb a b c W hr K.fr ⟨by have := K.mass; omega, K.mass.2⟩ t3
  have hRN : cornersP (fricL ((massN l.pieces * c).tdiv 1000) l.friction 0 0) = reachN l c := rfl
  simp only [hRN] at RC
  clear hRN
  replace RC := Lib.hid RC
  have ND := Lib.hid (fun W => need_c (massN l.pieces) a b c W ⟨by have := K.mass; omega, K.mass.2⟩ t1 t2)
  have HE := Lib.hid hE
  obtain ⟨A, cap, rfl, hl1, hl2⟩ := hl.pieces.shape
  obtain ⟨B, cbp, rfl, hm1, hm2⟩ := hl.eyes.shape
  clear hl hs K t1 t2 t3 hE
  unfold loadV at *
  go_enter Try.func26, Try.ntmps26
  go_upto_region 6 with (first
    | (go_at_call 52; refine (NR.out _ (by (repeat' (first | exact Ext.refl _ | assumption | refine Ext.alloc ?_ _ | refine Ext.drew ?_ | refine Ext.drewN ?_ _ | refine Ext.set ?_ (by first | exact Nat.le_refl _ | exact le1 _ | exact le2 _ | exact le3 _ | exact le4 _ | exact le5 _ | exact le6 _) _ | refine Ext.trans ?_ (by assumption))))).mono ?_; rintro e w2 ⟨h2, ⟨h0, _⟩ | ⟨_, rb, rfl, h3⟩⟩; exact absurd HE.out h0; have e2 := Ext.trans ((((Ext.refl w).alloc _).alloc _).alloc _) h2; have b3 := lb_ext (lb_alloc (lb_new _ _) _) h2; have b4 := lb_ext (lb_new _ _) h2; simp only [size_alloc] at b3 b4; have s0 := lb_cell b3 0 _ rfl; have s1 := lb_cell b3 1 _ rfl; have s2 := lb_cell b3 2 _ rfl; clear h2)
    | (go_at_call 53; refine (ST.out _).mono ?_; rintro e w4 ⟨rfl, h4⟩))
  have g5 := lb_ext h3 h4
  have r5 := lb_ext b4 h4
  have c4 : w4.cell? ⟨rb, 4, none⟩ = some (.int .i64 (massN l.pieces)) := lb_cell g5 4 _ rfl
  replace s0 := h4.cell s0
  replace s1 := h4.cell s1
  replace s2 := h4.cell s2
  have l1 := lb_lt g5
  have l2 := lb_lt (lb_ext b3 h4)
  have H5 := Lib.hid (And.intro g5 (And.intro r5 (e2.trans h4)))
  clear g5 r5 b3 b4 h3 h4 e2 NR ST
  go_cut [10, 11] from 27 to 35 (fun sa sb wc => ∃ (ba bb : Nat) (v : Value), sa = .pointer (some ⟨ba, 0, none⟩) ∧ sb = .pointer (some ⟨bb, 0, none⟩) ∧ Ext w4 wc ∧ wc.heap[ba]? = some (.cells #[v] 97 (0, 0)) ∧ wc.heap[bb]? = some (.cells #[.int .i64 (needP (massN l.pieces) a b).1, .int .i64 (needP (massN l.pieces) a b).2] 52 (0, 0)) ∧ Pts wc v (reachN l c))
  case first =>
    go_region_held3 (fun w' => w'.cell? ⟨rb, 4, none⟩ = some (.int .i64 (massN l.pieces)) ∧ w'.cell? ⟨w.heap.size + 1, 0, none⟩ = some (.int .i64 a) ∧ w'.cell? ⟨w.heap.size + 1, 1, none⟩ = some (.int .i64 b) ∧ w'.cell? ⟨w.heap.size + 1, 2, none⟩ = some (.int .i64 c))
      (exact (fun (E : Ext w4 _) => ⟨E.cell c4, E.cell s0, E.cell s1, E.cell s2⟩) (by (repeat' (first | exact Ext.refl _ | assumption | refine Ext.alloc ?_ _ | refine Ext.drew ?_ | refine Ext.set ?_ (show _ ≤ _ by simp only; omega) _ | refine Ext.trans ?_ (by assumption)))))
      (first
        | (go_at_call 54; refine (RC.out _ rb _ (lb_ext H5.out.1 (by (repeat' (first | exact Ext.refl _ | assumption | refine Ext.alloc ?_ _ | refine Ext.drew ?_ | refine Ext.drewN ?_ _ | refine Ext.set ?_ (by first | exact Nat.le_refl _ | exact le1 _ | exact le2 _ | exact le3 _ | exact le4 _ | exact le5 _ | exact le6 _) _ | refine Ext.trans ?_ (by assumption)))))).mono ?_; rintro e w6 ⟨v6, rfl, hp6, h6, hf6⟩; have HP6 := PtsIn.of hp6 hf6; (try simp only [size_drew] at HP6); (try simp only [size_alloc] at HP6); (try simp only [size_drew] at HP6); clear hp6 hf6; have hp6 := HP6.1; obtain ⟨A6, c6, rfl⟩ := pts_shape hp6; have e6 : Ext w4 w6 := Ext.trans (by (repeat' (first | exact Ext.refl _ | assumption | refine Ext.alloc ?_ _ | refine Ext.drew ?_ | refine Ext.drewN ?_ _ | refine Ext.set ?_ (by first | exact Nat.le_refl _ | exact le1 _ | exact le2 _ | exact le3 _ | exact le4 _ | exact le5 _ | exact le6 _) _ | refine Ext.trans ?_ (by assumption)))) h6; (try ((first | have pa := lb_ext (lb_new _ _) h6 | have pa := lb_ext (lb_drew (lb_new _ _)) h6); (try simp only [size_drew] at pa); (try simp only [size_alloc] at pa); (try simp only [size_drew] at pa); have pa0 := lb_cell pa 0 _ rfl; have paf := lb_frz pa 0; have pal := lb_lt pa; have pag := lb_frz pa 1; (try have pa1 := lb_cell pa 1 _ rfl))); (try ((first | have pb := lb_ext (lb_alloc (lb_new _ _) _) h6 | have pb := lb_ext (lb_drew (lb_alloc (lb_new _ _) _)) h6); (try simp only [size_drew] at pb); (try simp only [size_alloc] at pb); (try simp only [size_drew] at pb); have pb0 := lb_cell pb 0 _ rfl; have pbf := lb_frz pb 0; have pbl := lb_lt pb; have pbg := lb_frz pb 1; (try have pb1 := lb_cell pb 1 _ rfl))); have z6 := h6.size; (try simp only [size_alloc, size_drew] at z6); clear h6 hp6; replace HP6 := Lib.hid HP6)
        | (go_at_call 56; refine (ND.out _).mono ?_; rintro e w7 ⟨rfl, h7⟩; have e7 : Ext w4 w7 := Ext.trans (by (repeat' (first | exact Ext.refl _ | assumption | refine Ext.alloc ?_ _ | refine Ext.drew ?_ | refine Ext.drewN ?_ _ | refine Ext.set ?_ (by first | exact Nat.le_refl _ | exact le1 _ | exact le2 _ | exact le3 _ | exact le4 _ | exact le5 _ | exact le6 _) _ | refine Ext.trans ?_ (by assumption)))) h7; have e67 : Ext w6 w7 := Ext.trans (by (repeat' (first | exact Ext.refl _ | assumption | refine Ext.alloc ?_ _ | refine Ext.drew ?_ | refine Ext.drewN ?_ _ | refine Ext.set ?_ (by first | exact Nat.le_refl _ | exact le1 _ | exact le2 _ | exact le3 _ | exact le4 _ | exact le5 _ | exact le6 _) _ | refine Ext.trans ?_ (by assumption)))) h7; have HP7 := Lib.hid (HP6.out.ext e67); (try (have pa := lb_ext pa e67; replace pa0 := lb_cell pa 0 _ rfl; replace paf := lb_frz pa 0; replace pag := lb_frz pa 1; replace pal := lb_lt pa; (try replace pa1 := lb_cell pa 1 _ rfl))); (try (have pb := lb_ext pb e67; replace pb0 := lb_cell pb 0 _ rfl; replace pbf := lb_frz pb 0; replace pbg := lb_frz pb 1; replace pbl := lb_lt pb; (try replace pb1 := lb_cell pb 1 _ rfl))); (try ((first | have qa := lb_ext (lb_new _ _) h7 | have qa := lb_ext (lb_drew (lb_new _ _)) h7); (try simp only [size_drew] at qa); (try simp only [size_alloc] at qa); (try simp only [size_drew] at qa); have qa0 := lb_cell qa 0 _ rfl; have qaf := lb_frz qa 0; have qal := lb_lt qa; have qag := lb_frz qa 1; (try have qa1 := lb_cell qa 1 _ rfl))); (try ((first | have qb := lb_ext (lb_alloc (lb_new _ _) _) h7 | have qb := lb_ext (lb_drew (lb_alloc (lb_new _ _) _)) h7); (try simp only [size_drew] at qb); (try simp only [size_alloc] at qb); (try simp only [size_drew] at qb); have qb0 := lb_cell qb 0 _ rfl; have qbf := lb_frz qb 0; have qbl := lb_lt qb; have qbg := lb_frz qb 1; (try have qb1 := lb_cell qb 1 _ rfl))); have z7 := h7.size; (try simp only [size_alloc] at z7); clear h7))
    all_goals
      go_wp2_with fail
      go_meet
      refine ⟨_, _, .slice A6 (reachN l c).length c6, rfl, rfl, ?_, ?_, ?_, ?_⟩
      · (repeat' (first | exact Ext.refl _ | assumption | refine Ext.alloc ?_ _ | refine Ext.drew ?_ | refine Ext.set ?_ (show _ ≤ _ by simp only; omega) _ | refine Ext.trans ?_ (by assumption)))
      · (repeat' (first | with_reducible exact pa | with_reducible exact pb | with_reducible exact qa | with_reducible exact qb | with_reducible refine lb_drew ?_ | with_reducible refine lb_old ?_ (show _ ≠ _ by omega) | with_reducible apply lb_setE | with_reducible refine lb_newE _ _ (by first | (with_reducible rfl) | simp only [size_alloc] | simp only [size_setCell] | simp only [size_alloc, size_setCell]) | with_reducible refine lb_alloc ?_ _ | rfl))
      · (repeat' (first | with_reducible exact pa | with_reducible exact pb | with_reducible exact qa | with_reducible exact qb | with_reducible refine lb_drew ?_ | with_reducible refine lb_old ?_ (show _ ≠ _ by omega) | with_reducible apply lb_setE | with_reducible refine lb_newE _ _ (by first | (with_reducible rfl) | simp only [size_alloc] | simp only [size_setCell] | simp only [size_alloc, size_setCell]) | with_reducible refine lb_alloc ?_ _ | rfl))
      · apply PtsIn.pts
        (repeat' (first | with_reducible exact HP7.out | with_reducible apply PtsIn.set | with_reducible apply PtsIn.alloc | with_reducible apply PtsIn.drew | omega))
  case rest =>
    obtain ⟨ba, bb, v, rfl, rfl, E1, hA, hB, HP⟩ := hcut
    obtain ⟨A6, c6, rfl⟩ := pts_shape HP
    have a0 := lb_cell hA 0 _ rfl
    have b0 := lb_cell hB 0 _ rfl
    have b1 := lb_cell hB 1 _ rfl
    have la := lb_lt hA
    have lb := lb_lt hB
    have bR := lb_ext H5.out.2.1 E1
    have EW := H5.out.2.2.trans E1
    have y0 := lb_cell bR 0 _ rfl
    have y1 := lb_cell bR 1 _ rfl
    have f0 := lb_frz bR 0
    have f1 := lb_frz bR 1
    have hlt := lb_lt bR
    obtain ⟨h1, h2, hw, hp⟩ := HW.out
    have CO := contains_c (.slice A6 (reachN l c).length c6) (reachN l c) (needP (massN l.pieces) a b).1 (needP (massN l.pieces) a b).2 1 536870912 1073741824 wc HP h1 (by omega) (cont_of hw hp)
    have NO := fun (g : 2 < (reachN l c).length) W (hE : Ext wc W) => normals_big_c (.slice A6 (reachN l c).length c6) (reachN l c) W (HP.ext hE) g (by omega) hw
    have HO := Lib.hid (fun W (hE : Ext wc W) x (hx : x ∈ nrmL (edgesP (reachN l c))) => hold1_c x (needP (massN l.pieces) a b) ba bb A6 (reachN l c).length c6 (reachN l c) W (HP.ext hE) (hE.cell a0) (hE.cell b0) (hE.cell b1) (by omega) hw hp (nrm_wide hw x hx))
    have HL := nrm_len (reachN l c)
    have hLL := h2
    have HRR := HRES.out
    unfold HoldAns at HRR
    generalize hh : reachN l c = h at *
    generalize hpp : needP (massN l.pieces) a b = p at *
    obtain ⟨p1, p2⟩ := p
    have HPP := Lib.hid HP
    have HB := Lib.hid (And.intro hA (And.intro hB bR))
    clear hA hB bR HP hh hpp h1 h2 hw hp c4 s0 s1 s2 H5 HRES HW E1 l1 l2 RC ND
    simp only at *
    rcases HRR with ⟨hc, rfl, rfl⟩ | ⟨hc, h3, rfl, k, hk1, hk2⟩
    · rw [hc] at CO
      replace CO := Lib.hid CO
      clear hc NO HO HL
      go_wp2_with (go_at_call 57; refine CO.out.mono ?_; rintro e w8 ⟨rfl, h8⟩; replace y0 := h8.cell y0; replace y1 := h8.cell y1; clear f0 f1 hlt; have f0 := lb_frz (lb_ext HB.out.2.2 h8) 0; have f1 := lb_frz (lb_ext HB.out.2.2 h8) 1; have hlt := lb_lt (lb_ext HB.out.2.2 h8))
      have e8 := EW.trans h8
      exact bodyPost_ret (v := .tuple #[.agg #[.int .i64 0, .int .i64 0], .int .i64 0]) (by simp [results, Try.results26, go_sem, y0, y1]) rfl ⟨rfl, (e8.set (by simp; try omega) _).set (by simp; try omega) _⟩
    · rw [hc] at CO
      replace CO := Lib.hid CO
      replace NO := Lib.hid (NO h3)
      have HK := Lib.hid (And.intro hk1 hk2)
      clear hc hk1 hk2 h3
      have hlt2 := lt_of_some HK.out.2
      have hne : nrmL (edgesP h) ≠ [] := fun e => by rw [e] at hlt2; simp at hlt2
      have HNE := Lib.hid hne
      have eg : ∀ args w, (callFunc 60 args).run Try.prog w = .ok (.enter 60 args) w := enters_of Try.func60 (by kernel_rfl) rfl
      obtain ⟨NN, hNN⟩ : ∃ NN, nrmL (edgesP h) = NN := ⟨_, rfl⟩
      rw [hNN] at NO HO HK HNE HL hlt2
      clear hne hNN
      go_upto_region 10 with (first
        | (go_at_call 57; refine CO.out.mono ?_; rintro e w8 ⟨rfl, h8⟩; replace a0 := h8.cell a0; clear CO b0 b1 y0 y1 f0 f1)
        | (go_at_call 58; refine (NO.out _ h8).mono ?_; rintro e w9 ⟨v9, rfl, hp9, h9⟩; obtain ⟨b9, o9, c9, rfl, hc9⟩ := pts_some hp9 HNE.out; replace hp9 := Lib.hid hp9; replace hc9 := Lib.hid hc9))
      have e9 := h8.trans h9
      have IX := idxPts_c 60 #[.pointer (some ⟨ba, 0, none⟩), .pointer (some ⟨bb, 0, none⟩)] eg (fun n => provesB h (p1, p2) n) _ NN w9 hp9.out (by omega) (fun W x hE hx => HO.out W (e9.trans hE) x hx)
      rw [HK.out.1] at IX
      obtain ⟨x0, x1⟩ := load_pt hc9.out HK.out.2
      have E9 := Lib.hid e9
      replace IX := Lib.hid IX
      have hb9 := lt_of_cell x0
      clear h8 h9 e9 a0 eg
      go_wp2_with (go_at_call 59; refine IX.out.mono ?_; rintro e w10 ⟨rfl, h10⟩; have e10 := E9.out.trans h10; replace x0 := h10.cell x0; replace x1 := h10.cell x1; have hb10 := lt_of_cell x0; have y0 := lb_cell (lb_ext HB.out.2.2 e10) 0 _ rfl; have y1 := lb_cell (lb_ext HB.out.2.2 e10) 1 _ rfl; have f0 := lb_frz (lb_ext HB.out.2.2 e10) 0; have f1 := lb_frz (lb_ext HB.out.2.2 e10) 1; have hlt3 := lb_lt (lb_ext HB.out.2.2 e10))
      have e11 := EW.trans e10
      exact bodyPost_ret (v := .tuple #[.agg #[.int .i64 q.1, .int .i64 q.2], .int .i64 20]) (by simp [results, Try.results26, go_sem, y0, y1]) rfl ⟨rfl, (e11.set (by simp; try omega) _).set (by simp; try omega) _⟩
end Go.Proofs.Ytkkeblgahbpmmaa
