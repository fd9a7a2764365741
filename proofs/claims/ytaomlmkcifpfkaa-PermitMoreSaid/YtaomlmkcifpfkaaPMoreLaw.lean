/- The law PermitMore, walked. -/
import Derived.Test.YtaomlmkcifpfkaaPMoreMath
import Derived.Test.YtaomlmkcifpfkaaPRCures
import Derived.Test.YtaomlmkcifpfkaaPKnown
import Derived.Deep.RegionHeld3
import Derived.Deep.RegionLaw
import Derived.BigQuiet
import Derived.Deep.Upon
namespace Go.Proofs.Ytaomlmkcifpfkaa
open Go.RowKit Go.Shelf Go.Maps
attribute [local go_sem ↓] Go.wp_at_zero Go.wp_at_succ

theorem infoAuth : (Try.prog.info? 64).map (fun i => (i.zero, i.size, i.bytes)) = some (some (.agg #[.string ⟨#[]⟩, .int .i64 0, .int .i64 0, .slice none 0 0]), 4, 56) := by kernel_rfl
/-- an authority of the call's own: its rules lie in a row of the call's own -/
def RM (w0 : World) (B : Nat) (w : World) (cs : List Value) (a : PAuth) : Prop := ∃ v, cs = [.string a.name, .int .i64 a.fee, .int .i64 a.notice, v] ∧ OwnL 11 58 (fun _ => RRule w0) B w v a.rules
theorem RM.ext {w0 W W' : World} {B : Nat} {cs : List Value} {a : PAuth} (h : RM w0 B W cs a) (he : Ext W W') : RM w0 B W' cs a := by
  obtain ⟨v, e, h1⟩ := h
  exact ⟨v, e, h1.ext (fun _ _ _ _ _ h => h) he⟩
theorem RM.stable {w0 : World} {B : Nat} : Stable (RM w0 B) := fun _ _ _ _ he h => h.ext he
theorem RM.auth {w0 W : World} {B : Nat} {cs : List Value} {a : PAuth} (h : RM w0 B W cs a) (he : Ext w0 W) : RAuth W cs a := by
  obtain ⟨v, e, h1⟩ := h
  exact ⟨v, e, (h1.to (R' := RRule) (fun cs x h => RRule.stable _ _ _ _ he h)).sl⟩
/-- the rows stay when their list is appended to -/
theorem RM.grown {w0 W W' : World} {B : Nat} {cs : List Value} {a : PAuth} {b n : Nat} {v : Value} {m : Nat} {xs : List Value} (h : RM w0 B W cs a) (ho : W.ownsRow b 64 n v m xs) (hg : W.grownBy W' v.ownBlock) : RM w0 B W' cs a := by
  obtain ⟨vr, e, k1⟩ := h
  obtain ⟨c1, c2, o1, c3⟩ := k1
  exact ⟨vr, e, OwnL.grown ⟨c1, c2, o1, c3⟩ (fun _ _ k => k) hg (fun g e => own_types o1 ho (by decide) e)⟩
/-- a box of another type is stored into -/
theorem RM.set {w0 W : World} {B X o : Nat} {cs : List Value} {a : PAuth} {t : TypeId} {row : Array Value} {fr : Nat × Nat} (h : RM w0 B W cs a) (hX : W.heap[X]? = some (.cells row t fr)) (ht : t ≠ 58) (u : Value) : RM w0 B (W.setCell ⟨X, o, none⟩ u) cs a := by
  obtain ⟨vr, e, k1⟩ := h
  refine ⟨vr, e, k1.set' (fun _ _ k => k) (fun hb => ?_)⟩
  obtain ⟨_, _, o1, _⟩ := k1
  rcases o1.2 with ⟨rfl, _⟩ | ⟨g, cap, cur, rfl, _, hh, _⟩
  · simp [Value.ownBlock] at hb
  · simp only [Value.ownBlock, Option.some.injEq] at hb
    subst hb
    rw [hX] at hh
    simp only [Option.some.injEq, Obj.cells.injEq] at hh
    exact ht hh.2.1

theorem step_append_sl {P : Program} {w : World} {ops : Array Oper} {o : Oper} {a : Act} {K : Act → World → Prop} {Q : Exit → Act → World → Prop} {E : Prop} (hgd : o.guard = none) (s x : Operand) (t : TypeId)
    (ho : o.op = .call { callee := .builtin .append, args := #[s, x], argTypes := #[t, t] })
    (base : Nat) (e : TypeId) (i : TypeInfo) (z : Value) (size bytes : Nat) (ht : P.underlying t = some (.slice e)) (hi : P.info? e = some i) (hz : i.zero = some z)
    (hsize : i.size = size) (hby : i.bytes = bytes) (hzs : z.cells.size = size) (hsz : 0 < size)
    (v : Value) (n : Nat) (xs : List Value) (hs : a.eval s = v) (hown : w.ownsRow base e size v n xs)
    (A : Option Addr) (m c : Nat) (news : List Value) (hx : a.eval x = .slice A m c) (hl : news.length = m * size) (hA : (A = none ∧ m = 0) ∨ ∃ ad, A = some ad ∧ ∀ j u, news[j]? = some u → w.cell? (ad.add j) = some u) (h1 : ∀ u ∈ news, u.oneCell' = true)
    (h63 : n + m ≤ maxLen) (hbytes : (n + m) * bytes ≤ 140737488355328) (hbase : base ≤ w.heap.size)
    (h : ∀ v' w', w'.ownsRow base e size v' (n + m) (xs ++ news) → w.grownBy w' v.ownBlock → K (a.put o.dst v') w') :
    if Region.wanted o (yielded ops a.tmps) = true then Oper.wp P o a w K Q else E := by
  rcases hA with ⟨rfl, rfl⟩ | ⟨ad, rfl, hc⟩
  · have hnil : news = [] := List.eq_nil_of_length_eq_zero (by simpa using hl)
    subst hnil
    have hw : Region.wanted o (yielded ops a.tmps) = true := by simp [Region.wanted, hgd]
    rw [if_pos hw]
    obtain ⟨A0, c0, hv, hle⟩ : ∃ (A0 : Option Addr) (c0 : Nat), v = .slice A0 n c0 ∧ n ≤ c0 := by
      rcases hown.2 with ⟨rfl, rfl⟩ | ⟨g, cp, _, rfl, _, _, hle, _⟩
      · exact ⟨none, 0, rfl, Nat.le_refl _⟩
      · exact ⟨_, cp, rfl, hle⟩
    have hrun := run_append_nothing (P := P) w t t o.type e i ht hi A0 n c0 hle (.slice none 0 c) (Src.ofNil w ht c)
    have hK := h v w (by simpa using hown) ⟨rfl, rfl, rfl, Nat.le_refl _, fun _ _ _ => rfl⟩
    unfold Oper.wp
    rw [hv] at hs hK
    simp [execOp, ho, resolve, invoke, builtin, hs, hx, hrun, Result.andThen]
    exact hK
  · exact step_append_any hgd s x t ho base e i z size bytes ht hi hz hsize hby hzs hsz v n xs hs hown ad m c news hx hl hc h1 h63 hbytes hbase (fun v' w' a b _ => h v' w' a b)
theorem kept_blk {w w' : World} {v : Value} {g k : Nat} {o : Obj} (hg : w.grownBy w' v.ownBlock) (hv : v.ownBlock = some g) (hk : w.heap[k]? = some o) (hne : k ≠ g) : w'.heap[k]? = some o := by
  have hlt : k < w.heap.size := by
    rcases Nat.lt_or_ge k w.heap.size with h | h
    · exact h
    · rw [Array.getElem?_eq_none h] at hk; cases hk
  exact (hg.block k hlt (fun e => hne (Option.some.inj (e.trans hv)))).trans hk
/-- all rows of a slice -/
theorem all_rows {α : Type} {n : Nat} (hn : 0 < n) {R : World → List Value → α → Prop} {w : World} {A : Option Addr} {cap : Nat} {l : List α} (hs : Sl n R w (.slice A l.length cap) l) (h1 : ∀ cs x, R w cs x → ∀ u ∈ cs, u.oneCell' = true) :
    ∃ css : List (List Value), (css.length = l.length ∧ ∀ (i : Nat) (cs : List Value) (x : α), css[i]? = some cs → l[i]? = some x → cs.length = n ∧ R w cs x) ∧ css.flatten.length = l.length * n ∧ (∀ u ∈ css.flatten, u.oneCell' = true) ∧
      ((A = none ∧ l.length = 0) ∨ ∃ ad, A = some ad ∧ ∀ j u, css.flatten[j]? = some u → w.cell? (ad.add j) = some u) := by
  obtain ⟨css, hl, hx, hc⟩ := hs.rows hn
  have hlen : ∀ c ∈ css, c.length = n := by
    intro c hc
    obtain ⟨i, hi, rfl⟩ := List.mem_iff_getElem.1 hc
    exact (hx i _ (l[i]'(by omega)) (List.getElem?_eq_getElem hi) (List.getElem?_eq_getElem _)).1
  refine ⟨css, ⟨hl, hx⟩, by rw [flat_len hlen, hl], fun u hu => ?_, ?_⟩
  · obtain ⟨c, hc, hu⟩ := List.mem_flatten.1 hu
    obtain ⟨i, hi, rfl⟩ := List.mem_iff_getElem.1 hc
    exact h1 _ _ (hx i _ (l[i]'(by omega)) (List.getElem?_eq_getElem hi) (List.getElem?_eq_getElem _)).2 u hu
  · cases A with
    | none =>
      refine .inl ⟨rfl, ?_⟩
      rcases Nat.eq_zero_or_pos l.length with h | h
      · exact h
      · obtain ⟨x, hx⟩ := some_of_lt h
        obtain ⟨b, off, cs, hA, _⟩ := hs.at hx
        cases hA
    | some ad =>
      refine .inr ⟨ad, rfl, fun j u hu => ?_⟩
      obtain ⟨b, off, hA, hw⟩ := hc j u hu
      cases hA
      rw [add_none]; exact hw

/-- a block's cells -/
def BoxAt (B : Nat) (cs : List Value) (W : World) : Prop := ∀ (i : Nat) (v : Value), cs[i]? = some v → W.cell? ⟨B, i, none⟩ = some v
theorem BoxAt.ext {B : Nat} {cs : List Value} {W W' : World} (h : BoxAt B cs W) (he : Ext W W') : BoxAt B cs W' := fun i v hi => he.cell (h i v hi)
theorem BoxAt.of {B : Nat} {cs : Array Value} {t : TypeId} {fr : Nat × Nat} {W : World} (h : W.heap[B]? = some (.cells cs t fr)) : BoxAt B cs.toList W := fun i v hi => by
  have := World.news_of_block h i v hi
  rwa [add_none, Nat.zero_add] at this
theorem sl_rule1 {X : Nat} {vr vw vc : Value} {r : PRule} {t : TypeId} {fr : Nat × Nat} {W : World} (h : W.heap[X]? = some (.cells #[.string r.name, vr, vw, .int .i64 r.h0, .int .i64 r.h1, .int .i64 r.days, .int .i64 r.s0, .int .i64 r.s1, .bool r.forbid, vc, .int .i64 r.cost] t fr)) (hr : RSls W vr vw vc r) : Sl 11 RRule W (.slice (some ⟨X, 0, none⟩) 1 1) [r] := by
  refine ⟨some ⟨X, 0, none⟩, 1, rfl, by simp, by simp, fun i x hi => ?_⟩
  have h0 : i = 0 := by have := lt_of_some hi; simp at this; omega
  subst h0
  obtain rfl : r = x := by simpa using hi
  refine ⟨X, 0, ruleCs vr vw vc r, rfl, rfl, ⟨vr, vw, vc, rfl, hr⟩, fun j c hj => ?_⟩
  have := BoxAt.of h j c (by simpa [ruleCs] using hj)
  simpa using this

/-- the trip whose first sizes are greater -/
def uT (t : PTrip) (m0 m1 m2 m3 m4 m5 : Int) : Nat → PTrip
  | 0 => t
  | 1 => { t with z0 := moreZ t.z0 m0 }
  | 2 => { t with z0 := moreZ t.z0 m0, z1 := moreZ t.z1 m1 }
  | 3 => { t with z0 := moreZ t.z0 m0, z1 := moreZ t.z1 m1, z2 := moreZ t.z2 m2 }
  | 4 => { t with z0 := moreZ t.z0 m0, z1 := moreZ t.z1 m1, z2 := moreZ t.z2 m2, z3 := moreZ t.z3 m3 }
  | 5 => { t with z0 := moreZ t.z0 m0, z1 := moreZ t.z1 m1, z2 := moreZ t.z2 m2, z3 := moreZ t.z3 m3, z4 := moreZ t.z4 m4 }
  | _ => moreT t m0 m1 m2 m3 m4 m5
/-- a trip's box that may be stored into -/
def TripBox (U : Nat) (t : PTrip) (vp : Value) (W : World) : Prop := TripAt U t vp W ∧ ∀ n, n < 7 → W.frozen? ⟨U, n, none⟩ = false
theorem TripBox.new (t : PTrip) (vp : Value) (w : World) : TripBox w.heap.size t vp (w.alloc (.cells #[.int .i64 t.z0, .int .i64 t.z1, .int .i64 t.z2, .int .i64 t.z3, .int .i64 t.z4, .int .i64 t.z5, vp] 26)) :=
  ⟨TripAt.new t vp w, fun n hn => by rcases (show n = 0 ∨ n = 1 ∨ n = 2 ∨ n = 3 ∨ n = 4 ∨ n = 5 ∨ n = 6 by omega) with rfl | rfl | rfl | rfl | rfl | rfl | rfl <;> go_simp⟩
theorem TripBox.ext {U : Nat} {t : PTrip} {vp : Value} {W W' : World} (h : TripBox U t vp W) (he : Ext W W') : TripBox U t vp W' :=
  ⟨h.1.ext he, fun n hn => he.frz (lt_of_cell h.1.1) (h.2 n hn)⟩

set_option maxRecDepth 100000 in
set_option maxHeartbeats 12800000 in
theorem more_law {v vp vr vw vc : Value} {l : List PAuth} {t : PTrip} {r : PRule} {k at' m0 m1 m2 m3 m4 m5 : Int} (w : World) (hk : -9223372036854775808 ≤ k) (hk2 : k ≤ 9223372036854775807) (hs : Sl 4 RAuth w v l) (hp : Sl 3 RPass w vp t.passages) (hr : RSls w vr vw vc r)
    (h0 : 0 ≤ m0 ∧ m0 ≤ 65535) (h1 : 0 ≤ m1 ∧ m1 ≤ 65535) (h2 : 0 ≤ m2 ∧ m2 ≤ 65535) (h3 : 0 ≤ m3 ∧ m3 ≤ 65535) (h4 : 0 ≤ m4 ∧ m4 ≤ 65535) (h5 : 0 ≤ m5 ∧ m5 ≤ 65535) :
    Calls Try.prog 6 #[v, tripV t vp, .agg #[.string r.name, vr, vw, .int .i64 r.h0, .int .i64 r.h1, .int .i64 r.days, .int .i64 r.s0, .int .i64 r.s1, .bool r.forbid, vc, .int .i64 r.cost], .int .i64 k, .int .i64 at', .agg #[.int .u16 m0, .int .u16 m1, .int .u16 m2, .int .u16 m3, .int .u16 m4, .int .u16 m5]] w fun e w' => e = .returned (.bool true) ∧ Ext w w' := by
  have G := fun w' (h : Ext w w') => great_c v vp l t w' (hs.ext RAuth.stable h) (hp.ext RPass.stable h)
  have KN := fun w' => known_c w'
  have BK := fun va a w' h => bulky_c va a w' h
  have P1 := fun w' (h : Ext w w') => Compile_c v vp l t w' (hs.ext RAuth.stable h) (hp.ext RPass.stable h)
  obtain ⟨i1, hi1, hi10, hi11, hi12⟩ := info_parts infoRule
  obtain ⟨i2, hi2, hi20, hi21, hi22⟩ := info_parts infoAuth
  obtain ⟨A, cap, rfl, hl, hcap⟩ := hs.shape
  obtain ⟨Ap, capp, rfl, hpl, hpcap⟩ := hp.shape
  have HRR := Lib.hid hr
  obtain ⟨hr1, hw1, hc1⟩ := hr
  obtain ⟨Ar, cr, rfl, lr, lr2⟩ := hr1.shape
  obtain ⟨Aw, cw, rfl, lw, lw2⟩ := hw1.shape
  obtain ⟨Ac, cc, rfl, lc, lc2⟩ := hc1.shape
  have HS := Lib.hid hs
  have HP := Lib.hid hp
  unfold tripV CompR at *
  replace G := Lib.hid G
  replace KN := Lib.hid KN
  replace BK := Lib.hid BK
  replace P1 := Lib.hid P1
  clear hs hp hr1 hw1 hc1
  go_enter Try.func6, Try.ntmps6
  go_upto_region 1 with fail
  have e0 : Ext w (w.alloc (.cells #[.int .i64 t.z0, .int .i64 t.z1, .int .i64 t.z2, .int .i64 t.z3, .int .i64 t.z4, .int .i64 t.z5, .slice Ap t.passages.length capp] 26)) := (Ext.refl w).alloc _
  have T0 := TripAt.new t (.slice Ap t.passages.length capp) w
  have z0 : (w.alloc (.cells #[.int .i64 t.z0, .int .i64 t.z1, .int .i64 t.z2, .int .i64 t.z3, .int .i64 t.z4, .int .i64 t.z5, .slice Ap t.passages.length capp] 26)).heap.size = w.heap.size + 1 := size_alloc _ _
  generalize (w.alloc (.cells #[.int .i64 t.z0, .int .i64 t.z1, .int .i64 t.z2, .int .i64 t.z3, .int .i64 t.z4, .int .i64 t.z5, .slice Ap t.passages.length capp] 26)) = W0 at *
  have e1 : Ext W0 (W0.alloc (.cells #[.string r.name, .slice Ar r.roads.length cr, .slice Aw r.whens.length cw, .int .i64 r.h0, .int .i64 r.h1, .int .i64 r.days, .int .i64 r.s0, .int .i64 r.s1, .bool r.forbid, .slice Ac r.counts.length cc, .int .i64 r.cost] 58)) := (Ext.refl _).alloc _
  have b1 : (W0.alloc (.cells #[.string r.name, .slice Ar r.roads.length cr, .slice Aw r.whens.length cw, .int .i64 r.h0, .int .i64 r.h1, .int .i64 r.days, .int .i64 r.s0, .int .i64 r.s1, .bool r.forbid, .slice Ac r.counts.length cc, .int .i64 r.cost] 58)).heap[W0.heap.size]? = some (.cells #[.string r.name, .slice Ar r.roads.length cr, .slice Aw r.whens.length cw, .int .i64 r.h0, .int .i64 r.h1, .int .i64 r.days, .int .i64 r.s0, .int .i64 r.s1, .bool r.forbid, .slice Ac r.counts.length cc, .int .i64 r.cost] 58 (0, 0)) := heap_alloc_new W0 _
  have z1 : (W0.alloc (.cells #[.string r.name, .slice Ar r.roads.length cr, .slice Aw r.whens.length cw, .int .i64 r.h0, .int .i64 r.h1, .int .i64 r.days, .int .i64 r.s0, .int .i64 r.s1, .bool r.forbid, .slice Ac r.counts.length cc, .int .i64 r.cost] 58)).heap.size = W0.heap.size + 1 := size_alloc _ _
  generalize (W0.alloc (.cells #[.string r.name, .slice Ar r.roads.length cr, .slice Aw r.whens.length cw, .int .i64 r.h0, .int .i64 r.h1, .int .i64 r.days, .int .i64 r.s0, .int .i64 r.s1, .bool r.forbid, .slice Ac r.counts.length cc, .int .i64 r.cost] 58)) = W1 at *
  have e2 : Ext W1 (W1.alloc (.cells #[.int .u16 m0, .int .u16 m1, .int .u16 m2, .int .u16 m3, .int .u16 m4, .int .u16 m5] 61)) := (Ext.refl _).alloc _
  have b2 : (W1.alloc (.cells #[.int .u16 m0, .int .u16 m1, .int .u16 m2, .int .u16 m3, .int .u16 m4, .int .u16 m5] 61)).heap[W1.heap.size]? = some (.cells #[.int .u16 m0, .int .u16 m1, .int .u16 m2, .int .u16 m3, .int .u16 m4, .int .u16 m5] 61 (0, 0)) := heap_alloc_new W1 _
  generalize (W1.alloc (.cells #[.int .u16 m0, .int .u16 m1, .int .u16 m2, .int .u16 m3, .int .u16 m4, .int .u16 m5] 61)) = W2 at *
  rw [z1, z0] at b2
  rw [z0] at b1
  have E2 := e0.trans (e1.trans e2)
  have HT := Lib.hid (T0.ext (e1.trans e2))
  have HB1 := Lib.hid ((BoxAt.of b1).ext e2)
  have HB2 := Lib.hid (BoxAt.of b2)
  clear T0 e0 e1 e2 z0 z1 b1 b2
  obtain ⟨t0, t1, t2, t3, t4, t5, t6⟩ := HT.out
  go_wp2_with fail
  refine (G.out _ E2).mono ?_
  rintro e w1 ⟨⟨b, rfl⟩, hb1⟩
  have E3 := E2.trans hb1
  replace HT := Lib.hid (HT.out.ext hb1)
  replace HB1 := Lib.hid (HB1.out.ext hb1)
  replace HB2 := Lib.hid (HB2.out.ext hb1)
  clear t0 t1 t2 t3 t4 t5 t6 G hb1 E2
  cases b
  · have r0 := HB1.out 0 _ rfl
    have r1 := HB1.out 1 _ rfl
    have r2 := HB1.out 2 _ rfl
    have r3 := HB1.out 3 _ rfl
    have r4 := HB1.out 4 _ rfl
    have r5 := HB1.out 5 _ rfl
    have r6 := HB1.out 6 _ rfl
    have r7 := HB1.out 7 _ rfl
    have r8 := HB1.out 8 _ rfl
    have r9 := HB1.out 9 _ rfl
    have r10 := HB1.out 10 _ rfl
    go_wp2_with fail
    have e4 : Ext w1 (w1.alloc (.cells #[.string r.name, .slice Ar r.roads.length cr, .slice Aw r.whens.length cw, .int .i64 r.h0, .int .i64 r.h1, .int .i64 r.days, .int .i64 r.s0, .int .i64 r.s1, .bool r.forbid, .slice Ac r.counts.length cc, .int .i64 r.cost] 58)) := (Ext.refl _).alloc _
    have b4 := heap_alloc_new w1 (.cells #[.string r.name, .slice Ar r.roads.length cr, .slice Aw r.whens.length cw, .int .i64 r.h0, .int .i64 r.h1, .int .i64 r.days, .int .i64 r.s0, .int .i64 r.s1, .bool r.forbid, .slice Ac r.counts.length cc, .int .i64 r.cost] 58)
    have hS1 := sl_rule1 b4 (HRR.out.ext (E3.trans e4))
    go_at_call 29
    refine (BK.out _ ⟨⟨#[]⟩, 0, 0, [r]⟩ _ hS1).mono ?_
    rintro e w2 ⟨⟨b, rfl⟩, hb2⟩
    have E4 := E3.trans (e4.trans hb2)
    have e5 := e4.trans hb2
    replace HT := Lib.hid (HT.out.ext e5)
    replace HB1 := Lib.hid (HB1.out.ext e5)
    replace HB2 := Lib.hid (HB2.out.ext e5)
    clear r0 r1 r2 r3 r4 r5 r6 r7 r8 r9 r10 hS1 b4 e4 e5 hb2 E3 BK
    cases b
    · obtain ⟨t0, t1, t2, t3, t4, t5, t6⟩ := HT.out
      go_upto_region 3 with fail
      go_wp2_with fail
      refine (P1.out _ E4).mono ?_
      rintro e w3 ⟨hb3, ⟨hne, rfl⟩ | ⟨hbg, vco, rfl, hco⟩⟩
      · have hne' : (beginE l t != 0) = true := by simp [hne]
        generalize beginE l t = E at *
        have e4 : Ext w3 (w3.alloc (.cells #[.slice none 0 0, .int .i64 0, .int .i64 0] 31)) := (Ext.refl _).alloc _
        go_wp2_with (go_at_call 13; refine (KN.out _).mono ?_; rintro e w8 ⟨rfl, hb8⟩)
        go_ret
        exact ⟨rfl, E4.trans (hb3.trans (e4.trans hb8))⟩
      · obtain ⟨Aq, cq, rfl, _, _⟩ := hco.shape
        generalize hF1 : feeS l t = F1 at *
        generalize hN1 : noticeS l t = N1 at *
        generalize hCL : conds l t = CL at *
        have HF1 := Lib.hid hF1
        have HN1 := Lib.hid hN1
        have HCL := Lib.hid hCL
        clear hF1 hN1 hCL
        have hV := valid_of_begin hbg
        have hlb := hV.len
        have hrl : ∀ a ∈ l, a.rules.length ≤ 24 := fun a ha => (authE_zero (hV.auths a ha)).1
        go_upto_region 4 with fail
        have e4 : Ext w3 (w3.alloc (.cells #[.slice Aq CL.length cq, .int .i64 F1, .int .i64 N1] 31)) := (Ext.refl _).alloc _
        have bP := heap_alloc_new w3 (.cells #[.slice Aq CL.length cq, .int .i64 F1, .int .i64 N1] 31)
        have HPB := Lib.hid (BoxAt.of bP)
        have e5 := hb3.trans e4
        replace HT := Lib.hid (HT.out.ext e5)
        replace HB1 := Lib.hid (HB1.out.ext e5)
        replace HB2 := Lib.hid (HB2.out.ext e5)
        have E5 := E4.trans e5
        generalize (w3.alloc (.cells #[.slice Aq CL.length cq, .int .i64 F1, .int .i64 N1] 31)) = W5 at *
        have HRL := Lib.hid hrl
        have HR5 := Lib.hid (HRR.out.ext E5)
        have HS5 := Lib.hid (HS.out.ext RAuth.stable E5)
        have hV2 := hV
        clear t0 t1 t2 t3 t4 t5 t6 hb3 e4 e5 bP hco hV hrl P1 HRR
        go_wp2_with fail
        go_loopw [15, 16, 17] (fun o i _ wr => ∃ (j : Nat) (vo : Value), j ≤ l.length ∧ i = .int .i64 j ∧ o = vo ∧ OwnL 4 64 (RM W5 W5.heap.size) W5.heap.size wr vo ((l.take j).map (addR r)) ∧ Ext W5 wr) (fun _ i _ _ => l.length - (intOf i).toNat)
        case atStart => exact ⟨0, _, by omega, rfl, rfl, by simpa using OwnL.nil, Ext.refl _⟩
        case round =>
          obtain ⟨j, vo, hj, rfl, rfl, hown, hE⟩ := hrel
          obtain ⟨wA, hwA⟩ : ∃ z : World, z = wr := ⟨_, rfl⟩
          subst hwA
          obtain ⟨Ao, co, rfl, _, _⟩ := hown.sl.shape
          have HO := Lib.hid hown
          clear hown
          by_cases hlt : j < l.length
          · obtain ⟨x, hx⟩ := some_of_lt hlt
            obtain ⟨xb, xo, xcs, rfl, _, ⟨vx, rfl, hxr⟩, hxc⟩ := HS5.out.at hx
            obtain ⟨Ax, cx, rfl, lx, lx2⟩ := hxr.shape
            have k0 := hE.cell (hxc 0 _ rfl)
            have k1 := hE.cell (hxc 1 _ rfl)
            have k2 := hE.cell (hxc 2 _ rfl)
            have k3 := hE.cell (hxc 3 _ rfl)
            simp only [Nat.add_zero] at k0
            have j1 : (0 : Int) ≤ (j : Int) := by omega
            have j2 : (j : Int) < (l.length : Int) := by omega
            have hx24 := HRL.out x (mem_of_some hx)
            have HTK := Lib.hid (show ((l.take (j + 1)).map (addR r)) = ((l.take j).map (addR r)) ++ [addR r x] by rw [take_some hx, List.map_append]; rfl)
            have hDl : ((l.take j).map (addR r)).length ≤ 8 := by rw [List.length_map, List.length_take]; omega
            generalize (l.take j).map (addR r) = D at *
            obtain ⟨css, ⟨hcl, hcx⟩, hfl, h1c, hAx⟩ := all_rows (by omega) (hxr.ext RRule.stable (Ext.refl _)) (fun cs x h => one_rule h)
            have HCX := Lib.hid hcx
            have H1C := Lib.hid h1c
            have HAX5 := Lib.hid hAx
            clear hxc hx hxr hcx h1c hAx
            go_upto_region 11 with fail
            have e6 : Ext wA (wA.alloc (.cells #[.string x.name, .int .i64 x.fee, .int .i64 x.notice, .slice Ax x.rules.length cx] 64)) := (Ext.refl _).alloc _
            have b6 := heap_alloc_new wA (.cells #[.string x.name, .int .i64 x.fee, .int .i64 x.notice, .slice Ax x.rules.length cx] 64)
            have z6 : wA.heap.size < (wA.alloc (.cells #[.string x.name, .int .i64 x.fee, .int .i64 x.notice, .slice Ax x.rules.length cx] 64)).heap.size := by simp
            have g3 : (wA.alloc (.cells #[.string x.name, .int .i64 x.fee, .int .i64 x.notice, .slice Ax x.rules.length cx] 64)).cell? ⟨wA.heap.size, 3, none⟩ = some (.slice Ax x.rules.length cx) := World.cell?_alloc_new _ _ _ _
            have g012 := BoxAt.of b6
            have gf : (wA.alloc (.cells #[.string x.name, .int .i64 x.fee, .int .i64 x.notice, .slice Ax x.rules.length cx] 64)).frozen? ⟨wA.heap.size, 3, none⟩ = false := by go_simp
            generalize (wA.alloc (.cells #[.string x.name, .int .i64 x.fee, .int .i64 x.notice, .slice Ax x.rules.length cx] 64)) = W6 at *
            have E6 := hE.trans e6
            have z5 := E6.size
            have zA := hE.size
            replace HB1 := Lib.hid (HB1.out.ext E6)
            have r0 := HB1.out 0 _ rfl
            have r1 := HB1.out 1 _ rfl
            have r2 := HB1.out 2 _ rfl
            have r3 := HB1.out 3 _ rfl
            have r4 := HB1.out 4 _ rfl
            have r5 := HB1.out 5 _ rfl
            have r6 := HB1.out 6 _ rfl
            have r7 := HB1.out 7 _ rfl
            have r8 := HB1.out 8 _ rfl
            have r9 := HB1.out 9 _ rfl
            have r10 := HB1.out 10 _ rfl
            have own0 : (W6.alloc (.cells #[] 58)).ownsRow W6.heap.size 58 11 (.slice (some ⟨W6.heap.size, 0, none⟩) 0 0) 0 [] := ⟨rfl, .inr ⟨W6.heap.size, 0, #[], rfl, by omega, heap_alloc_new W6 _, Nat.le_refl _, Nat.zero_le _, rfl, rfl⟩⟩
            have own1 : ((W6.alloc (.cells #[.string r.name, .slice Ar r.roads.length cr, .slice Aw r.whens.length cw, .int .i64 r.h0, .int .i64 r.h1, .int .i64 r.days, .int .i64 r.s0, .int .i64 r.s1, .bool r.forbid, .slice Ac r.counts.length cc, .int .i64 r.cost] 58)).alloc (.cells #[] 58)).ownsRow W6.heap.size 58 11 (.slice (some ⟨W6.heap.size + 1, 0, none⟩) 0 0) 0 [] := ⟨rfl, .inr ⟨W6.heap.size + 1, 0, #[], rfl, by omega, by have := heap_alloc_new (W6.alloc (.cells #[.string r.name, .slice Ar r.roads.length cr, .slice Aw r.whens.length cw, .int .i64 r.h0, .int .i64 r.h1, .int .i64 r.days, .int .i64 r.s0, .int .i64 r.s1, .bool r.forbid, .slice Ac r.counts.length cc, .int .i64 r.cost] 58)) (.cells #[] 58); rwa [size_alloc] at this, Nat.le_refl _, Nat.zero_le _, rfl, rfl⟩⟩
            have HAX := Lib.hid (fun W (h : Ext W6 W) => (HAX5.out).imp id (fun ⟨ad, h1, hc⟩ => (⟨ad, h1, fun j u hu => (E6.trans h).cell (hc j u hu)⟩ : ∃ ad, Ax = some ad ∧ ∀ j u, css.flatten[j]? = some u → W.cell? (ad.add j) = some u)))
            have bB0 : ((W6.alloc (.cells #[] 58)).alloc (.cells #[.string r.name, .slice Ar r.roads.length cr, .slice Aw r.whens.length cw, .int .i64 r.h0, .int .i64 r.h1, .int .i64 r.days, .int .i64 r.s0, .int .i64 r.s1, .bool r.forbid, .slice Ac r.counts.length cc, .int .i64 r.cost] 58)).heap[W6.heap.size + 1]? = some (.cells #[.string r.name, .slice Ar r.roads.length cr, .slice Aw r.whens.length cw, .int .i64 r.h0, .int .i64 r.h1, .int .i64 r.days, .int .i64 r.s0, .int .i64 r.s1, .bool r.forbid, .slice Ac r.counts.length cc, .int .i64 r.cost] 58 (0, 0)) := by have h := heap_alloc_new (W6.alloc (.cells #[] 58)) (.cells #[.string r.name, .slice Ar r.roads.length cr, .slice Aw r.whens.length cw, .int .i64 r.h0, .int .i64 r.h1, .int .i64 r.days, .int .i64 r.s0, .int .i64 r.s1, .bool r.forbid, .slice Ac r.counts.length cc, .int .i64 r.cost] 58); rwa [size_alloc] at h
            have bC0 : ((W6.alloc (.cells #[.string r.name, .slice Ar r.roads.length cr, .slice Aw r.whens.length cw, .int .i64 r.h0, .int .i64 r.h1, .int .i64 r.days, .int .i64 r.s0, .int .i64 r.s1, .bool r.forbid, .slice Ac r.counts.length cc, .int .i64 r.cost] 58)).alloc (.cells #[] 58)).heap[W6.heap.size]? = some (.cells #[.string r.name, .slice Ar r.roads.length cr, .slice Aw r.whens.length cw, .int .i64 r.h0, .int .i64 r.h1, .int .i64 r.days, .int .i64 r.s0, .int .i64 r.s1, .bool r.forbid, .slice Ac r.counts.length cc, .int .i64 r.cost] 58 (0, 0)) := (Below.heap_alloc (W6.alloc (.cells #[.string r.name, .slice Ar r.roads.length cr, .slice Aw r.whens.length cw, .int .i64 r.h0, .int .i64 r.h1, .int .i64 r.days, .int .i64 r.s0, .int .i64 r.s1, .bool r.forbid, .slice Ac r.counts.length cc, .int .i64 r.cost] 58)) (.cells #[] 58) W6.heap.size (by rw [size_alloc]; omega)).trans (heap_alloc_new W6 (.cells #[.string r.name, .slice Ar r.roads.length cr, .slice Aw r.whens.length cw, .int .i64 r.h0, .int .i64 r.h1, .int .i64 r.days, .int .i64 r.s0, .int .i64 r.s1, .bool r.forbid, .slice Ac r.counts.length cc, .int .i64 r.cost] 58))
            have hlR := lt_of_cell r0
            clear k0 k1 k2 k3
            go_cut [] from 68 to 75 (fun wc => ∃ (Av : Option Addr) (cv : Nat), BoxAt wA.heap.size [.string x.name, .int .i64 x.fee, .int .i64 x.notice, .slice Av (x.rules.length + 1) cv] wc ∧ OwnL 11 58 (fun _ => RRule W5) W5.heap.size wc (.slice Av (x.rules.length + 1) cv) (x.rules ++ [r]) ∧ Ext wA wc)
            case first =>
              go_region_law (first
                | (refine step_append_sl (by rfl) _ _ _ (by rfl) W6.heap.size 58 i1 _ 11 144 Try.underlying42 hi1 hi10 hi11 hi12 rfl (by omega) (.slice (some ⟨W6.heap.size, 0, none⟩) 0 0) 0 [] (by rfl) (by first | exact own0 | exact own0.drew) Ax x.rules.length cx css.flatten (by rfl) hfl (HAX.out _ (by (repeat' (first | exact Ext.refl _ | assumption | refine Ext.alloc ?_ _ | refine Ext.drew ?_ | refine Ext.drewN ?_ _ | refine Ext.set ?_ (by first | exact Nat.le_refl _ | exact le1 _ | exact le2 _ | exact le3 _ | exact le4 _ | exact le5 _ | exact le6 _) _ | refine Ext.trans ?_ (by assumption))))) H1C.out (by unfold maxLen; omega) (by omega) (by simp; try omega) ?_; intro vA wB hoA hgA; have EA : Ext W6 wB := Ext.grown (w := W6) (by (repeat' (first | exact Ext.refl _ | assumption | refine Ext.alloc ?_ _ | refine Ext.drew ?_ | refine Ext.drewN ?_ _ | refine Ext.set ?_ (by first | exact Nat.le_refl _ | exact le1 _ | exact le2 _ | exact le3 _ | exact le4 _ | exact le5 _ | exact le6 _) _ | refine Ext.trans ?_ (by assumption)))) hgA (fun k e => Nat.le_of_eq (Option.some.inj e)); simp only [Nat.zero_add, List.nil_append] at hoA; have q0 := EA.cell r0; have q1 := EA.cell r1; have q2 := EA.cell r2; have q3 := EA.cell r3; have q4 := EA.cell r4; have q5 := EA.cell r5; have q6 := EA.cell r6; have q7 := EA.cell r7; have q8 := EA.cell r8; have q9 := EA.cell r9; have q10 := EA.cell r10; have zB := EA.size; have lB := lt_of_cell q0)
                | (refine step_append_sl (by rfl) _ _ _ (by rfl) W6.heap.size 58 i1 _ 11 144 Try.underlying42 hi1 hi10 hi11 hi12 rfl (by omega) (.slice (some ⟨W6.heap.size, 0, none⟩) 0 0) 0 [] (by rfl) (by first | exact own0.alloc _ | exact (own0.alloc _).drew | exact own0.drew.alloc _) Ax x.rules.length cx css.flatten (by rfl) hfl (HAX.out _ (by (repeat' (first | exact Ext.refl _ | assumption | refine Ext.alloc ?_ _ | refine Ext.drew ?_ | refine Ext.drewN ?_ _ | refine Ext.set ?_ (by first | exact Nat.le_refl _ | exact le1 _ | exact le2 _ | exact le3 _ | exact le4 _ | exact le5 _ | exact le6 _) _ | refine Ext.trans ?_ (by assumption))))) H1C.out (by unfold maxLen; omega) (by omega) (by simp; try omega) ?_; intro vA wB hoA hgA; have EA : Ext W6 wB := Ext.grown (w := W6) (by (repeat' (first | exact Ext.refl _ | assumption | refine Ext.alloc ?_ _ | refine Ext.drew ?_ | refine Ext.drewN ?_ _ | refine Ext.set ?_ (by first | exact Nat.le_refl _ | exact le1 _ | exact le2 _ | exact le3 _ | exact le4 _ | exact le5 _ | exact le6 _) _ | refine Ext.trans ?_ (by assumption)))) hgA (fun k e => Nat.le_of_eq (Option.some.inj e)); simp only [Nat.zero_add, List.nil_append] at hoA; have q0 := EA.cell r0; have q1 := EA.cell r1; have q2 := EA.cell r2; have q3 := EA.cell r3; have q4 := EA.cell r4; have q5 := EA.cell r5; have q6 := EA.cell r6; have q7 := EA.cell r7; have q8 := EA.cell r8; have q9 := EA.cell r9; have q10 := EA.cell r10; have zB := EA.size; have lB := lt_of_cell q0; have bR := kept_blk hgA rfl bB0 (Nat.succ_ne_self _))
                | (refine step_append_sl (by rfl) _ _ _ (by rfl) W6.heap.size 58 i1 _ 11 144 Try.underlying42 hi1 hi10 hi11 hi12 rfl (by omega) (.slice (some ⟨W6.heap.size + 1, 0, none⟩) 0 0) 0 [] (by rfl) (by first | exact own1 | exact own1.drew) Ax x.rules.length cx css.flatten (by rfl) hfl (HAX.out _ (by (repeat' (first | exact Ext.refl _ | assumption | refine Ext.alloc ?_ _ | refine Ext.drew ?_ | refine Ext.drewN ?_ _ | refine Ext.set ?_ (by first | exact Nat.le_refl _ | exact le1 _ | exact le2 _ | exact le3 _ | exact le4 _ | exact le5 _ | exact le6 _) _ | refine Ext.trans ?_ (by assumption))))) H1C.out (by unfold maxLen; omega) (by omega) (by simp; try omega) ?_; intro vA wB hoA hgA; have EA : Ext W6 wB := Ext.grown (w := W6) (by (repeat' (first | exact Ext.refl _ | assumption | refine Ext.alloc ?_ _ | refine Ext.drew ?_ | refine Ext.drewN ?_ _ | refine Ext.set ?_ (by first | exact Nat.le_refl _ | exact le1 _ | exact le2 _ | exact le3 _ | exact le4 _ | exact le5 _ | exact le6 _) _ | refine Ext.trans ?_ (by assumption)))) hgA (fun k e => Nat.le_trans (Nat.le_succ _) (Nat.le_of_eq (Option.some.inj e))); simp only [Nat.zero_add, List.nil_append] at hoA; have q0 := EA.cell r0; have q1 := EA.cell r1; have q2 := EA.cell r2; have q3 := EA.cell r3; have q4 := EA.cell r4; have q5 := EA.cell r5; have q6 := EA.cell r6; have q7 := EA.cell r7; have q8 := EA.cell r8; have q9 := EA.cell r9; have q10 := EA.cell r10; have zB := EA.size; have lB := lt_of_cell q0; have bR := kept_blk hgA rfl bC0 (Nat.succ_ne_self _).symm)
                | (refine step_append_lies _ (by rfl) _ _ _ (by rfl) W6.heap.size 58 i1 _ 11 144 Try.underlying42 hi1 hi10 hi11 hi12 rfl (by omega) vA x.rules.length css.flatten (by rfl) (by first | exact hoA.alloc _ | exact (hoA.alloc _).drew) ⟨wB.heap.size, 0, none⟩ 1 1 [.string r.name, .slice Ar r.roads.length cr, .slice Aw r.whens.length cw, .int .i64 r.h0, .int .i64 r.h1, .int .i64 r.days, .int .i64 r.s0, .int .i64 r.s1, .bool r.forbid, .slice Ac r.counts.length cc, .int .i64 r.cost] (by rfl) (by rfl) (by first | exact World.news_of_block (heap_alloc_new wB _)) (by simp [Value.oneCell']) (by omega) (by unfold maxLen; omega) (by omega) (by first | omega | (simp; omega)) _ (by rfl) ?_; intro gC capC wC hoC hgC hatC hltC; have EC : Ext W6 wC := Ext.grown (EA.alloc _) hgC (fun k e => own_ge hoA k e); have hOC := OwnL.snoc (R := fun _ => RRule W5) (x := r) hcl HCX.out hoC rfl ⟨_, _, _, rfl, HR5.out⟩; have s3 := EC.cell g3; have sf := EC.frz z6 gf)
                | (refine step_append_lies _ (by rfl) _ _ _ (by rfl) W6.heap.size 58 i1 _ 11 144 Try.underlying42 hi1 hi10 hi11 hi12 rfl (by omega) vA x.rules.length css.flatten (by rfl) hoA ⟨W6.heap.size + 1, 0, none⟩ 1 1 [.string r.name, .slice Ar r.roads.length cr, .slice Aw r.whens.length cw, .int .i64 r.h0, .int .i64 r.h1, .int .i64 r.days, .int .i64 r.s0, .int .i64 r.s1, .bool r.forbid, .slice Ac r.counts.length cc, .int .i64 r.cost] (by rfl) (by rfl) (World.news_of_block bR) (by simp [Value.oneCell']) (by omega) (by unfold maxLen; omega) (by omega) (by first | omega | (simp; omega)) _ (by rfl) ?_; intro gC capC wC hoC hgC hatC hltC; have EC : Ext W6 wC := Ext.grown EA hgC (fun k e => own_ge hoA k e); have hOC := OwnL.snoc (R := fun _ => RRule W5) (x := r) hcl HCX.out hoC rfl ⟨_, _, _, rfl, HR5.out⟩; have s3 := EC.cell g3; have sf := EC.frz z6 gf)
                | (refine step_append_lies _ (by rfl) _ _ _ (by rfl) W6.heap.size 58 i1 _ 11 144 Try.underlying42 hi1 hi10 hi11 hi12 rfl (by omega) vA x.rules.length css.flatten (by rfl) hoA ⟨W6.heap.size, 0, none⟩ 1 1 [.string r.name, .slice Ar r.roads.length cr, .slice Aw r.whens.length cw, .int .i64 r.h0, .int .i64 r.h1, .int .i64 r.days, .int .i64 r.s0, .int .i64 r.s1, .bool r.forbid, .slice Ac r.counts.length cc, .int .i64 r.cost] (by rfl) (by rfl) (World.news_of_block bR) (by simp [Value.oneCell']) (by omega) (by unfold maxLen; omega) (by omega) (by first | omega | (simp; omega)) _ (by rfl) ?_; intro gC capC wC hoC hgC hatC hltC; have EC : Ext W6 wC := Ext.grown EA hgC (fun k e => own_ge hoA k e); have hOC := OwnL.snoc (R := fun _ => RRule W5) (x := r) hcl HCX.out hoC rfl ⟨_, _, _, rfl, HR5.out⟩; have s3 := EC.cell g3; have sf := EC.frz z6 gf))
              all_goals
                go_wp2_with fail
                go_meet
                refine ⟨some ⟨gC, 0, none⟩, capC, fun i u hi => ?_, ((hOC.lower z5).set' (fun _ _ k => k) (fun hb => by have h1 := own_ge hoC gC rfl; have h2 : gC = wA.heap.size := Option.some.inj hb; omega)), (e6.trans EC).set (Nat.le_refl _) _⟩
                rcases i with _ | _ | _ | _ | i
                · cases hi; exact cell_off (by omega) (EC.cell (g012 0 _ rfl))
                · cases hi; exact cell_off (by omega) (EC.cell (g012 1 _ rfl))
                · cases hi; exact cell_off (by omega) (EC.cell (g012 2 _ rfl))
                · cases hi; exact cell_set (EC.cell g3)
                · simp at hi
            case rest =>
              obtain ⟨Av, cv, hbox, hor, hEc⟩ := hcut
              have n0 := hbox 0 _ rfl
              have n1 := hbox 1 _ rfl
              have n2 := hbox 2 _ rfl
              have n3 := hbox 3 _ rfl
              have hnew : RM W5 W5.heap.size wc [.string x.name, .int .i64 x.fee, .int .i64 x.notice, .slice Av (x.rules.length + 1) cv] (addR r x) := ⟨_, rfl, hor⟩
              obtain ⟨css2, hcs, hown, hcx2⟩ := HO.out.ext RM.stable hEc
              have HCX2 := Lib.hid hcx2
              have HNEW := Lib.hid hnew
              have E7 := hE.trans hEc
              have hz7 := E7.size
              have hwl := lt_of_cell n0
              clear hbox hor hnew hcx2 HO g3 gf g012 b6 z6 own0 own1 bB0 bC0 r0 r1 r2 r3 r4 r5 r6 r7 r8 r9 r10 HAX e6 E6
              go_wp2_with (at_builtin; refine wpList_append_lies _ rfl _ _ 22 rfl (W5.heap.size) 64 i2 _ 4 56 Try.underlying22 hi2 hi20 hi21 hi22 rfl (by omega) (.slice Ao D.length co) (D.length) (css2).flatten rfl ((hown).alloc _) ⟨wc.heap.size, 0, none⟩ 1 1 [.string x.name, .int .i64 x.fee, .int .i64 x.notice, .slice Av (x.rules.length + 1) cv] rfl rfl (World.news_of_block (cs := #[.string x.name, .int .i64 x.fee, .int .i64 x.notice, .slice Av (x.rules.length + 1) cv]) (t := 64) (fr := (0, 0)) (heap_alloc_new wc _)) (by simp [Value.oneCell']) (by omega) (by unfold maxLen; omega) (by omega) (by simp; omega) (wc.heap.size + 1) (by simp) ?_; intro g cap4 w4 hown4 hgrow4 hat4 hlt4)
              have E9 : Ext W5 w4 := Ext.grown (E7.alloc _) hgrow4 (fun j hj => own_ge hown j hj)
              have hO4 := OwnL.snoc (R := RM W5 W5.heap.size) (w' := w4) (x := addR r x) hcs (fun i cs a h1 h2 => ⟨(HCX2.out i cs a h1 h2).1, ((HCX2.out i cs a h1 h2).2.ext ((Ext.refl wc).alloc _)).grown (hown.alloc _) hgrow4⟩) hown4 rfl ((HNEW.out.ext ((Ext.refl wc).alloc _)).grown (hown.alloc _) hgrow4)
              have HO4 := Lib.hid hO4
              clear hO4 hown hown4 hgrow4 hat4 hlt4 hcs HCX2 HNEW
              go_roundw
              case rel => exact ⟨j + 1, _, by omega, by go_num, rfl, by rw [HTK.out]; exact HO4.out, E9⟩
              case measure => simp [intOf]; omega
          · obtain rfl : j = l.length := by omega
            rw [List.take_length] at *
            have HO6 := HO
            have HM := Lib.hid ((HO.out.to (fun cs a h => h.auth hE)).sl)
            have HTA := Lib.hid (HT.out.ext hE)
            have HMA := Lib.hid (HB2.out.ext hE)
            have HPA := Lib.hid (HPB.out.ext hE)
            have hML : (l.map (addR r)).length ≤ 8 := by rw [List.length_map]; omega
            have GR := Lib.hid (grow_rule r l t)
            generalize l.map (addR r) = ML at *
            clear HO HO6
            obtain ⟨t0, t1, t2, t3, t4, t5, t6⟩ := HTA.out
            go_upto_region 14 with fail
            have B0 := TripBox.new t (.slice Ap t.passages.length capp) wA
            have eU : Ext wA (wA.alloc (.cells #[.int .i64 t.z0, .int .i64 t.z1, .int .i64 t.z2, .int .i64 t.z3, .int .i64 t.z4, .int .i64 t.z5, .slice Ap t.passages.length capp] 26)) := (Ext.refl _).alloc _
            have lT := lt_of_cell t0
            have lM := lt_of_cell (HMA.out 0 _ rfl)
            generalize (wA.alloc (.cells #[.int .i64 t.z0, .int .i64 t.z1, .int .i64 t.z2, .int .i64 t.z3, .int .i64 t.z4, .int .i64 t.z5, .slice Ap t.passages.length capp] 26)) = W7 at *
            have HB0 := Lib.hid B0
            have hsz := hV2.sizes
            have hzz := hsz
            unfold sizesB at hzz
            simp only [Bool.and_eq_true, inB_iff] at hzz
            obtain ⟨⟨⟨⟨⟨y0, y1⟩, y2⟩, y3⟩, y4⟩, y5⟩ := hzz
            clear t0 t1 t2 t3 t4 t5 t6 B0
            have hmn : ∀ (x y : Int) (W : World), (Builtin.min_ #[2, 2] 2 #[.int .i64 x, .int .i64 y]).run Try.prog W = .ok (.int .i64 (min x y)) W := fun x y W => by
              have : (if y < x then y else x) = min x y := by split <;> omega
              rw [← this]; rfl
            go_wp2_with fail
            go_loopw [19] (fun i wr => ∃ q : Nat, q ≤ 6 ∧ i = .int .i64 q ∧ TripBox wA.heap.size (uT t m0 m1 m2 m3 m4 m5 q) (.slice Ap t.passages.length capp) wr ∧ Ext wA wr) (fun i _ => 6 - (intOf i).toNat)
            case atStart => exact ⟨0, by omega, rfl, HB0.out, eU⟩
            case round =>
              obtain ⟨q, hq, rfl, hbox, hE8⟩ := hrel
              obtain ⟨wU, hwU⟩ : ∃ z : World, z = wr := ⟨_, rfl⟩
              subst hwU
              rcases (show q = 0 ∨ q = 1 ∨ q = 2 ∨ q = 3 ∨ q = 4 ∨ q = 5 ∨ q = 6 by omega) with rfl | rfl | rfl | rfl | rfl | rfl | hq6
              · obtain ⟨⟨c0, c1, c2, c3, c4, c5, c6⟩, hfz⟩ := hbox
                have f0 := hfz 0 (by omega)
                have d0 := (HTA.out.ext hE8).1
                have d1 := hE8.cell (HMA.out 0 _ rfl)
                have g0 := IntWalk.i64_in m0 (by omega)
                have g1 := IntWalk.i64_in (t.z0 + m0) (by omega)
                have HC := Lib.hid (And.intro c0 (And.intro c1 (And.intro c2 (And.intro c3 (And.intro c4 (And.intro c5 c6))))))
                have HF := Lib.hid hfz
                clear c1 c2 c3 c4 c5 c6
                clear hfz
                go_wp2_with fail
                go_region
                go_wp2_with fail
                go_roundw
                case rel =>
                  obtain ⟨c0, c1, c2, c3, c4, c5, c6⟩ := HC.out
                  exact ⟨1, by omega, by go_num, ⟨⟨(cell_set c0), (cell_off (by omega) c1), (cell_off (by omega) c2), (cell_off (by omega) c3), (cell_off (by omega) c4), (cell_off (by omega) c5), (cell_off (by omega) c6)⟩, fun n hn => frz_set (HF.out n hn)⟩, (Ext.set hE8 (p := ⟨wA.heap.size, 0, none⟩) (Nat.le_refl _) _).drew⟩
                case measure => simp [intOf]
              · obtain ⟨⟨c0, c1, c2, c3, c4, c5, c6⟩, hfz⟩ := hbox
                have f1 := hfz 1 (by omega)
                have d0 := (HTA.out.ext hE8).2.1
                have d1 := hE8.cell (HMA.out 1 _ rfl)
                have g0 := IntWalk.i64_in m1 (by omega)
                have g1 := IntWalk.i64_in (t.z1 + m1) (by omega)
                have HC := Lib.hid (And.intro c0 (And.intro c1 (And.intro c2 (And.intro c3 (And.intro c4 (And.intro c5 c6))))))
                have HF := Lib.hid hfz
                clear c0 c2 c3 c4 c5 c6
                clear hfz
                go_wp2_with fail
                go_region
                go_wp2_with fail
                go_roundw
                case rel =>
                  obtain ⟨c0, c1, c2, c3, c4, c5, c6⟩ := HC.out
                  exact ⟨2, by omega, by go_num, ⟨⟨(cell_off (by omega) c0), (cell_set c1), (cell_off (by omega) c2), (cell_off (by omega) c3), (cell_off (by omega) c4), (cell_off (by omega) c5), (cell_off (by omega) c6)⟩, fun n hn => frz_set (HF.out n hn)⟩, (Ext.set hE8 (p := ⟨wA.heap.size, 1, none⟩) (Nat.le_refl _) _).drew⟩
                case measure => simp [intOf]
              · obtain ⟨⟨c0, c1, c2, c3, c4, c5, c6⟩, hfz⟩ := hbox
                have f2 := hfz 2 (by omega)
                have d0 := (HTA.out.ext hE8).2.2.1
                have d1 := hE8.cell (HMA.out 2 _ rfl)
                have g0 := IntWalk.i64_in m2 (by omega)
                have g1 := IntWalk.i64_in (t.z2 + m2) (by omega)
                have HC := Lib.hid (And.intro c0 (And.intro c1 (And.intro c2 (And.intro c3 (And.intro c4 (And.intro c5 c6))))))
                have HF := Lib.hid hfz
                clear c0 c1 c3 c4 c5 c6
                clear hfz
                go_wp2_with fail
                go_region
                go_wp2_with fail
                go_roundw
                case rel =>
                  obtain ⟨c0, c1, c2, c3, c4, c5, c6⟩ := HC.out
                  exact ⟨3, by omega, by go_num, ⟨⟨(cell_off (by omega) c0), (cell_off (by omega) c1), (cell_set c2), (cell_off (by omega) c3), (cell_off (by omega) c4), (cell_off (by omega) c5), (cell_off (by omega) c6)⟩, fun n hn => frz_set (HF.out n hn)⟩, (Ext.set hE8 (p := ⟨wA.heap.size, 2, none⟩) (Nat.le_refl _) _).drew⟩
                case measure => simp [intOf]
              · obtain ⟨⟨c0, c1, c2, c3, c4, c5, c6⟩, hfz⟩ := hbox
                have f3 := hfz 3 (by omega)
                have d0 := (HTA.out.ext hE8).2.2.2.1
                have d1 := hE8.cell (HMA.out 3 _ rfl)
                have g0 := IntWalk.i64_in m3 (by omega)
                have g1 := IntWalk.i64_in (t.z3 + m3) (by omega)
                have HC := Lib.hid (And.intro c0 (And.intro c1 (And.intro c2 (And.intro c3 (And.intro c4 (And.intro c5 c6))))))
                have HF := Lib.hid hfz
                clear c0 c1 c2 c4 c5 c6
                clear hfz
                go_wp2_with fail
                go_region
                go_wp2_with fail
                go_roundw
                case rel =>
                  obtain ⟨c0, c1, c2, c3, c4, c5, c6⟩ := HC.out
                  exact ⟨4, by omega, by go_num, ⟨⟨(cell_off (by omega) c0), (cell_off (by omega) c1), (cell_off (by omega) c2), (cell_set c3), (cell_off (by omega) c4), (cell_off (by omega) c5), (cell_off (by omega) c6)⟩, fun n hn => frz_set (HF.out n hn)⟩, (Ext.set hE8 (p := ⟨wA.heap.size, 3, none⟩) (Nat.le_refl _) _).drew⟩
                case measure => simp [intOf]
              · obtain ⟨⟨c0, c1, c2, c3, c4, c5, c6⟩, hfz⟩ := hbox
                have f4 := hfz 4 (by omega)
                have d0 := (HTA.out.ext hE8).2.2.2.2.1
                have d1 := hE8.cell (HMA.out 4 _ rfl)
                have g0 := IntWalk.i64_in m4 (by omega)
                have g1 := IntWalk.i64_in (t.z4 + m4) (by omega)
                have HC := Lib.hid (And.intro c0 (And.intro c1 (And.intro c2 (And.intro c3 (And.intro c4 (And.intro c5 c6))))))
                have HF := Lib.hid hfz
                clear c0 c1 c2 c3 c5 c6
                clear hfz
                go_wp2_with fail
                go_region
                go_wp2_with fail
                go_roundw
                case rel =>
                  obtain ⟨c0, c1, c2, c3, c4, c5, c6⟩ := HC.out
                  exact ⟨5, by omega, by go_num, ⟨⟨(cell_off (by omega) c0), (cell_off (by omega) c1), (cell_off (by omega) c2), (cell_off (by omega) c3), (cell_set c4), (cell_off (by omega) c5), (cell_off (by omega) c6)⟩, fun n hn => frz_set (HF.out n hn)⟩, (Ext.set hE8 (p := ⟨wA.heap.size, 4, none⟩) (Nat.le_refl _) _).drew⟩
                case measure => simp [intOf]
              · obtain ⟨⟨c0, c1, c2, c3, c4, c5, c6⟩, hfz⟩ := hbox
                have f5 := hfz 5 (by omega)
                have d0 := (HTA.out.ext hE8).2.2.2.2.2.1
                have d1 := hE8.cell (HMA.out 5 _ rfl)
                have g0 := IntWalk.i64_in m5 (by omega)
                have g1 := IntWalk.i64_in (t.z5 + m5) (by omega)
                have HC := Lib.hid (And.intro c0 (And.intro c1 (And.intro c2 (And.intro c3 (And.intro c4 (And.intro c5 c6))))))
                have HF := Lib.hid hfz
                clear c0 c1 c2 c3 c4 c6
                clear hfz
                go_wp2_with fail
                go_region
                go_wp2_with fail
                go_roundw
                case rel =>
                  obtain ⟨c0, c1, c2, c3, c4, c5, c6⟩ := HC.out
                  exact ⟨6, by omega, by go_num, ⟨⟨(cell_off (by omega) c0), (cell_off (by omega) c1), (cell_off (by omega) c2), (cell_off (by omega) c3), (cell_off (by omega) c4), (cell_set c5), (cell_off (by omega) c6)⟩, fun n hn => frz_set (HF.out n hn)⟩, (Ext.set hE8 (p := ⟨wA.heap.size, 5, none⟩) (Nat.le_refl _) _).drew⟩
                case measure => simp [intOf]
              · have hboxU : TripBox wA.heap.size (moreT t m0 m1 m2 m3 m4 m5) (.slice Ap t.passages.length capp) wU := by rw [hq6] at hbox; exact hbox
                have hq7 : ¬ (q : Int) < 6 := by omega
                clear hq6
                have GS := Lib.hid (grow_size (l := l) hsz h0.1 h1.1 h2.1 h3.1 h4.1 h5.1)
                have hszu := sizes_more hsz h0.1 h1.1 h2.1 h3.1 h4.1 h5.1
                have EU := E5.trans (hE.trans hE8)
                have HMU := Lib.hid (HM.out.ext RAuth.stable hE8)
                have HTU := Lib.hid (HTA.out.ext hE8)
                have HPU := Lib.hid (HPA.out.ext hE8)
                have HUU := Lib.hid hboxU.1
                generalize moreT t m0 m1 m2 m3 m4 m5 = u at *
                clear hbox hboxU y0 y1 y2 y3 y4 y5 hmn HMA HTA HPA HM HB0 HB2 HB1 HT HPB eU hE8 hV2 h0 h1 h2 h3 h4 h5 HS5 HR5 HRL E4
                have hzU := lt_of_cell HUU.out.1
                replace hbg := Lib.hid hbg
                go_wp2_with fail
                go_loopw [20, 21, 22, 23, 24, 25, 26, 27, 28, 29, 30, 31, 32] (fun i _ _ _ _ _ _ _ _ _ _ _ _ wr => ∃ q : Nat, q ≤ 2 ∧ i = .int .i64 q ∧ Ext wU wr) (fun i _ _ _ _ _ _ _ _ _ _ _ _ _ => 2 - (intOf i).toNat)
                case atStart => exact ⟨0, by omega, rfl, Ext.refl _⟩
                case round =>
                  obtain ⟨q, hq, rfl, hE9⟩ := hrel
                  obtain ⟨wQ, hwQ⟩ : ∃ z : World, z = wr := ⟨_, rfl⟩
                  subst hwQ
                  by_cases hq2 : q < 2
                  · have hq3 : (q : Int) < 2 := by omega
                    have HTQ := Lib.hid (HTU.out.ext hE9)
                    have HUQ := Lib.hid (HUU.out.ext hE9)
                    go_upto_region 21 with fail
                    have lT2 := lt_of_cell HTQ.out.1
                    have lU2 := lt_of_cell HUQ.out.1
                    rcases (show q = 0 ∨ q = 1 by omega) with rfl | rfl
                    · obtain ⟨t0, t1, t2, t3, t4, t5, t6⟩ := HTQ.out
                      go_region
                      have TN := (TripAt.new t (.slice Ap t.passages.length capp) wQ).ext (Ext.refl _).drew
                      have eN : Ext wQ ((wQ.alloc (.cells #[.int .i64 t.z0, .int .i64 t.z1, .int .i64 t.z2, .int .i64 t.z3, .int .i64 t.z4, .int .i64 t.z5, .slice Ap t.passages.length capp] 26)).drew) := ((Ext.refl _).alloc _).drew
                      generalize (wQ.alloc (.cells #[.int .i64 t.z0, .int .i64 t.z1, .int .i64 t.z2, .int .i64 t.z3, .int .i64 t.z4, .int .i64 t.z5, .slice Ap t.passages.length capp] 26)).drew = W8 at *
                      have HTS := Lib.hid TN
                      have E8 := EU.trans (hE9.trans eN)
                      have HKL := Lib.hid (HMU.out.ext RAuth.stable (hE9.trans eN))
                      have GG := GR
                      clear TN t0 t1 t2 t3 t4 t5 t6
                      have HPP := Lib.hid (HP.out.ext RPass.stable E8)
                      have HLL := Lib.hid (HS.out.ext RAuth.stable E8)
                      have HPS := Lib.hid (show Sl 3 RPass W8 (.slice Ap t.passages.length capp) t.passages by rw [GG.out.pass]; exact HPP.out)
                      have X1 := Lib.hid (fun w' (h : Ext W8 w') => CheckAll_c _ ML w' (HKL.out.ext RAuth.stable h))
                      have X2 := fun w' (h : Ext W8 w') => Compile_c _ _ ML t w' (HKL.out.ext RAuth.stable h) (HPS.out.ext RPass.stable h)
                      have X3 := fun w' (h : Ext W8 w') => Allowed_c _ _ l t k at' w' hk hk2 (HLL.out.ext RAuth.stable h) (HPP.out.ext RPass.stable h)
                      have X4 := fun w' (h : Ext W8 w') => Allowed_c _ _ ML t k at' w' hk hk2 (HKL.out.ext RAuth.stable h) (HPS.out.ext RPass.stable h)
                      have X5 := fun w' (h : Ext W8 w') => Conflict_c _ _ l t k w' hk hk2 (HLL.out.ext RAuth.stable h) (HPP.out.ext RPass.stable h)
                      have X6 := fun w' (h : Ext W8 w') => Conflict_c _ _ ML t k w' hk hk2 (HKL.out.ext RAuth.stable h) (HPS.out.ext RPass.stable h)
                      unfold tripV CompR at X2
                      unfold tripV AllowR at X3 X4
                      unfold tripV ConflictR at X5 X6
                      obtain ⟨s0, s1, s2, s3, s4, s5, s6⟩ := HTS.out
                      by_cases hea : allE ML = 0
                      · have hb2 := GG.out.begin hbg.out hea hsz
                        have hfee : F1 ≤ feeS ML t := by rw [← HF1.out]; unfold feeS; rw [GG.out.pass]; exact GG.out.fee hbg.out hb2 _ (Nat.le_refl _)
                        have hnot : noticeS ML t = N1 := by rw [← HN1.out]; unfold noticeS; rw [GG.out.pass]; exact GG.out.notice hbg.out _ (Nat.le_refl _)
                        have hcon : CL.length ≤ (conds ML t).length := by rw [← HCL.out]; unfold conds; rw [GG.out.pass]; exact GG.out.conds _ (Nat.le_refl _)
                        obtain ⟨hal2, hal1⟩ := GG.out.allow hbg.out hb2 k at'
                        obtain ⟨hcf2, hcf1⟩ := GG.out.conf hbg.out hb2 k
                        rw [hnot] at X2
                        obtain ⟨⟨a1, a2⟩, ha⟩ : ∃ z, allowS l t k at' = z := ⟨_, rfl⟩
                        obtain ⟨⟨b1, b2⟩, hb⟩ : ∃ z, allowS ML t k at' = z := ⟨_, rfl⟩
                        obtain ⟨⟨k1, kl1, ke1⟩, hc⟩ : ∃ z, conflictS l t k = z := ⟨_, rfl⟩
                        obtain ⟨⟨q1, ql1, qe1⟩, hd⟩ : ∃ z, conflictS ML t k = z := ⟨_, rfl⟩
                        rw [ha] at X3 hal1 hal2
                        rw [hb] at X4 hal1 hal2
                        rw [hc] at X5 hcf1 hcf2
                        rw [hd] at X6 hcf1 hcf2
                        simp only at X3 X4 X5 X6 hal1 hal2 hcf1 hcf2
                        subst hal2
                        subst hcf2
                        replace X1 := X1.out
                        rw [hea] at X1
                        replace X1 := Lib.hid X1
                        replace X2 := Lib.hid X2
                        replace X3 := Lib.hid X3
                        replace X4 := Lib.hid X4
                        replace X5 := Lib.hid X5
                        replace X6 := Lib.hid X6
                        have HB2 := Lib.hid hb2
                        have HAL := Lib.hid hal1
                        have HCF := Lib.hid hcf1
                        have HFE := Lib.hid (show ¬ feeS ML t < F1 by omega)
                        have HCO := Lib.hid (show ¬ ((conds ML t).length : Int) < (CL.length : Int) by omega)
                        clear ha hb hc hd hnot hb2 hal1 hcf1 hfee hcon hea
                        generalize feeS ML t = F2 at *
                        generalize conds ML t = CS at *
                        go_upto_region 25 with (go_at_call 16; refine (X1.out _ (Ext.refl _)).mono ?_; rintro e w9 ⟨rfl, hb9⟩)
                        have HT9 := Lib.hid (HTS.out.ext hb9)
                        clear s0 s1 s2 s3 s4 s5 s6
                        obtain ⟨s0, s1, s2, s3, s4, s5, s6⟩ := HT9.out
                        go_wp2_with fail
                        refine (X2.out _ hb9).mono ?_
                        rintro e w10 ⟨hb10, ⟨hne, _⟩ | ⟨_, vc2, rfl, hco2⟩⟩
                        · exact absurd HB2.out hne
                        · obtain ⟨A2, c2, rfl, _, _⟩ := hco2.shape
                          go_upto_region 26 with fail
                          have eP : Ext w10 (w10.alloc (.cells #[.slice A2 CS.length c2, .int .i64 F2, .int .i64 N1] 31)) := (Ext.refl _).alloc _
                          have bQ := BoxAt.of (heap_alloc_new w10 (.cells #[.slice A2 CS.length c2, .int .i64 F2, .int .i64 N1] 31))
                          generalize (w10.alloc (.cells #[.slice A2 CS.length c2, .int .i64 F2, .int .i64 N1] 31)) = W11 at *
                          have e11 := hb9.trans (hb10.trans eP)
                          have p0 := bQ 0 _ rfl
                          have p1 := bQ 1 _ rfl
                          have p2 := bQ 2 _ rfl
                          have EP := (hE9.trans eN).trans e11
                          have o0 := EP.cell (HPU.out 0 _ rfl)
                          have o1 := EP.cell (HPU.out 1 _ rfl)
                          have o2 := EP.cell (HPU.out 2 _ rfl)
                          have hfe := HFE.out
                          have hcoo := HCO.out
                          have HT11 := Lib.hid (HTS.out.ext e11)
                          have HTL := Lib.hid ((HTU.out.ext (hE9.trans eN)).ext e11)
                          clear s0 s1 s2 s3 s4 s5 s6 HT9 bQ hco2 hb10 eP hb9
                          obtain ⟨t0, t1, t2, t3, t4, t5, t6⟩ := HTL.out
                          go_upto_region 29 with (go_at_call 30; refine (X3.out _ e11).mono ?_; rintro e w12 ⟨hb12, rfl⟩)
                          have e12 := e11.trans hb12
                          have HT12 := Lib.hid (HT11.out.ext hb12)
                          have HL12 := Lib.hid (HTL.out.ext hb12)
                          clear t0 t1 t2 t3 t4 t5 t6 o0 o1 o2 p0 p1 p2 hfe hcoo HT11 HTL
                          obtain ⟨s0, s1, s2, s3, s4, s5, s6⟩ := HT12.out
                          go_upto_region 30 with (go_at_call 30; refine (X4.out _ e12).mono ?_; rintro e w13 ⟨hb13, rfl⟩)
                          have e13 := e12.trans hb13
                          have HT13 := Lib.hid (HT12.out.ext hb13)
                          have HL13 := Lib.hid (HL12.out.ext hb13)
                          clear s0 s1 s2 s3 s4 s5 s6 HT12 HL12
                          obtain ⟨t0, t1, t2, t3, t4, t5, t6⟩ := HL13.out
                          have hbad : (b1 && !a1) = false := by cases b1 with
                            | false => rfl
                            | true => rw [HAL.out rfl]; rfl
                          cases b1 <;> cases a1
                          all_goals try (exact absurd hbad (by decide))
                          all_goals
                            clear hbad
                            go_upto_region 33 with (go_at_call 25; refine (X5.out _ e13).mono ?_; rintro e w14 ⟨hb14, v14, rfl, _⟩)
                            have e14 := e13.trans hb14
                            have HT14 := Lib.hid (HT13.out.ext hb14)
                            clear t0 t1 t2 t3 t4 t5 t6
                            obtain ⟨s0, s1, s2, s3, s4, s5, s6⟩ := HT14.out
                            go_upto_region 34 with (go_at_call 25; refine (X6.out _ e14).mono ?_; rintro e w15 ⟨hb15, v15, rfl, _⟩)
                            have e15 := e14.trans hb15
                            by_cases hk1 : k1 = 0
                            · have hk9 : (k1 != 0) = false := by simp [hk1]
                              clear hk1
                              go_wp2_with fail
                              go_roundw
                              case rel => exact ⟨1, by omega, by go_num, hE9.trans (eN.trans e15)⟩
                              case measure => simp [intOf]
                            · have hq9 : (q1 == 0) = false := by simpa using HCF.out hk1
                              have hk9 : (k1 != 0) = true := by simp [hk1]
                              clear hk1
                              go_wp2_with fail
                              go_roundw
                              case rel => exact ⟨1, by omega, by go_num, hE9.trans (eN.trans e15)⟩
                              case measure => simp [intOf]
                      · have hea' : (allE ML != 0) = true := by simp [hea]
                        replace X1 := X1.out
                        generalize allE ML = EA at *
                        replace X1 := Lib.hid X1
                        clear X2 X3 X4 X5 X6
                        go_wp2_with (go_at_call 16; refine (X1.out _ (Ext.refl _)).mono ?_; rintro e w9 ⟨rfl, hb9⟩)
                        go_roundw
                        case rel => exact ⟨1, by omega, by go_num, hE9.trans (eN.trans hb9)⟩
                        case measure => simp [intOf]
                    · obtain ⟨t0, t1, t2, t3, t4, t5, t6⟩ := HTQ.out
                      go_region
                      have TN := (TripBox.new t (.slice Ap t.passages.length capp) wQ).ext (Ext.refl _).drew
                      have eN : Ext wQ ((wQ.alloc (.cells #[.int .i64 t.z0, .int .i64 t.z1, .int .i64 t.z2, .int .i64 t.z3, .int .i64 t.z4, .int .i64 t.z5, .slice Ap t.passages.length capp] 26)).drew) := ((Ext.refl _).alloc _).drew
                      generalize (wQ.alloc (.cells #[.int .i64 t.z0, .int .i64 t.z1, .int .i64 t.z2, .int .i64 t.z3, .int .i64 t.z4, .int .i64 t.z5, .slice Ap t.passages.length capp] 26)).drew = W8 at *
                      obtain ⟨⟨c0, c1, c2, c3, c4, c5, c6⟩, hfz⟩ := TN
                      have f0 := hfz 0 (by omega)
                      have f1 := hfz 1 (by omega)
                      have f2 := hfz 2 (by omega)
                      have f3 := hfz 3 (by omega)
                      have f4 := hfz 4 (by omega)
                      have f5 := hfz 5 (by omega)
                      have f6 := hfz 6 (by omega)
                      have TU := HUQ.out.ext eN
                      clear t0 t1 t2 t3 t4 t5 t6 hfz
                      obtain ⟨u0, u1, u2, u3, u4, u5, u6⟩ := TU
                      have hii : ((1 : Nat) : Int) = 1 := rfl
                      go_upto_region 23 with fail
                      go_region
                      have TN2 : TripAt wQ.heap.size u (.slice Ap t.passages.length capp) ((((((((W8.setCell ⟨wQ.heap.size, 0, none⟩ (.int .i64 u.z0)).setCell ⟨wQ.heap.size, 1, none⟩ (.int .i64 u.z1)).setCell ⟨wQ.heap.size, 2, none⟩ (.int .i64 u.z2)).setCell ⟨wQ.heap.size, 3, none⟩ (.int .i64 u.z3)).setCell ⟨wQ.heap.size, 4, none⟩ (.int .i64 u.z4)).setCell ⟨wQ.heap.size, 5, none⟩ (.int .i64 u.z5)).setCell ⟨wQ.heap.size, 6, none⟩ (.slice Ap t.passages.length capp)).drew) := TripAt.ext (W := (((((((W8.setCell ⟨wQ.heap.size, 0, none⟩ (.int .i64 u.z0)).setCell ⟨wQ.heap.size, 1, none⟩ (.int .i64 u.z1)).setCell ⟨wQ.heap.size, 2, none⟩ (.int .i64 u.z2)).setCell ⟨wQ.heap.size, 3, none⟩ (.int .i64 u.z3)).setCell ⟨wQ.heap.size, 4, none⟩ (.int .i64 u.z4)).setCell ⟨wQ.heap.size, 5, none⟩ (.int .i64 u.z5)).setCell ⟨wQ.heap.size, 6, none⟩ (.slice Ap t.passages.length capp))) ⟨(cell_off (by omega) (cell_off (by omega) (cell_off (by omega) (cell_off (by omega) (cell_off (by omega) (cell_off (by omega) (cell_set c0))))))), (cell_off (by omega) (cell_off (by omega) (cell_off (by omega) (cell_off (by omega) (cell_off (by omega) (cell_set (cell_off (by omega) c1))))))), (cell_off (by omega) (cell_off (by omega) (cell_off (by omega) (cell_off (by omega) (cell_set (cell_off (by omega) (cell_off (by omega) c2))))))), (cell_off (by omega) (cell_off (by omega) (cell_off (by omega) (cell_set (cell_off (by omega) (cell_off (by omega) (cell_off (by omega) c3))))))), (cell_off (by omega) (cell_off (by omega) (cell_set (cell_off (by omega) (cell_off (by omega) (cell_off (by omega) (cell_off (by omega) c4))))))), (cell_off (by omega) (cell_set (cell_off (by omega) (cell_off (by omega) (cell_off (by omega) (cell_off (by omega) (cell_off (by omega) c5))))))), (cell_set (cell_off (by omega) (cell_off (by omega) (cell_off (by omega) (cell_off (by omega) (cell_off (by omega) (cell_off (by omega) c6)))))))⟩ (Ext.refl _).drew
                      have eN2 : Ext wQ ((((((((W8.setCell ⟨wQ.heap.size, 0, none⟩ (.int .i64 u.z0)).setCell ⟨wQ.heap.size, 1, none⟩ (.int .i64 u.z1)).setCell ⟨wQ.heap.size, 2, none⟩ (.int .i64 u.z2)).setCell ⟨wQ.heap.size, 3, none⟩ (.int .i64 u.z3)).setCell ⟨wQ.heap.size, 4, none⟩ (.int .i64 u.z4)).setCell ⟨wQ.heap.size, 5, none⟩ (.int .i64 u.z5)).setCell ⟨wQ.heap.size, 6, none⟩ (.slice Ap t.passages.length capp)).drew) := (Ext.set (Ext.set (Ext.set (Ext.set (Ext.set (Ext.set (Ext.set eN (p := ⟨wQ.heap.size, 0, none⟩) (Nat.le_refl _) _) (p := ⟨wQ.heap.size, 1, none⟩) (Nat.le_refl _) _) (p := ⟨wQ.heap.size, 2, none⟩) (Nat.le_refl _) _) (p := ⟨wQ.heap.size, 3, none⟩) (Nat.le_refl _) _) (p := ⟨wQ.heap.size, 4, none⟩) (Nat.le_refl _) _) (p := ⟨wQ.heap.size, 5, none⟩) (Nat.le_refl _) _) (p := ⟨wQ.heap.size, 6, none⟩) (Nat.le_refl _) _).drew
                      generalize (((((((W8.setCell ⟨wQ.heap.size, 0, none⟩ (.int .i64 u.z0)).setCell ⟨wQ.heap.size, 1, none⟩ (.int .i64 u.z1)).setCell ⟨wQ.heap.size, 2, none⟩ (.int .i64 u.z2)).setCell ⟨wQ.heap.size, 3, none⟩ (.int .i64 u.z3)).setCell ⟨wQ.heap.size, 4, none⟩ (.int .i64 u.z4)).setCell ⟨wQ.heap.size, 5, none⟩ (.int .i64 u.z5)).setCell ⟨wQ.heap.size, 6, none⟩ (.slice Ap t.passages.length capp)).drew = W9 at *
                      have HTS := Lib.hid TN2
                      have E8 := EU.trans (hE9.trans eN2)
                      have HKL := Lib.hid (HS.out.ext RAuth.stable E8)
                      have GG := GS
                      clear TN2 c0 c1 c2 c3 c4 c5 c6 f0 f1 f2 f3 f4 f5 f6 u0 u1 u2 u3 u4 u5 u6 eN
                      have HPP := Lib.hid (HP.out.ext RPass.stable E8)
                      have HLL := Lib.hid (HS.out.ext RAuth.stable E8)
                      have HPS := Lib.hid (show Sl 3 RPass W9 (.slice Ap t.passages.length capp) u.passages by rw [GG.out.pass]; exact HPP.out)
                      have X1 := Lib.hid (fun w' (h : Ext W9 w') => CheckAll_c _ l w' (HKL.out.ext RAuth.stable h))
                      have X2 := fun w' (h : Ext W9 w') => Compile_c _ _ l u w' (HKL.out.ext RAuth.stable h) (HPS.out.ext RPass.stable h)
                      have X3 := fun w' (h : Ext W9 w') => Allowed_c _ _ l t k at' w' hk hk2 (HLL.out.ext RAuth.stable h) (HPP.out.ext RPass.stable h)
                      have X4 := fun w' (h : Ext W9 w') => Allowed_c _ _ l u k at' w' hk hk2 (HKL.out.ext RAuth.stable h) (HPS.out.ext RPass.stable h)
                      have X5 := fun w' (h : Ext W9 w') => Conflict_c _ _ l t k w' hk hk2 (HLL.out.ext RAuth.stable h) (HPP.out.ext RPass.stable h)
                      have X6 := fun w' (h : Ext W9 w') => Conflict_c _ _ l u k w' hk hk2 (HKL.out.ext RAuth.stable h) (HPS.out.ext RPass.stable h)
                      unfold tripV CompR at X2
                      unfold tripV AllowR at X3 X4
                      unfold tripV ConflictR at X5 X6
                      obtain ⟨s0, s1, s2, s3, s4, s5, s6⟩ := HTS.out
                      by_cases hea : allE l = 0
                      · have hb2 := GG.out.begin hbg.out hea hszu
                        have hfee : F1 ≤ feeS l u := by rw [← HF1.out]; unfold feeS; rw [GG.out.pass]; exact GG.out.fee hbg.out hb2 _ (Nat.le_refl _)
                        have hnot : noticeS l u = N1 := by rw [← HN1.out]; unfold noticeS; rw [GG.out.pass]; exact GG.out.notice hbg.out _ (Nat.le_refl _)
                        have hcon : CL.length ≤ (conds l u).length := by rw [← HCL.out]; unfold conds; rw [GG.out.pass]; exact GG.out.conds _ (Nat.le_refl _)
                        obtain ⟨hal2, hal1⟩ := GG.out.allow hbg.out hb2 k at'
                        obtain ⟨hcf2, hcf1⟩ := GG.out.conf hbg.out hb2 k
                        rw [hnot] at X2
                        obtain ⟨⟨a1, a2⟩, ha⟩ : ∃ z, allowS l t k at' = z := ⟨_, rfl⟩
                        obtain ⟨⟨b1, b2⟩, hb⟩ : ∃ z, allowS l u k at' = z := ⟨_, rfl⟩
                        obtain ⟨⟨k1, kl1, ke1⟩, hc⟩ : ∃ z, conflictS l t k = z := ⟨_, rfl⟩
                        obtain ⟨⟨q1, ql1, qe1⟩, hd⟩ : ∃ z, conflictS l u k = z := ⟨_, rfl⟩
                        rw [ha] at X3 hal1 hal2
                        rw [hb] at X4 hal1 hal2
                        rw [hc] at X5 hcf1 hcf2
                        rw [hd] at X6 hcf1 hcf2
                        simp only at X3 X4 X5 X6 hal1 hal2 hcf1 hcf2
                        subst hal2
                        subst hcf2
                        replace X1 := X1.out
                        rw [hea] at X1
                        replace X1 := Lib.hid X1
                        replace X2 := Lib.hid X2
                        replace X3 := Lib.hid X3
                        replace X4 := Lib.hid X4
                        replace X5 := Lib.hid X5
                        replace X6 := Lib.hid X6
                        have HB2 := Lib.hid hb2
                        have HAL := Lib.hid hal1
                        have HCF := Lib.hid hcf1
                        have HFE := Lib.hid (show ¬ feeS l u < F1 by omega)
                        have HCO := Lib.hid (show ¬ ((conds l u).length : Int) < (CL.length : Int) by omega)
                        clear ha hb hc hd hnot hb2 hal1 hcf1 hfee hcon hea
                        generalize feeS l u = F2 at *
                        generalize conds l u = CS at *
                        go_upto_region 25 with (go_at_call 16; refine (X1.out _ (Ext.refl _)).mono ?_; rintro e w9 ⟨rfl, hb9⟩)
                        have HT9 := Lib.hid (HTS.out.ext hb9)
                        clear s0 s1 s2 s3 s4 s5 s6
                        obtain ⟨s0, s1, s2, s3, s4, s5, s6⟩ := HT9.out
                        go_wp2_with fail
                        refine (X2.out _ hb9).mono ?_
                        rintro e w10 ⟨hb10, ⟨hne, _⟩ | ⟨_, vc2, rfl, hco2⟩⟩
                        · exact absurd HB2.out hne
                        · obtain ⟨A2, c2, rfl, _, _⟩ := hco2.shape
                          go_upto_region 26 with fail
                          have eP : Ext w10 (w10.alloc (.cells #[.slice A2 CS.length c2, .int .i64 F2, .int .i64 N1] 31)) := (Ext.refl _).alloc _
                          have bQ := BoxAt.of (heap_alloc_new w10 (.cells #[.slice A2 CS.length c2, .int .i64 F2, .int .i64 N1] 31))
                          generalize (w10.alloc (.cells #[.slice A2 CS.length c2, .int .i64 F2, .int .i64 N1] 31)) = W11 at *
                          have e11 := hb9.trans (hb10.trans eP)
                          have p0 := bQ 0 _ rfl
                          have p1 := bQ 1 _ rfl
                          have p2 := bQ 2 _ rfl
                          have EP := (hE9.trans eN2).trans e11
                          have o0 := EP.cell (HPU.out 0 _ rfl)
                          have o1 := EP.cell (HPU.out 1 _ rfl)
                          have o2 := EP.cell (HPU.out 2 _ rfl)
                          have hfe := HFE.out
                          have hcoo := HCO.out
                          have HT11 := Lib.hid (HTS.out.ext e11)
                          have HTL := Lib.hid ((HTU.out.ext (hE9.trans eN2)).ext e11)
                          clear s0 s1 s2 s3 s4 s5 s6 HT9 bQ hco2 hb10 eP hb9
                          obtain ⟨t0, t1, t2, t3, t4, t5, t6⟩ := HTL.out
                          go_upto_region 29 with (go_at_call 30; refine (X3.out _ e11).mono ?_; rintro e w12 ⟨hb12, rfl⟩)
                          have e12 := e11.trans hb12
                          have HT12 := Lib.hid (HT11.out.ext hb12)
                          have HL12 := Lib.hid (HTL.out.ext hb12)
                          clear t0 t1 t2 t3 t4 t5 t6 o0 o1 o2 p0 p1 p2 hfe hcoo HT11 HTL
                          obtain ⟨s0, s1, s2, s3, s4, s5, s6⟩ := HT12.out
                          go_upto_region 30 with (go_at_call 30; refine (X4.out _ e12).mono ?_; rintro e w13 ⟨hb13, rfl⟩)
                          have e13 := e12.trans hb13
                          have HT13 := Lib.hid (HT12.out.ext hb13)
                          have HL13 := Lib.hid (HL12.out.ext hb13)
                          clear s0 s1 s2 s3 s4 s5 s6 HT12 HL12
                          obtain ⟨t0, t1, t2, t3, t4, t5, t6⟩ := HL13.out
                          have hbad : (b1 && !a1) = false := by cases b1 with
                            | false => rfl
                            | true => rw [HAL.out rfl]; rfl
                          cases b1 <;> cases a1
                          all_goals try (exact absurd hbad (by decide))
                          all_goals
                            clear hbad
                            go_upto_region 33 with (go_at_call 25; refine (X5.out _ e13).mono ?_; rintro e w14 ⟨hb14, v14, rfl, _⟩)
                            have e14 := e13.trans hb14
                            have HT14 := Lib.hid (HT13.out.ext hb14)
                            clear t0 t1 t2 t3 t4 t5 t6
                            obtain ⟨s0, s1, s2, s3, s4, s5, s6⟩ := HT14.out
                            go_upto_region 34 with (go_at_call 25; refine (X6.out _ e14).mono ?_; rintro e w15 ⟨hb15, v15, rfl, _⟩)
                            have e15 := e14.trans hb15
                            by_cases hk1 : k1 = 0
                            · have hk9 : (k1 != 0) = false := by simp [hk1]
                              clear hk1
                              go_wp2_with fail
                              go_roundw
                              case rel => exact ⟨2, by omega, by go_num, hE9.trans (eN2.trans e15)⟩
                              case measure => simp [intOf]
                            · have hq9 : (q1 == 0) = false := by simpa using HCF.out hk1
                              have hk9 : (k1 != 0) = true := by simp [hk1]
                              clear hk1
                              go_wp2_with fail
                              go_roundw
                              case rel => exact ⟨2, by omega, by go_num, hE9.trans (eN2.trans e15)⟩
                              case measure => simp [intOf]
                      · have hea' : (allE l != 0) = true := by simp [hea]
                        replace X1 := X1.out
                        generalize allE l = EA at *
                        replace X1 := Lib.hid X1
                        clear X2 X3 X4 X5 X6
                        go_wp2_with (go_at_call 16; refine (X1.out _ (Ext.refl _)).mono ?_; rintro e w9 ⟨rfl, hb9⟩)
                        go_roundw
                        case rel => exact ⟨2, by omega, by go_num, hE9.trans (eN2.trans hb9)⟩
                        case measure => simp [intOf]
                  · have hq3 : ¬ (q : Int) < 2 := by omega
                    go_wp2_with (go_at_call 13; refine (KN.out _).mono ?_; rintro e w8 ⟨rfl, hb8⟩)
                    go_ret
                    exact ⟨rfl, EU.trans (hE9.trans hb8)⟩
    · go_wp2_with (go_at_call 13; refine (KN.out _).mono ?_; rintro e w3 ⟨rfl, hb3⟩)
      go_ret
      exact ⟨rfl, E4.trans hb3⟩
  · go_wp2_with (go_at_call 13; refine (KN.out _).mono ?_; rintro e w2 ⟨rfl, hb2⟩)
    go_ret
    exact ⟨rfl, E3.trans hb2⟩
end Go.Proofs.Ytaomlmkcifpfkaa
