/- Contracts: 'Of': the numbers and the rules of a passage. -/
import Derived.Test.YtaomlmkcifpfkaaPOf
import Derived.Deep.RegionHeld3
import Derived.Deep.DrawnRows
namespace Go.Proofs.Ytaomlmkcifpfkaa
open Go.RowKit
attribute [local go_sem ↓] Go.wp_at_zero Go.wp_at_succ

def RInt (_ : World) (cs : List Value) (n : Int) : Prop := cs = [.int .i64 n]
theorem RInt.stable : Stable RInt := fun _ _ _ _ _ h => h
theorem infoInt : (Try.prog.info? 3).map (fun i => (i.zero, i.size, i.bytes)) = some (some (.int .i64 0), 1, 8) := by kernel_rfl
theorem infoRule : (Try.prog.info? 58).map (fun i => (i.zero, i.size, i.bytes)) = some (some (.agg #[.string ⟨#[]⟩, .slice none 0 0, .slice none 0 0, .int .i64 0, .int .i64 0, .int .i64 0, .int .i64 0, .int .i64 0, .bool false, .slice none 0 0, .int .i64 0]), 11, 144) := by kernel_rfl
theorem own_types {w : World} {b b' : Nat} {e e' : TypeId} {n m n' m' : Nat} {v v' : Value} {xs xs' : List Value} (h : w.ownsRow b e n v m xs) (h' : w.ownsRow b' e' n' v' m' xs') (hne : e ≠ e') {g : Nat} (hg : v'.ownBlock = some g) : v.ownBlock ≠ some g := by
  intro hg2
  rcases h.2 with ⟨rfl, _⟩ | ⟨g1, cap, cur, rfl, hb, hh, _⟩
  · simp [Value.ownBlock] at hg2
  · rcases h'.2 with ⟨rfl, _⟩ | ⟨g2, cap', cur', rfl, hb', hh', _⟩
    · simp [Value.ownBlock] at hg
    · simp only [Value.ownBlock, Option.some.injEq] at hg hg2
      subst hg
      rw [hg2, hh'] at hh
      simp only [Option.some.injEq, Obj.cells.injEq] at hh
      exact hne hh.2.1.symm
theorem own_lt {w : World} {b : Nat} {e : TypeId} {n m : Nat} {v : Value} {xs : List Value} (h : w.ownsRow b e n v m xs) {g : Nat} (hg : v.ownBlock = some g) : g < w.heap.size := by
  rcases h.2 with ⟨rfl, _⟩ | ⟨g1, cap, cur, rfl, hb, hh, _⟩
  · simp [Value.ownBlock] at hg
  · simp only [Value.ownBlock, Option.some.injEq] at hg
    subst hg
    rcases Nat.lt_or_ge g1 w.heap.size with h | h
    · exact h
    · rw [Array.getElem?_eq_none h] at hh; cases hh
/-- what is appended to another row leaves a row alone -/
theorem ownsRow_grown {w w' : World} {b : Nat} {e : TypeId} {n m : Nat} {v : Value} {xs : List Value} (h : w.ownsRow b e n v m xs) {row : Option Nat} (hg : w.grownBy w' row) (hne : ∀ g, row = some g → v.ownBlock ≠ some g) : w'.ownsRow b e n v m xs := by
  refine ⟨h.1, ?_⟩
  rcases h.2 with h0 | ⟨g1, cap, cur, hv, hb, hh, hr⟩
  · exact .inl h0
  · have hlt := own_lt h (g := g1) (by rw [hv]; rfl)
    exact .inr ⟨g1, cap, cur, hv, hb, (hg.block g1 hlt (fun e => hne g1 e.symm (by rw [hv]; rfl))).trans hh, hr⟩
theorem OwnL.grown {α : Type} {n : Nat} {e : TypeId} {R : World → List Value → α → Prop} {base : Nat} {w w' : World} {v : Value} {l : List α} (h : OwnL n e R base w v l) (hR : ∀ cs x, R w cs x → R w' cs x) {row : Option Nat} (hg : w.grownBy w' row) (hne : ∀ g, row = some g → v.ownBlock ≠ some g) : OwnL n e R base w' v l := by
  obtain ⟨css, hl, hown, hx⟩ := h
  exact ⟨css, hl, ownsRow_grown hown hg hne, fun i cs x h1 h2 => ⟨(hx i cs x h1 h2).1, hR _ _ (hx i cs x h1 h2).2⟩⟩
theorem OwnL.alloc {α : Type} {n : Nat} {e : TypeId} {R : World → List Value → α → Prop} {base : Nat} {w : World} {v : Value} {l : List α} {o : Obj} (h : OwnL n e R base w v l) (hR : ∀ cs x, R w cs x → R (w.alloc o) cs x) : OwnL n e R base (w.alloc o) v l := by
  obtain ⟨css, hl, hown, hx⟩ := h
  exact ⟨css, hl, hown.alloc _, fun i cs x h1 h2 => ⟨(hx i cs x h1 h2).1, hR _ _ (hx i cs x h1 h2).2⟩⟩
theorem OwnL.to {α : Type} {n : Nat} {e : TypeId} {R R' : World → List Value → α → Prop} {base : Nat} {w : World} {v : Value} {l : List α} (h : OwnL n e R base w v l) (hR : ∀ cs x, R w cs x → R' w cs x) : OwnL n e R' base w v l := by
  obtain ⟨css, hl, hown, hx⟩ := h
  exact ⟨css, hl, hown, fun i cs x h1 h2 => ⟨(hx i cs x h1 h2).1, hR _ _ (hx i cs x h1 h2).2⟩⟩

set_option maxRecDepth 100000 in
set_option maxHeartbeats 6400000 in
theorem Of_c (v vp : Value) (l : List PAuth) (t : PTrip) (k : Nat) (p : PPass) (w : World) (hs : Sl 4 RAuth w v l) (hp : Sl 3 RPass w vp t.passages) (hV : Valid l t) (hk : t.passages[k]? = some p) :
    Calls Try.prog 23 #[v, tripV t vp, .int .i64 k] w fun e w' => ∃ vn vr, e = .returned (.tuple #[vn, vr]) ∧ Sl 1 RInt w' vn (numsOf l t k p) ∧ Sl 11 RRule w' vr (rsOf l t p) ∧ Ext w w' := by
  have C1 := fun w' (h : Ext w w') => compile_c v vp l t w' (hs.ext RAuth.stable h) (hp.ext RPass.stable h) hV
  obtain ⟨A, cap, rfl, hl, hcap⟩ := hs.shape
  obtain ⟨Ap, capp, rfl, hpl, hcapp⟩ := hp.shape
  have HS := Lib.hid hs
  have HCA := Lib.hid (conds_at hV t.passages.length (Nat.le_refl _))
  have hcl := conds_len hV
  have HN := Lib.hid (nums_eq (l := l) hk)
  have HRs := Lib.hid (rs_eq hV hk)
  have hl8 := hV.len.2
  unfold tripV at C1 ⊢
  obtain ⟨i1, hi1, hy0, hy1, hy2⟩ := info_parts infoInt
  obtain ⟨i2, hi2, hz0, hz1, hz2⟩ := info_parts infoRule
  replace C1 := Lib.hid C1
  clear hs hp hV hk
  unfold conds at hcl HN HRs C1
  generalize condsN l t t.passages.length = cl at *
  generalize numsOf l t k p = ns at *
  generalize rsOf l t p = rs at *
  generalize feeS l t = F at *
  generalize noticeS l t = N at *
  go_enter Try.func23, Try.ntmps23
  go_wp2_with fail
  refine (C1.out _ (by (repeat' (first | exact Ext.refl _ | assumption | refine Ext.alloc ?_ _ | refine Ext.drew ?_ | refine Ext.drewN ?_ _ | refine Ext.set ?_ (by first | exact Nat.le_refl _ | exact le1 _ | exact le2 _ | exact le3 _ | exact le4 _ | exact le5 _ | exact le6 _) _ | refine Ext.trans ?_ (by assumption))))).mono ?_
  rintro e w1 ⟨vc, rfl, hown, hb1⟩
  obtain ⟨vA, vcap, rfl, _, _⟩ := hown.sl.shape
  have E1 : Ext w w1 := by (repeat' (first | exact Ext.refl _ | assumption | refine Ext.alloc ?_ _ | refine Ext.drew ?_ | refine Ext.drewN ?_ _ | refine Ext.set ?_ (by first | exact Nat.le_refl _ | exact le1 _ | exact le2 _ | exact le3 _ | exact le4 _ | exact le5 _ | exact le6 _) _ | refine Ext.trans ?_ (by assumption)))
  have HO := Lib.hid hown.sl
  clear hb1 C1 hown
  go_wp2_with fail
  have E2 : Ext w1 (w1.alloc (.cells #[.slice vA cl.length vcap, .int .i64 F, .int .i64 N] 31)) := by (repeat' (first | exact Ext.refl _ | assumption | refine Ext.alloc ?_ _ | refine Ext.drew ?_ | refine Ext.drewN ?_ _ | refine Ext.set ?_ (by first | exact Nat.le_refl _ | exact le1 _ | exact le2 _ | exact le3 _ | exact le4 _ | exact le5 _ | exact le6 _) _ | refine Ext.trans ?_ (by assumption)))
  have D0 : (w1.alloc (.cells #[.slice vA cl.length vcap, .int .i64 F, .int .i64 N] 31)).cell? ⟨w1.heap.size, 0, none⟩ = some (.slice vA cl.length vcap) := by go_simp
  have hWs : (w1.alloc (.cells #[.slice vA cl.length vcap, .int .i64 F, .int .i64 N] 31)).heap.size = w1.heap.size + 1 := by simp
  generalize w1.alloc (.cells #[.slice vA cl.length vcap, .int .i64 F, .int .i64 N] 31) = W1 at *
  have HD := Lib.hid D0
  have HWs := Lib.hid hWs
  have E3 : Ext w W1 := E1.trans E2
  clear D0 hWs
  go_loopw [8, 9, 11, 12] (fun a b i _ wr => ∃ (j : Nat) (vn vr : Value), j ≤ cl.length ∧ i = .int .i64 j ∧ a = vn ∧ b = vr ∧ OwnL 1 3 RInt (w1.heap.size + 1) wr vn ((ofSel cl k j).map fun q => (q.2 : Int)) ∧ OwnL 11 58 (fun _ => RRule w) (w1.heap.size + 1) wr vr ((ofSel cl k j).map fun q => ruleOf l q.1) ∧ Ext W1 wr) (fun _ _ i _ _ => cl.length - (intOf i).toNat)
  case atStart => exact ⟨0, _, _, by omega, rfl, rfl, rfl, by simpa [ofSel] using OwnL.nil, by simpa [ofSel] using OwnL.nil, Ext.refl _⟩
  case round =>
    obtain ⟨j, vn, vr, hj, rfl, rfl, rfl, hvn, hvr, hb⟩ := hrel
    have d0 := Ext.cell hb HD.out
    by_cases hlt : j < cl.length
    · obtain ⟨c, hc⟩ := some_of_lt hlt
      obtain ⟨cb, coff, ccs, rfl, hcn, hcr, hcc⟩ := (HO.out.ext RCond.stable (E2.trans hb)).at hc
      obtain rfl : ccs = [.int .i64 c.passage, .int .i64 c.auth, .int .i64 c.rule] := hcr
      have c0 := hcc 0 _ rfl
      have c1 := hcc 1 _ rfl
      have c2 := hcc 2 _ rfl
      simp only [Nat.add_zero] at c0
      have HSu := Lib.hid (ofSel_succ (k := (k : Int)) hc)
      have hol := ofSel_len cl (k : Int) j
      obtain ⟨a, n, x, r, ha, hn, hx, hr, hro⟩ := HCA.out c (mem_of_some hc)
      have hcbl := lt_of_cell c0
      generalize c.auth = ca at *
      generalize c.rule = cn at *
      subst ha hn
      have hWB := Ext.sz hb
      rw [HWs.out] at hWB
      by_cases hpk : c.passage = (k : Int)
      · obtain ⟨b, off, xcs, rfl, _, ⟨vx, rfl, hxr⟩, hxc⟩ := HS.out.at hx
        have a3 := hxc 3 _ rfl
        obtain ⟨A3, cap3, rfl, _, _⟩ := hxr.shape
        obtain ⟨rb, roff, rcs, rfl, _, hRR, hrc⟩ := hxr.at hr
        obtain ⟨wr1, wr2, wr3, rfl, hsl⟩ := hRR
        have HRR := Lib.hid (show RRule w (ruleCs wr1 wr2 wr3 r) r from ⟨wr1, wr2, wr3, rfl, hsl⟩)
        obtain ⟨S1, P1, rfl, _, _⟩ := hsl.1.shape
        obtain ⟨S2, P2, rfl, _, _⟩ := hsl.2.1.shape
        obtain ⟨S3, P3, rfl, _, _⟩ := hsl.2.2.shape
        have hal := lt_of_some hx
        have hrl := lt_of_some hr
        have HK := Lib.hid hrc
        have h3 := Lib.hid a3
        have hro' := Lib.hid hro
        rw [if_pos (by simp [hpk])] at HSu
        rw [hpk] at c0
        clear hxc hxr hrc hsl hx hr hcc hcn hc a3 hro
        have j1 : (0 : Int) ≤ (a : Int) := by omega
        have j2 : (a : Int) < (l.length : Int) := by omega
        have j3 : (0 : Int) ≤ (n : Int) := by omega
        have j4 : (n : Int) < (x.rules.length : Int) := by omega
        obtain ⟨css, hcs, hown, hcx⟩ := hvn
        have HCX := Lib.hid hcx
        have HVR := Lib.hid hvr
        have hlen : ((ofSel cl (k : Int) j).map fun q => (q.2 : Int)).length ≤ 576 := by rw [List.length_map]; omega
        have hlen2 : ((ofSel cl (k : Int) j).map fun q => ruleOf l q.1).length ≤ 576 := by rw [List.length_map]; omega
        generalize hL1 : ((ofSel cl (k : Int) j).map fun q => (q.2 : Int)) = L1 at *
        generalize hL2 : ((ofSel cl (k : Int) j).map fun q => ruleOf l q.1) = L2 at *
        have HL := Lib.hid (And.intro hL1 hL2)
        clear hcx hvr hL1 hL2
        go_upto_region 10 with (at_builtin; refine wpList_append_lies _ rfl _ _ 41 rfl (w1.heap.size + 1) 3 i1 _ 1 8 Try.underlying41 hi1 hy0 hy1 hy2 rfl (by omega) u8 L1.length css.flatten rfl ((hown.alloc _).alloc _) ⟨wr.heap.size + 1, 0, none⟩ 1 1 [.int .i64 j] rfl rfl (World.news_of_block (cs := #[.int .i64 j]) (t := 3) (fr := (0, 0)) (by have := heap_alloc_new (wr.alloc (.cells #[.int .i64 k, .int .i64 a, .int .i64 n] 102)) (.cells #[.int .i64 j] 3); rw [size_alloc] at this; exact this)) (by simp [Value.oneCell']) (by omega) (by unfold maxLen; omega) (by omega) (by simp; omega) (wr.heap.size + 1 + 1) (by simp) ?_; intro g cap4 w4 hown4 hgrow4 hat4 hlt4)
        have hbo : ∀ g', u8.ownBlock = some g' → W1.heap.size ≤ g' := fun g' h => by have := own_ge hown g' h; rw [HWs.out]; exact this
        have E4 : Ext W1 w4 := Ext.grown ((hb.alloc _).alloc _) hgrow4 hbo
        have hE4 : Ext w w4 := E3.trans E4
        have hcb : ∀ o' v', (wr.alloc (.cells #[.int .i64 k, .int .i64 a, .int .i64 n] 102)).cell? ⟨wr.heap.size, o', none⟩ = some v' → w4.cell? ⟨wr.heap.size, o', none⟩ = some v' := fun o' v' h => by
          rw [hgrow4.cell_far ⟨wr.heap.size, o', none⟩ (by simp; omega) (fun e => by have := own_lt hown (g := wr.heap.size) e.symm; omega)]
          exact Ext.cell ((Ext.refl _).alloc _) h
        have cc1 := hcb 1 (.int .i64 a) (by go_simp)
        have cc2 := hcb 2 (.int .i64 n) (by go_simp)
        have a3 := Ext.cell hE4 h3.out
        have hvr4 := (((HVR.out.alloc (o := .cells #[.int .i64 k, .int .i64 a, .int .i64 n] 102) (fun _ _ h => h)).alloc (o := .cells #[.int .i64 j] 3) (fun _ _ h => h))).grown (w' := w4) (fun _ _ h => h) hgrow4 (fun g' hg' => by
          obtain ⟨_, _, ho, _⟩ := HVR.out
          exact own_types ho hown (by decide) hg')
        have hvn4 := OwnL.snoc (R := RInt) (w' := w4) (x := (j : Int)) hcs HCX.out hown4 rfl rfl
        have q0 := Ext.cell hE4 (HK.out 0 _ rfl)
        have q1 := Ext.cell hE4 (HK.out 1 _ rfl)
        have q2 := Ext.cell hE4 (HK.out 2 _ rfl)
        have q3 := Ext.cell hE4 (HK.out 3 _ rfl)
        have q4 := Ext.cell hE4 (HK.out 4 _ rfl)
        have q5 := Ext.cell hE4 (HK.out 5 _ rfl)
        have q6 := Ext.cell hE4 (HK.out 6 _ rfl)
        have q7 := Ext.cell hE4 (HK.out 7 _ rfl)
        have q8 := Ext.cell hE4 (HK.out 8 _ rfl)
        have q9 := Ext.cell hE4 (HK.out 9 _ rfl)
        have q10 := Ext.cell hE4 (HK.out 10 _ rfl)
        simp only [Nat.add_zero] at q0
        have HVN4 := Lib.hid hvn4
        obtain ⟨css2, hcs2, hown2, hcx2⟩ := hvr4
        have HCX2 := Lib.hid hcx2
        have hsz4 := E4.sz
        rw [HWs.out] at hsz4
        have nC : u9.ownBlock ≠ some wr.heap.size := fun h => by
          obtain ⟨_, _, ho, _⟩ := HVR.out
          have := own_lt ho h
          omega
        have hbw : b < w.heap.size := lt_of_cell h3.out
        have hrw : rb < w.heap.size := lt_of_cell (HK.out 0 _ rfl)
        have hww := E1.sz
        have nB : u9.ownBlock ≠ some b := own_ne hown2 (by omega)
        have nR : u9.ownBlock ≠ some rb := own_ne hown2 (by omega)
        have hlw4 := E4.sz
        have hlC := lt_of_cell cc1
        clear hown hown4 hgrow4 hat4 hlt4 hbo hcb hb d0 c0 c1 c2 hvn4 hcx2 HVR HCX hcs
        go_region_held3 (fun w' => w'.cell? ⟨wr.heap.size, 1, none⟩ = some (.int .i64 a) ∧ w'.cell? ⟨wr.heap.size, 2, none⟩ = some (.int .i64 n) ∧ w'.cell? ⟨b, off + a * 4 + 3, none⟩ = some (.slice (some ⟨rb, roff, none⟩) x.rules.length cap3) ∧ w'.cell? ⟨rb, roff + n * 11, none⟩ = some (.string r.name) ∧ w'.cell? ⟨rb, roff + n * 11 + 1, none⟩ = some (.slice S1 r.roads.length P1) ∧ w'.cell? ⟨rb, roff + n * 11 + 2, none⟩ = some (.slice S2 r.whens.length P2) ∧ w'.cell? ⟨rb, roff + n * 11 + 3, none⟩ = some (.int .i64 r.h0) ∧ w'.cell? ⟨rb, roff + n * 11 + 4, none⟩ = some (.int .i64 r.h1) ∧ w'.cell? ⟨rb, roff + n * 11 + 5, none⟩ = some (.int .i64 r.days) ∧ w'.cell? ⟨rb, roff + n * 11 + 6, none⟩ = some (.int .i64 r.s0) ∧ w'.cell? ⟨rb, roff + n * 11 + 7, none⟩ = some (.int .i64 r.s1) ∧ w'.cell? ⟨rb, roff + n * 11 + 8, none⟩ = some (.bool r.forbid) ∧ w'.cell? ⟨rb, roff + n * 11 + 9, none⟩ = some (.slice S3 r.counts.length P3) ∧ w'.cell? ⟨rb, roff + n * 11 + 10, none⟩ = some (.int .i64 r.cost))
          (first | go_keep | (refine ⟨?_, ?_, ?_, ?_, ?_, ?_, ?_, ?_, ?_, ?_, ?_, ?_, ?_, ?_⟩ <;> (first | (rw [hgrow5.cell_far _ (by simp; omega) (Ne.symm nC)]; go_simp; done) | (rw [hgrow5.cell_far _ (by simp; omega) (Ne.symm nB)]; go_simp; done) | (rw [hgrow5.cell_far _ (by simp; omega) (Ne.symm nR)]; go_simp; done))))
          ((refine step_append_lies _ (by rfl) _ _ _ (by rfl) (w1.heap.size + 1) 58 i2 _ 11 144 Try.underlying42 hi2 hz0 hz1 hz2 rfl (by omega) u9 L2.length css2.flatten (by rfl) ((hown2.alloc _).drew) ⟨w4.heap.size, 0, none⟩ 1 1 (ruleCs (.slice S1 r.roads.length P1) (.slice S2 r.whens.length P2) (.slice S3 r.counts.length P3) r) (by rfl) (by rfl) (World.news_of_block (cs := (ruleCs (.slice S1 r.roads.length P1) (.slice S2 r.whens.length P2) (.slice S3 r.counts.length P3) r).toArray) (t := 58) (fr := (0, 0)) (heap_alloc_new w4 _)) (by simp [ruleCs, Value.oneCell']) (by omega) (by unfold maxLen; omega) (by omega) (by simp; omega) (w4.heap.size + 1) (by simp) ?_; intro g5 cap5 w5 hown5 hgrow5 hat5 hlt5))
        rename_i hHH
        clear hHH
        have hbo5 : ∀ g', u9.ownBlock = some g' → W1.heap.size ≤ g' := fun g' h => by have := own_ge hown2 g' h; rw [HWs.out]; exact this
        have E5 : Ext W1 w5 := Ext.grown ((E4.alloc _).drew) hgrow5 hbo5
        have hvn5 := ((HVN4.out.alloc (o := .cells (ruleCs (.slice S1 r.roads.length P1) (.slice S2 r.whens.length P2) (.slice S3 r.counts.length P3) r).toArray 58) (fun _ _ h => h)).ext RInt.stable ((Ext.refl _).drew)).grown (w' := w5) (fun _ _ h => h) hgrow5 (fun g' hg' => by
          obtain ⟨_, _, ho, _⟩ := HVN4.out
          exact own_types ho hown2 (by decide) hg')
        have hvr5 := OwnL.snoc (R := fun _ => RRule w) (w' := w5) (x := r) hcs2 HCX2.out hown5 rfl HRR.out
        have HV5 := Lib.hid (And.intro hvn5 hvr5)
        clear hown2 hown5 hgrow5 hat5 hlt5 hbo5 hvn5 hvr5 q0 q1 q2 q3 q4 q5 q6 q7 q8 q9 q10 cc1 cc2 a3 HVN4 HCX2 hcs2
        go_wp2_with fail
        go_roundw
        case rel => exact ⟨j + 1, _, _, by omega, by go_num, rfl, rfl, by rw [HSu.out, List.map_append, HL.out.1]; exact HV5.out.1, by rw [HSu.out, List.map_append, HL.out.2, List.map_cons, hro'.out]; exact HV5.out.2, E5⟩
        case measure => simp [intOf]; omega
      · rw [if_neg (by simp [hpk])] at HSu
        simp only [List.append_nil] at HSu
        have hpk' : (c.passage == (k : Int)) = false := beq_false_of_ne hpk
        have HV := Lib.hid (And.intro hvn hvr)
        clear hvn hvr hx hr hcc hcn hc hro hpk
        generalize c.passage = cp at *
        go_wp2_with fail
        go_roundw
        case rel => exact ⟨j + 1, _, _, by omega, by go_num, rfl, rfl, by rw [HSu.out]; exact HV.out.1.alloc (fun _ _ h => h), by rw [HSu.out]; exact HV.out.2.alloc (fun _ _ h => h), hb.alloc _⟩
        case measure => simp [intOf]; omega
    · have hjj : j = cl.length := by omega
      subst hjj
      have hn2 := hvn.sl
      rw [HN.out] at hn2
      have hr2 := (hvr.to (R' := RRule) (fun cs x h => RRule.stable _ _ _ _ (E3.trans hb) h)).sl
      rw [HRs.out] at hr2
      have HV := Lib.hid (And.intro hn2 hr2)
      clear hvn hvr hn2 hr2
      go_wp2_with fail
      go_ret2
      exact ⟨_, _, rfl, HV.out.1, HV.out.2, E3.trans hb⟩
end Go.Proofs.Ytaomlmkcifpfkaa
