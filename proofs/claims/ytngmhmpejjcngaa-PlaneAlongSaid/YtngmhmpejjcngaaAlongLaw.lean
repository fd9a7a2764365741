/- The law PlaneAlong, walked. -/
import Derived.Test.YtngmhmpejjcngaaFew
import Derived.Test.YtngmhmpejjcngaaAlongMath
import Derived.Test.YtngmhmpejjcngaaRAlong
import Derived.Deep.QuietTactic
import Derived.BigQuiet
namespace Go.Proofs.Ytngmhmpejjcngaa
open Go.RowKit

def scPt (b : Int) (p : Int × Int) : Int × Int := (p.1 * (1 + b), p.2)
theorem getD_map' (b : Int) (l : List (Int × Int)) (i : Nat) (h : i < l.length) : (l.map (scPt b)).getD i (0, 0) = scPt b (l.getD i (0, 0)) := by
  rw [getD_lt (by simpa using h), getD_lt h]; simp
theorem small_ok {b : Int} {l : List (Int × Int)} (hb : 0 ≤ b ∧ b ≤ 255) (hw : ∀ q ∈ l, (Lit.int .i8 q.1).wf = true ∧ (Lit.int .i8 q.2).wf = true) : (l.map (scPt b)).all okPt = true := by
  rw [List.all_eq_true]
  intro p hp
  obtain ⟨q, hq, rfl⟩ := List.mem_map.1 hp
  obtain ⟨a1, a2⟩ := bounds_i8 (hw q hq).1
  obtain ⟨a3, a4⟩ := bounds_i8 (hw q hq).2
  obtain ⟨m1, m2⟩ := Pl.mul_bd (a := q.1) (b := 1 + b) (A := 128) (B := 256) (by omega) (by omega) (by omega) (by omega)
  unfold scPt
  rw [okPt_iff]; omega
/-- the cells while the first coordinates are multiplied -/
def Scaled (b : Int) (l : List (Int × Int)) (g k : Nat) (w : World) : Prop :=
  ∀ i, i < l.length → w.cell? ⟨g, i * 2, none⟩ = some (.int .i64 (if i < k then (l.getD i (0, 0)).1 * (1 + b) else (l.getD i (0, 0)).1)) ∧ w.cell? ⟨g, i * 2 + 1, none⟩ = some (.int .i64 (l.getD i (0, 0)).2) ∧ w.frozen? ⟨g, i * 2, none⟩ = false
theorem Scaled.start {b : Int} {l : List (Int × Int)} {w : World} {base g : Nat} {cap : Nat} (h : OwnPts base w (.slice (some ⟨g, 0, none⟩) l.length cap) l) : Scaled b l g 0 w := by
  intro i hi
  have hc := World.ownsRow.cells h (g := g) rfl
  obtain ⟨a, c⟩ := ptVals_get l i hi
  have a' := hc _ _ a
  have c' := hc _ _ c
  have ea : ∀ j, (⟨g, 0, none⟩ : Addr).add j = ⟨g, j, none⟩ := fun j => by unfold Addr.add; split <;> simp_all
  rw [ea] at a' c'
  refine ⟨by simpa using a', c', ?_⟩
  rcases h.2 with ⟨h1, _⟩ | ⟨g', cap', cur, hv, hb, hg, _⟩
  · cases h1
  · simp only [Value.slice.injEq, Option.some.injEq, Addr.mk.injEq] at hv
    obtain ⟨⟨rfl, _⟩, _⟩ := hv
    simp [World.frozen?, hg]
theorem Scaled.step {b : Int} {l : List (Int × Int)} {w : World} {g k : Nat} (h : Scaled b l g k w) (hk : k < l.length) : Scaled b l g (k + 1) (w.setCell ⟨g, k * 2, none⟩ (.int .i64 ((l.getD k (0, 0)).1 * (1 + b)))) := by
  intro i hi
  obtain ⟨h1, h2, h3⟩ := h i hi
  refine ⟨?_, ?_, by rw [World.frozen?_setCell]; exact h3⟩
  · by_cases he : i = k
    · subst he
      rw [World.cell?_setCell_same' _ _ _ (by rw [h1]; rfl), if_pos (by omega)]
    · rw [World.cell?_setCell_other _ _ _ _ (by intro hh; simp only [Addr.mk.injEq] at hh; omega), h1]
      have : (i < k + 1) ↔ (i < k) := by omega
      simp only [this]
  · rw [World.cell?_setCell_other _ _ _ _ (by intro hh; simp only [Addr.mk.injEq] at hh; omega), h2]
theorem Scaled.done {b : Int} {l : List (Int × Int)} {w : World} {g cap : Nat} (h : Scaled b l g l.length w) (hl : l.length ≤ 9223372036854775807) (hc : l.length ≤ cap) : Pts w (.slice (some ⟨g, 0, none⟩) l.length cap) (l.map (scPt b)) := by
  refine .inr ⟨g, 0, cap, by simp, by simpa using hl, by simpa using hc, fun i hi => ?_⟩
  have hi' : i < l.length := by simpa using hi
  obtain ⟨h1, h2, _⟩ := h i hi'
  rw [getD_map' b l i hi', Nat.zero_add]
  rw [if_pos hi'] at h1
  exact ⟨h1, h2⟩

theorem along_in {l : List (Int × Int)} {s : Int} (he : errPts l = 0) (hz : ¬ l.length = 0) (h0 : 0 ≤ s) (h1 : s ≤ longS l) : alongS l s = (atS l s, 0) := by
  have h := lenS_ok he hz
  exact alongS_in (by rw [h]) (by rw [h]; exact inB_iff.2 ⟨h0, h1⟩)
theorem along_out {l : List (Int × Int)} (he : errPts l = 0) (hz : ¬ l.length = 0) : alongS l (longS l + 1) = (((0, 0), 0), 3) := by
  have h := lenS_ok he hz
  refine alongS_out (by rw [h]) ?_
  rw [h]
  cases hb : inB (longS l + 1) 0 (longS l)
  · rfl
  · have := inB_iff.1 hb; omega
theorem first_pt {l : List (Int × Int)} : (atS l 0).1 = l.getD 0 (0, 0) := at_first l _ 0 rfl
theorem last_pt {l : List (Int × Int)} : (atS l (longS l)).1 = l.getD (l.length - 1) (0, 0) := by
  unfold atS
  rw [longS_rest]
  have hn := restN_nonneg l (l.length - 1) 0
  by_cases hz : restN l (l.length - 1) 0 = 0
  · rw [hz, at_first l _ 0 rfl]
    have := rest_zero (l := l) (l.length - 1) 0 hz
    rw [Nat.zero_add] at this
    exact this.symm
  · rw [at_last l _ 0 (by omega), Nat.zero_add]
theorem step_pts {l : List (Int × Int)} {s : Int} (h0 : 0 ≤ s) (h1 : s + 1 ≤ longS l) : (atS l s).2 ≤ (atS l (s + 1)).2 ∧ (atS l (s + 1)).2 < l.length ∧
    ((atS l s).2 = (atS l (s + 1)).2 → (-2 ≤ (atS l s).1.1 - (atS l (s + 1)).1.1 ∧ (atS l s).1.1 - (atS l (s + 1)).1.1 ≤ 2 ∧ -2 ≤ (atS l s).1.2 - (atS l (s + 1)).1.2 ∧ (atS l s).1.2 - (atS l (s + 1)).1.2 ≤ 2)) := by
  rw [longS_rest] at h1
  obtain ⟨a, b⟩ := at_step l _ 0 s h0 h1
  have c := at_piece l _ 0 (s + 1) (by omega) h1 (by omega)
  refine ⟨a, ?_, b⟩
  have : (atS l (s + 1)).2 < ((0 : Nat) : Int) + ((l.length - 1 : Nat) : Int) := c.2
  omega

def max2 (x y : Int) : Int := if y > x then y else x
def max4 (x y z u : Int) : Int := max2 (max2 (max2 x y) z) u
theorem max2_le {x y B : Int} (h1 : x ≤ B) (h2 : y ≤ B) : max2 x y ≤ B := by unfold max2; split <;> omega
theorem max4_le {x y z u B : Int} (h1 : x ≤ B) (h2 : y ≤ B) (h3 : z ≤ B) (h4 : u ≤ B) : max4 x y z u ≤ B := max2_le (max2_le (max2_le h1 h2) h3) h4
theorem run_max4 (x y z u : Int) (W : World) : (Builtin.max_ #[2, 2, 2, 2] 2 #[.int .i64 x, .int .i64 y, .int .i64 z, .int .i64 u]).run Try.prog W = .ok (.int .i64 (max4 x y z u)) W := rfl

set_option maxRecDepth 100000 in
set_option maxHeartbeats 3200000 in
theorem along_law (v : Value) (l : List (Int × Int)) (at' b : Int) (w : World) (hp : Pairs .i8 w v l) (hw : ∀ q ∈ l, (Lit.int .i8 q.1).wf = true ∧ (Lit.int .i8 q.2).wf = true) (ha : (Lit.int .u16 at').wf = true) (hb' : (Lit.int .u8 b).wf = true) :
    Calls Try.prog 8 #[v, .int .u16 at', .int .u8 b] w fun e w' => e = .returned (.bool true) ∧ Ext w w' := by
  obtain ⟨b1, b2⟩ := bounds_u8 hb'
  obtain ⟨a1, a2⟩ := bounds_u16 ha
  have HP := few_c v l 12 w hp hw (by omega)
  have hw2 : ∀ q ∈ l.take 12, (Lit.int .i8 q.1).wf = true ∧ (Lit.int .i8 q.2).wf = true := fun q hq => hw q (List.mem_of_mem_take hq)
  have hln : (l.take 12).length ≤ 12 := by simp; omega
  generalize l.take 12 = L at *
  have hok := small_ok (b := b) ⟨b1, b2⟩ hw2
  have HW := Lib.hid hw2
  clear hw hw2 ha hb'
  have hsh : ∃ a c, v = .slice a l.length c := by
    rcases hp with ⟨a0, c0, rfl, rfl⟩ | ⟨g, off, cap, rfl, _⟩
    · exact ⟨_, _, rfl⟩
    · exact ⟨_, _, rfl⟩
  obtain ⟨a, c, rfl⟩ := hsh
  clear hp
  have H1 := Lib.hid HP
  have HOK := Lib.hid hok
  clear HP hok
  by_cases hz : L.length = 0
  · obtain rfl : L = [] := List.length_eq_zero_iff.1 hz
    clear hz
    go_enter Try.func8, Try.ntmps8
    go_wp2_with fail
    refine H1.out.mono ?_
    rintro e w1 ⟨v', rfl, hown, hb1⟩
    obtain ⟨a', c', hv'⟩ : ∃ a' c', v' = .slice a' 0 c' := by
      rcases hown.2 with ⟨rfl, _⟩ | ⟨g, cap, cur, rfl, _⟩
      · exact ⟨_, _, rfl⟩
      · exact ⟨_, _, rfl⟩
    have HL := Lib.hid (fun w' (h : Ext w1 w') => Length_c v' [] w' (.inl ⟨a', c', hv', rfl⟩))
    subst hv'
    clear hown
    go_wp2_with fail
    go_loop [8] (fun i => i = .int .i64 0) (fun i => 0)
    case atStart => rfl
    case round =>
      subst hrel
      go_wp2_with fail
      refine (HL.out _ (Ext.refl _)).mono ?_
      rintro e w2 ⟨he, hb2⟩
      rw [show lenS [] = (0, 5) from rfl] at he
      unfold i2V at he
      subst he
      go_wp2_with (go_at_call 19; refine (works_c _).mono ?_; rintro e w5 ⟨rfl, hb5⟩)
      go_ret
      exact ⟨rfl, by (repeat' (first | exact Ext.refl _ | assumption | refine Ext.alloc ?_ _ | refine Ext.drew ?_ | refine Ext.drewN ?_ _ | refine Ext.set ?_ (by first | exact Nat.le_refl _ | exact le1 _ | exact le2 _ | exact le3 _ | exact le4 _ | exact le5 _ | exact le6 _) _ | refine Ext.trans ?_ (by assumption)))⟩
  · go_enter Try.func8, Try.ntmps8
    go_wp2_with fail
    refine H1.out.mono ?_
    rintro e w1 ⟨v', rfl, hown, hb1⟩
    obtain ⟨g, cap, hv', hge, hgl⟩ := World.ownsRow.form hown (by omega)
    subst hv'
    have hcap : L.length ≤ cap := by
      rcases hown.2 with ⟨h1, _⟩ | ⟨g', cap', cur, hv, hb, hg, hl, _⟩
      · cases h1
      · simp only [Value.slice.injEq] at hv; omega
    have HS := Lib.hid (Scaled.start (b := b) hown)
    clear hown H1
    go_wp2_with fail
    go_loopw [8] (fun i wr => ∃ k : Nat, k ≤ L.length ∧ i = .int .i64 k ∧ Scaled b L g k wr ∧ Ext w wr ∧ g < wr.heap.size) (fun i _ => L.length - (intOf i).toNat)
    case atStart => exact ⟨0, by omega, rfl, HS.out, hb1, hgl⟩
    case round =>
      obtain ⟨k, hk, rfl, hS, hb, hgl2⟩ := hrel
      by_cases hlt : k < L.length
      · obtain ⟨c1, c2, c3⟩ := hS k hlt
        rw [if_neg (by omega)] at c1
        have hst := hS.step hlt
        have hwf := HW.out (L.getD k (0, 0)) (by rw [getD_lt hlt]; exact List.getElem_mem hlt)
        generalize L.getD k (0, 0) = P at *
        obtain ⟨p1, p2⟩ := bounds_i8 hwf.1
        obtain ⟨m1, m2⟩ := Pl.mul_bd (a := P.1) (b := 1 + b) (A := 128) (B := 256) (by omega) (by omega) (by omega) (by omega)
        have e1 := IntWalk.i64_in b (by omega)
        have e2 := IntWalk.i64_in (1 + b) (by omega)
        have e3 := IntWalk.i64_in (P.1 * (1 + b)) (by omega)
        have HST := Lib.hid hst
        have i1 : (k : Int) < (L.length : Int) := by omega
        clear hst hS hwf m1 m2 HS
        go_wp2_with fail
        go_roundw
        case rel => exact ⟨k + 1, by omega, by go_num, HST.out, hb.set hge _, by simpa using hgl2⟩
        case measure => simp [intOf]; omega
      · have hkl : k = L.length := by omega
        subst hkl
        have hpts := hS.done (cap := cap) (by omega) hcap
        have hML : (L.map (scPt b)).length = L.length := List.length_map _
        have hok := HOK.out
        generalize L.map (scPt b) = M at *
        generalize hn : L.length = n at *
        have hE0 : errPts M = 0 := errPts_ok (by omega) hok
        have hMz : ¬ M.length = 0 := by omega
        obtain ⟨l1, l2⟩ := longS_le hE0 hMz
        have A0 := fun w' (h : Ext wr w') => Length_c _ M w' (hpts.ext h)
        have A1 := fun w' (h : Ext wr w') => Along_c _ M 0 w' (hpts.ext h)
        have A2 := fun w' (h : Ext wr w') => Along_c _ M (longS M) w' (hpts.ext h)
        have A3 := fun w' (h : Ext wr w') => Along_c _ M (longS M + 1) w' (hpts.ext h)
        have A4 := fun s w' (h : Ext wr w') => Along_c _ M s w' (hpts.ext h)
        rw [lenS_ok hE0 hMz] at A0
        rw [along_in hE0 hMz (Int.le_refl _) l1] at A1
        rw [along_in hE0 hMz l1 (Int.le_refl _)] at A2
        rw [along_out hE0 hMz] at A3
        unfold i2V at A0
        unfold ptieV at A1 A2 A3 A4
        have f0 := @first_pt M
        have f1 := @last_pt M
        have SP := fun s => @step_pts M s
        have AI := fun s => @along_in M s hE0 hMz
        rcases hpts with ⟨_, _, h1, h2⟩ | ⟨g', off', cap', hv, hl', hc', hcells⟩
        · rw [h2] at hMz; exact absurd rfl hMz
        simp only [Value.slice.injEq, Option.some.injEq, Addr.mk.injEq, and_true] at hv
        obtain ⟨⟨rfl, rfl⟩, hnn, rfl⟩ := hv
        obtain ⟨q1, q2⟩ := hcells 0 (by omega)
        obtain ⟨q3, q4⟩ := hcells (M.length - 1) (by omega)
        rw [← f0] at q1 q2
        rw [← f1] at q3 q4
        obtain ⟨m, hm⟩ : ∃ m, n = m + 1 := ⟨n - 1, by omega⟩
        rw [show M.length - 1 = m by omega] at q3 q4
        have hMm : M.length = m + 1 := by omega
        subst hm
        generalize longS M = N at *
        generalize atS M 0 = T0 at *
        generalize atS M N = T1 at *
        obtain ⟨⟨x0, y0⟩, j0⟩ := T0
        obtain ⟨⟨x1, y1⟩, j1⟩ := T1
        simp only [Nat.zero_mul, Nat.zero_add, Nat.add_zero] at A0 A1 A2 A3 q1 q2 q3 q4
        have h0 := Lib.hid A0
        have h1 := Lib.hid A1
        have h2 := Lib.hid A2
        have h3 := Lib.hid A3
        have h4 := Lib.hid A4
        have hSP := Lib.hid SP
        have hAI := Lib.hid AI
        have hMM := Lib.hid hMm
        clear A0 A1 A2 A3 A4 SP AI f0 f1 hcells hE0 hok HOK HW HS hS hn hML hnn hMm
        have i1 : ¬ ((m + 1 : Nat) : Int) < ((m + 1 : Nat) : Int) := by omega
        have i3 : ((m + 1 : Nat) : Int) ≠ 0 := by omega
        have e9 := IntWalk.i64_in (N + 1) (by omega)
        go_wp2_with fail
        refine (h0.out _ (by (repeat' (first | exact Ext.refl _ | assumption | refine Ext.alloc ?_ _ | refine Ext.drew ?_ | refine Ext.drewN ?_ _ | refine Ext.set ?_ (by first | exact Nat.le_refl _ | exact le1 _ | exact le2 _ | exact le3 _ | exact le4 _ | exact le5 _ | exact le6 _) _ | refine Ext.trans ?_ (by assumption))))).mono ?_
        rintro e w2 ⟨rfl, hb2⟩
        go_wp2_with fail
        refine (h1.out _ (by (repeat' (first | exact Ext.refl _ | assumption | refine Ext.alloc ?_ _ | refine Ext.drew ?_ | refine Ext.drewN ?_ _ | refine Ext.set ?_ (by first | exact Nat.le_refl _ | exact le1 _ | exact le2 _ | exact le3 _ | exact le4 _ | exact le5 _ | exact le6 _) _ | refine Ext.trans ?_ (by assumption))))).mono ?_
        rintro e w3 ⟨rfl, hb3⟩
        have q1' := Ext.cell (hb2.trans hb3) q1
        have q2' := Ext.cell (hb2.trans hb3) q2
        have q3' := Ext.cell (hb2.trans hb3) q3
        have q4' := Ext.cell (hb2.trans hb3) q4
        have gl3 := World.block_lt_of_cell? w3 _ q1'
        simp only at gl3
        go_wp2_with fail
        refine (h2.out _ (by (repeat' (first | exact Ext.refl _ | assumption | refine Ext.alloc ?_ _ | refine Ext.drew ?_ | refine Ext.drewN ?_ _ | refine Ext.set ?_ (by first | exact Nat.le_refl _ | exact le1 _ | exact le2 _ | exact le3 _ | exact le4 _ | exact le5 _ | exact le6 _) _ | refine Ext.trans ?_ (by assumption))))).mono ?_
        rintro e w4 ⟨rfl, hb4⟩
        have ka0n := Ext.cell hb4 (p := ⟨w3.heap.size, 0, none⟩) (v := .int .i64 x0) (by go_simp); have ka1n := Ext.cell hb4 (p := ⟨w3.heap.size, 1, none⟩) (v := .int .i64 y0) (by go_simp); have lkan := World.block_lt_of_cell? w4 _ ka0n; simp only at lkan; replace ka0 := ka0n; clear ka0n; replace ka1 := ka1n; clear ka1n; replace lka := lkan; clear lkan
        have gl4 : g < w4.heap.size := by omega
        replace q1' := Ext.cell hb4 (p := ⟨g, 0, none⟩) (v := .int .i64 x0) (by go_simp)
        replace q2' := Ext.cell hb4 (p := ⟨g, 1, none⟩) (v := .int .i64 y0) (by go_simp)
        replace q3' := Ext.cell hb4 (p := ⟨g, m * 2, none⟩) (v := .int .i64 x1) (by go_simp)
        replace q4' := Ext.cell hb4 (p := ⟨g, m * 2 + 1, none⟩) (v := .int .i64 y1) (by go_simp)
        go_wp2_with fail
        refine (h3.out _ (by (repeat' (first | exact Ext.refl _ | assumption | refine Ext.alloc ?_ _ | refine Ext.drew ?_ | refine Ext.drewN ?_ _ | refine Ext.set ?_ (by first | exact Nat.le_refl _ | exact le1 _ | exact le2 _ | exact le3 _ | exact le4 _ | exact le5 _ | exact le6 _) _ | refine Ext.trans ?_ (by assumption))))).mono ?_
        rintro e w5 ⟨rfl, hb5⟩
        have gl5 : w3.heap.size < w5.heap.size ∧ w4.heap.size < w5.heap.size := by
          have := Ext.sz hb5
          rw [size_alloc] at this
          omega
        obtain ⟨gl5, gl6⟩ := gl5
        have gl7 : g < w5.heap.size := by omega
        have ka0n := Ext.cell hb5 (p := ⟨w3.heap.size, 0, none⟩) (v := .int .i64 x0) (by go_simp); have ka1n := Ext.cell hb5 (p := ⟨w3.heap.size, 1, none⟩) (v := .int .i64 y0) (by go_simp); have kb0n := Ext.cell hb5 (p := ⟨w4.heap.size, 0, none⟩) (v := .int .i64 x1) (by go_simp); have kb1n := Ext.cell hb5 (p := ⟨w4.heap.size, 1, none⟩) (v := .int .i64 y1) (by go_simp); have lkan := World.block_lt_of_cell? w5 _ ka0n; simp only at lkan; have lkbn := World.block_lt_of_cell? w5 _ kb0n; simp only at lkbn; replace ka0 := ka0n; clear ka0n; replace ka1 := ka1n; clear ka1n; replace lka := lkan; clear lkan; replace kb0 := kb0n; clear kb0n; replace kb1 := kb1n; clear kb1n; replace lkb := lkbn; clear lkbn
        replace q1' := Ext.cell hb5 (p := ⟨g, 0, none⟩) (v := .int .i64 x0) (by go_simp)
        replace q2' := Ext.cell hb5 (p := ⟨g, 1, none⟩) (v := .int .i64 y0) (by go_simp)
        replace q3' := Ext.cell hb5 (p := ⟨g, m * 2, none⟩) (v := .int .i64 x1) (by go_simp)
        replace q4' := Ext.cell hb5 (p := ⟨g, m * 2 + 1, none⟩) (v := .int .i64 y1) (by go_simp)
        have hE6 : Ext wr w5 := by (repeat' (first | exact Ext.refl _ | assumption | refine Ext.alloc ?_ _ | refine Ext.drew ?_ | refine Ext.drewN ?_ _ | refine Ext.set ?_ (by first | exact Nat.le_refl _ | exact le1 _ | exact le2 _ | exact le3 _ | exact le4 _ | exact le5 _ | exact le6 _) _ | refine Ext.trans ?_ (by assumption)))
        have hE5 : Ext w w5 := by (repeat' (first | exact Ext.refl _ | assumption | refine Ext.alloc ?_ _ | refine Ext.drew ?_ | refine Ext.drewN ?_ _ | refine Ext.set ?_ (by first | exact Nat.le_refl _ | exact le1 _ | exact le2 _ | exact le3 _ | exact le4 _ | exact le5 _ | exact le6 _) _ | refine Ext.trans ?_ (by assumption)))
        clear hb2 hb3 hb4 hb5 h0 h1 h2 h3 q1 q2 q3 q4
        have hl1 : decide (N < 0) = false := by simp; omega
        have i4 : (0 : Int) ≤ (m : Int) := by omega
        have i5 : (m : Int) < (m : Int) + 1 := by omega
        have i6 : (0 : Int) < (m : Int) + 1 := by omega
        have e10 : IntKind.i64.wrap ((m : Int) + 1 - 1) = (m : Int) := by rw [IntWalk.i64_in _ (by omega)]; omega
        have hgw : g < (w5.alloc (.cells #[.int .i64 0, .int .i64 0] 23)).heap.size := by simp; omega
        go_wp2_with fail
        go_quiet (fail)
        clear q1' q2' q3' q4' hl1 e9 e10
        by_cases hN : N = 0
        · go_wp2_with (go_at_call 19; refine (works_c _).mono ?_; rintro e w6 ⟨rfl, hb6⟩)
          go_ret
          exact ⟨rfl, by (repeat' (first | exact Ext.refl _ | assumption | refine Ext.alloc ?_ _ | refine Ext.drew ?_ | refine Ext.drewN ?_ _ | refine Ext.set ?_ (by first | exact Nat.le_refl _ | exact le1 _ | exact le2 _ | exact le3 _ | exact le4 _ | exact le5 _ | exact le6 _) _ | refine Ext.trans ?_ (by assumption)))⟩
        · have hN1 : 1 ≤ N := by omega
          have s0 := Int.emod_nonneg at' (show N ≠ 0 by omega)
          have s1 := Int.emod_lt_of_pos at' (show 0 < N by omega)
          have et := Int.tmod_eq_emod_of_nonneg (b := N) a1
          have k3 := hAI.out (at' % N) (by omega) (by omega)
          have k4 := hAI.out (at' % N + 1) (by omega) (by omega)
          have ks := hSP.out (at' % N) (by omega) (by omega)
          have h3 := Lib.hid (fun w' (h : Ext wr w') => by have := h4.out (at' % N) w' h; rw [k3] at this; exact this)
          have h5 := Lib.hid (fun w' (h : Ext wr w') => by have := h4.out (at' % N + 1) w' h; rw [k4] at this; exact this)
          clear k3 k4 h4 hAI hSP
          generalize atS M (at' % N) = T3 at *
          generalize atS M (at' % N + 1) = T4 at *
          obtain ⟨⟨c1, c2⟩, c3⟩ := T3
          obtain ⟨⟨d1, d2⟩, d3⟩ := T4
          simp only at h3 h5 ks
          obtain ⟨ks1, ks2, ks3⟩ := ks
          rw [hMM.out] at ks2
          have et2 := Lib.hid et
          have ee := IntWalk.i64_in (at' % N + 1) (by omega)
          have eg : IntKind.i64.wrap at' = at' := IntWalk.i64_in at' (by omega)
          generalize hS : at' % N = S at *
          clear et
          have ks2' : d3 < (m : Int) + 1 := by omega
          have HKS := Lib.hid ks3
          clear ks3 ks2
          go_wp2_with fail
          refine (h3.out _ (by (repeat' (first | exact Ext.refl _ | assumption | refine Ext.alloc ?_ _ | refine Ext.drew ?_ | refine Ext.drewN ?_ _ | refine Ext.set ?_ (by first | exact Nat.le_refl _ | exact le1 _ | exact le2 _ | exact le3 _ | exact le4 _ | exact le5 _ | exact le6 _) _ | refine Ext.trans ?_ (by assumption))))).mono ?_
          rintro e w6 ⟨rfl, hb6⟩
          go_wp2_with fail
          refine (h5.out _ (by (repeat' (first | exact Ext.refl _ | assumption | refine Ext.alloc ?_ _ | refine Ext.drew ?_ | refine Ext.drewN ?_ _ | refine Ext.set ?_ (by first | exact Nat.le_refl _ | exact le1 _ | exact le2 _ | exact le3 _ | exact le4 _ | exact le5 _ | exact le6 _) _ | refine Ext.trans ?_ (by assumption))))).mono ?_
          rintro e w7 ⟨rfl, hb7⟩
          have kc0n := Ext.cell hb7 (p := ⟨w6.heap.size, 0, none⟩) (v := .int .i64 c1) (by go_simp); have kc1n := Ext.cell hb7 (p := ⟨w6.heap.size, 1, none⟩) (v := .int .i64 c2) (by go_simp); have lkcn := World.block_lt_of_cell? w7 _ kc0n; simp only at lkcn; replace kc0 := kc0n; clear kc0n; replace kc1 := kc1n; clear kc1n; replace lkc := lkcn; clear lkcn
          clear h3 h5
          by_cases hcd : c3 = d3
          · obtain ⟨r1, r2, r3, r4⟩ := HKS.out hcd
            have v1 := IntWalk.i64_in (c1 - d1) (by omega)
            have v2 := IntWalk.i64_in (d1 - c1) (by omega)
            have v3 := IntWalk.i64_in (c2 - d2) (by omega)
            have v4 := IntWalk.i64_in (d2 - c2) (by omega)
            subst hcd
            have hm4 := max4_le (B := 2) (x := c1 - d1) (y := d1 - c1) (z := c2 - d2) (u := d2 - c2) (by omega) (by omega) (by omega) (by omega)
            have hmx := run_max4
            go_wp2_with (go_at_call 19; refine (works_c _).mono ?_; rintro e w8 ⟨rfl, hb8⟩)
            go_ret
            exact ⟨rfl, by (repeat' (first | exact Ext.refl _ | assumption | refine Ext.alloc ?_ _ | refine Ext.drew ?_ | refine Ext.drewN ?_ _ | refine Ext.set ?_ (by first | exact Nat.le_refl _ | exact le1 _ | exact le2 _ | exact le3 _ | exact le4 _ | exact le5 _ | exact le6 _) _ | refine Ext.trans ?_ (by assumption)))⟩
          · go_wp2_with (go_at_call 19; refine (works_c _).mono ?_; rintro e w8 ⟨rfl, hb8⟩)
            go_ret
            exact ⟨rfl, by (repeat' (first | exact Ext.refl _ | assumption | refine Ext.alloc ?_ _ | refine Ext.drew ?_ | refine Ext.drewN ?_ _ | refine Ext.set ?_ (by first | exact Nat.le_refl _ | exact le1 _ | exact le2 _ | exact le3 _ | exact le4 _ | exact le5 _ | exact le6 _) _ | refine Ext.trans ?_ (by assumption)))⟩
end Go.Proofs.Ytngmhmpejjcngaa
