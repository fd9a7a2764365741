
/- Contracts: 'few': the first ones of a list of small points, as points. -/
import Derived.Test.YtlndcpjaeoppmaaPlaneB
import Derived.Test.YtlndcpjaeoppmaaOpenPts
import Derived.Deep.RegionHeld3
import Derived.Deep.DrawnRows
import Derived.Deep.AppendLies
import Derived.OwnWalk
namespace Go.Proofs.Ytlndcpjaeoppmaa
open Go.RowKit
attribute [local go_sem ↓] Go.wp_at_zero Go.wp_at_succ

def ptVals (l : List (Int × Int)) : List Value := l.flatMap fun p => [.int .i64 p.1, .int .i64 p.2]
theorem ptVals_length (l : List (Int × Int)) : (ptVals l).length = l.length * 2 := by
  induction l with
  | nil => rfl
  | cons a l ih => simp only [ptVals, List.flatMap_cons, List.length_append] at ih ⊢; simp [ih]; omega
theorem ptVals_append (a b : List (Int × Int)) : ptVals (a ++ b) = ptVals a ++ ptVals b := by simp [ptVals]
theorem ptVals_get (l : List (Int × Int)) : ∀ i, i < l.length → (ptVals l)[i * 2]? = some (.int .i64 (l.getD i (0, 0)).1) ∧ (ptVals l)[i * 2 + 1]? = some (.int .i64 (l.getD i (0, 0)).2) := by
  induction l with
  | nil => intro i h; simp at h
  | cons a l ih =>
    intro i h
    cases i with
    | zero => exact ⟨rfl, rfl⟩
    | succ i =>
      have := ih i (by simpa using h)
      rw [show (i + 1) * 2 = (i * 2) + 1 + 1 by omega]
      exact this
theorem take_succ_getD {l : List (Int × Int)} {k : Nat} (h : k < l.length) : l.take (k + 1) = l.take k ++ [l.getD k (0, 0)] := by
  rw [List.take_succ_eq_append_getElem h, getD_lt h]
theorem Ext.grown {w W W' : World} (h : Ext w W) {row : Option Nat} (hg : W.grownBy W' row) (hr : ∀ k, row = some k → w.heap.size ≤ k) : Ext w W' := Below.grown h hg (Below.size h) hr
theorem own_ge {w : World} {base : Nat} {e : TypeId} {size n : Nat} {v : Value} {xs : List Value} (h : w.ownsRow base e size v n xs) : ∀ k, v.ownBlock = some k → base ≤ k := by
  intro k hk
  rcases h.2 with ⟨rfl, _⟩ | ⟨g, cap, cur, rfl, hb, _⟩
  · simp [Value.ownBlock] at hk
  · simp [Value.ownBlock] at hk; omega
theorem own_neF {w : World} {base : Nat} {e : TypeId} {size n : Nat} {v : Value} {xs : List Value} (h : w.ownsRow base e size v n xs) {b : Nat} (hb : b < base) : v.ownBlock ≠ some b := fun hk => by
  have := own_ge h b hk
  omega
/-- an own row reads as a list of points -/
theorem pts_of_own {w : World} {base : Nat} {e : TypeId} {v : Value} {l : List (Int × Int)} (h : w.ownsRow base e 2 v l.length (ptVals l)) : Pts w v l := by
  rcases h.2 with ⟨rfl, h0⟩ | ⟨g, cap, cur, rfl, hb, hg, hl, hc, _⟩
  · exact .inl ⟨none, 0, rfl, List.eq_nil_of_length_eq_zero h0⟩
  · refine .inr ⟨g, 0, cap, rfl, by unfold maxLen at hc; omega, hl, fun i hi => ?_⟩
    have hc := World.ownsRow.cells h (g := g) rfl
    obtain ⟨a, b⟩ := ptVals_get l i hi
    have a' := hc _ _ a
    have b' := hc _ _ b
    have ea : ∀ j, (⟨g, 0, none⟩ : Addr).add j = ⟨g, 0 + j, none⟩ := fun j => by unfold Addr.add; split <;> simp_all
    rw [ea] at a' b'
    exact ⟨a', b'⟩

def OwnPts (base : Nat) (w : World) (v : Value) (l : List (Int × Int)) : Prop := w.ownsRow base 31 2 v l.length (ptVals l)
theorem infoPt : (Try.prog.info? 31).map (fun i => (i.zero, i.size, i.bytes)) = some (some (.agg #[.int .i64 0, .int .i64 0]), 2, 16) := by kernel_rfl

set_option maxRecDepth 100000 in
set_option maxHeartbeats 3200000 in
theorem few_c (v : Value) (l : List (Int × Int)) (n : Nat) (w : World) (hp : Pairs .i8 w v l) (hw : ∀ q ∈ l, (Lit.int .i8 q.1).wf = true ∧ (Lit.int .i8 q.2).wf = true) (hn : n ≤ 100) :
    Calls Try.prog 8 #[v, .int .i64 n] w fun e w' => ∃ v', e = .returned v' ∧ OwnPts w.heap.size w' v' (l.take n) ∧ Ext w w' := by
  obtain ⟨i0, hi0, hz0, hz1, hz2⟩ := info_parts infoPt
  rcases hp with ⟨a0, c0, rfl, rfl⟩ | ⟨b, off, cap, rfl, hl, hcap, hc⟩
  · have hn' : (n : Int) ≤ 100 := by omega
    go_enter Try.func8, Try.ntmps8
    go_wp2
    go_loop [5, 6] (fun o i => o = .slice none 0 0 ∧ i = .int .i64 0) (fun _ i => 0)
    case atStart => exact ⟨rfl, rfl⟩
    case round =>
      obtain ⟨rfl, rfl⟩ := hrel
      go_wp2
      go_ret
      exact ⟨_, rfl, by simpa [OwnPts, ptVals] using World.ownsRow_nil _ _ _ _, Ext.refl _⟩
  · have HC : RowKit.Hid (PairCells .i8 w b off l) := hc
    have HW := Lib.hid hw
    clear hc hw
    go_enter Try.func8, Try.ntmps8
    go_wp2
    go_loopw [5, 6] (fun o i wr => ∃ k : Nat, k ≤ l.length ∧ k ≤ n ∧ i = .int .i64 k ∧ wr.ownsRow w.heap.size 31 2 o k (ptVals (l.take k)) ∧ Ext w wr) (fun _ i _ => l.length - (intOf i).toNat)
    case atStart => exact ⟨0, by omega, by omega, rfl, by simpa [ptVals] using World.ownsRow_nil _ _ _ _, Ext.refl _⟩
    case round =>
      obtain ⟨k, hk, hkn, rfl, hown, hb⟩ := hrel
      by_cases hlt : k < l.length
      · by_cases hlt2 : k < n
        · have c1 := Ext.cell hb (HC.out k hlt).1
          have c2 := Ext.cell hb (HC.out k hlt).2
          have hts := take_succ_getD hlt
          have hwf := HW.out (l.getD k (0, 0)) (by rw [getD_lt hlt]; exact List.getElem_mem hlt)
          generalize l.getD k (0, 0) = P at *
          have HT := Lib.hid hts
          clear hts
          obtain ⟨b1, b2⟩ := bounds_i8 hwf.1
          obtain ⟨b3, b4⟩ := bounds_i8 hwf.2
          clear hwf
          have i1 : (0 : Int) ≤ (k : Int) := by omega
          have i2 : (k : Int) < (l.length : Int) := by omega
          have e1 := IntWalk.i64_in P.1 (by omega)
          have e2 := IntWalk.i64_in P.2 (by omega)
          have hsz := Ext.sz hb
          have lb := World.block_lt_of_cell? wr _ c1
          simp only at lb
          have hlb2 : b < w.heap.size := by have := World.block_lt_of_cell? w _ (HC.out k hlt).1; simpa using this
          have hneb := own_neF hown hlb2
          go_wp2_with fail
          go_region_held3 (fun w' => w'.cell? ⟨b, off + k * 2, none⟩ = some (.int .i8 P.1) ∧ w'.cell? ⟨b, off + k * 2 + 1, none⟩ = some (.int .i8 P.2))
            (first | go_keep | (refine ⟨?_, ?_⟩ <;> (rw [hgrow.cell_far _ (by simp; omega) (Ne.symm hneb)]; go_simp)))
            ((refine step_append_lies _ (by rfl) _ _ _ (by rfl) w.heap.size 31 i0 _ 2 16 Try.underlying23 hi0 hz0 hz1 hz2 rfl (by omega) _ k (ptVals (l.take k)) (by rfl) ((hown.alloc _).drew)
                ⟨wr.heap.size, 0, none⟩ 1 1 [.int .i64 P.1, .int .i64 P.2] (by rfl) (by rfl) (World.news_of_block (cs := #[.int .i64 P.1, .int .i64 P.2]) (t := 31) (fr := (0, 0)) (heap_alloc_new wr _)) (by simp [Value.oneCell'])
                (by omega) (by unfold maxLen; omega) (by omega) (by simp; omega) (wr.heap.size + 1) (by simp) ?_; intro gg cap w1 hown1 hgrow hat hlt))
          have hE : Ext w w1 := ((hb.alloc _).drew).grown hgrow (own_ge hown)
          have hown2 : w1.ownsRow w.heap.size 31 2 (.slice (some ⟨gg, 0, none⟩) (k + 1) cap) (k + 1) (ptVals (l.take (k + 1))) := by
            rw [HT.out, ptVals_append]; exact hown1
          clear hown1 hown hgrow hat
          go_wp2_with fail
          go_roundw
          case rel => exact ⟨k + 1, by omega, by omega, by go_num, hown2, hE⟩
          case measure => simp [intOf]; omega
        · have hkn' : k = n := by omega
          subst hkn'
          have i2 : ¬ (k : Int) < (k : Int) := by omega
          have i3 : (k : Int) < (l.length : Int) := by omega
          have hR : ∀ v, wr.ownsRow w.heap.size 31 2 v k (ptVals (l.take k)) → OwnPts w.heap.size wr v (l.take k) := fun v h => by
            unfold OwnPts
            rw [List.length_take, Nat.min_eq_left (by omega)]; exact h
          replace hR := Lib.hid (hR _ hown)
          go_wp2_with fail
          go_ret
          exact ⟨_, rfl, hR.out, hb⟩
      · have hkl : k = l.length := by omega
        have i3 : ¬ (k : Int) < (l.length : Int) := by omega
        have hR : ∀ v, wr.ownsRow w.heap.size 31 2 v k (ptVals (l.take k)) → OwnPts w.heap.size wr v (l.take n) := fun v h => by
          unfold OwnPts
          rw [show List.take n l = List.take k l by rw [List.take_of_length_le (by omega), List.take_of_length_le (by omega)], List.length_take, Nat.min_eq_left (by omega)]; exact h
        replace hR := Lib.hid (hR _ hown)
        go_wp2_with fail
        go_ret
        exact ⟨_, rfl, hR.out, hb⟩
end Go.Proofs.Ytlndcpjaeoppmaa
