
/- The iterator over the edges of a hull, walked: it yields each corner with the one behind it; of one point none. -/
import Derived.Test.YtkkeblgahbpmmaaLRigAll
import Derived.Test.YtkkeblgahbpmmaaHSeq3
import Derived.Test.YtkkeblgahbpmmaaQTailIn
import Derived.Deep.DeepCutAuto
namespace Go.Proofs.Ytkkeblgahbpmmaa
open Go.RowKit Go.Shelf

theorem quietL_step {n : Nat} {P : Program} {ops : Array Oper} {C : World → Prop} {Q : Act → Prop} {a : Act} {o : Oper} {rest : List Oper}
    (h : ∀ K : Act → Prop, (∀ a, wpQuietIn Fence.wide n P ops C Q rest a → K a) → if Region.wanted o (yielded ops a.tmps) then o.quietIn Fence.wide n P a C K else K (a.put o.dst undef)) : wpQuietIn Fence.wide n P ops C Q (o :: rest) a :=
  wpQuietIn_step (fun _ _ _ _ => trivial) h
def encEd (x : HPt × HPt) : Array Value := #[vPt x.1, vPt x.2]
def nxtL (h : List HPt) (i : Nat) : HPt := h.getD ((i + 1) % h.length) (0, 0)
/-- the edges of a hull -/
def edgesP (h : List HPt) : List (HPt × HPt) := if 1 < h.length then (List.range h.length).map (fun i => (h.getD i (0, 0), nxtL h i)) else []
theorem edgesP_len {h : List HPt} (h1 : 1 < h.length) : (edgesP h).length = h.length := by simp [edgesP, h1]
theorem edgesP_one {h : List HPt} (h1 : ¬ 1 < h.length) : edgesP h = [] := by simp [edgesP, h1]
theorem edgesP_at {h : List HPt} (h1 : 1 < h.length) {i : Nat} (hi : i < h.length) : (edgesP h)[i]? = some (h.getD i (0, 0), nxtL h i) := by
  simp [edgesP, h1, hi]
theorem edges_end {h : List HPt} {k : Nat} (hk : h.length ≤ k) : (edgesP h).take k = edgesP h := by
  by_cases h1 : 1 < h.length
  · exact List.take_of_length_le (by rw [edgesP_len h1]; exact hk)
  · rw [edgesP_one h1]; simp
set_option maxRecDepth 100000 in
set_option maxHeartbeats 4000000 in
theorem edges_seq (v : Value) (h : List HPt) (w0 w : World) (hs : Pts w0 v h) (T : TypeId → Prop) (t : TypeId) (hn : h.length ≤ 100000) :
    SeqT3 Fence.wide 4 Try.prog 77 #[v] encEd T t (edgesP h) w0 w := by
  intro L J Jx W hE hJb hJ hY hJ0
  refine callsIn_wide.2 ?_
  have HJ0 := Lib.hid hJ0
  have HY := Lib.hid hY
  have HJ := Lib.hid hJ
  have HJb := Lib.hid hJb
  clear hJ0 hY hJ hJb
  rcases hs with ⟨a0, c0, rfl, rfl⟩ | ⟨b, off, cap, rfl, hl, hcap, hc⟩
  · go_enter Try.func77, Try.ntmps77
    go_wp2
    go_loopw [8] (fun i wr => i = .int .i64 0 ∧ J [] wr) (fun _ _ => 0)
    case atStart => exact ⟨rfl, HJ0.out⟩
    case round =>
      obtain ⟨rfl, hj⟩ := hrel
      have HX := Lib.hid hj
      clear hj
      go_wp2
      go_end0
      exact ⟨⟨_, rfl⟩, .inl HX.out⟩
  · have HC := Lib.hid hc
    clear hc
    have hl2 : (h.length : Int) ≤ 9223372036854775807 := by omega
    go_enter Try.func77, Try.ntmps77
    go_wp2
    go_loopw [8] (fun i wr => ∃ k : Nat, k ≤ h.length ∧ i = .int .i64 k ∧ J ((edgesP h).take k) wr) (fun i _ => h.length - (intOf i).toNat)
    case atStart => exact ⟨0, by omega, rfl, by simpa using HJ0.out⟩
    case round =>
      obtain ⟨k, hk, rfl, hJk⟩ := hrel
      have HJK := Lib.hid hJk
      clear hJk
      by_cases hlt : k < h.length
      · have E0 : Ext w0 wr := HJb.out _ _ HJK.out
        have c1 := E0.cell (HC.out k hlt).1
        have c2 := E0.cell (HC.out k hlt).2
        have lb := lt_of_cell c1
        by_cases h1 : 1 < h.length
        · obtain ⟨M, hM⟩ : ∃ M, (k + 1) % h.length = M := ⟨_, rfl⟩
          have hMl : M < h.length := by rw [← hM]; exact Nat.mod_lt _ (by omega)
          have m1 := E0.cell (HC.out M hMl).1
          have m2 := E0.cell (HC.out M hMl).2
          have hat := edgesP_at h1 hlt
          unfold nxtL at hat
          rw [hM] at hat
          generalize h.getD k (0, 0) = p at *
          generalize h.getD M (0, 0) = q at *
          obtain ⟨p1, p2⟩ := p
          obtain ⟨q1, q2⟩ := q
          simp only at c1 c2 m1 m2
          have hlts : k < (edgesP h).length := by rw [edgesP_len h1]; exact hlt
          have hge : (edgesP h)[k] = ((p1, p2), (q1, q2)) := by
            have h9 : (edgesP h)[k]? = some (edgesP h)[k] := List.getElem?_eq_getElem hlts
            rw [h9] at hat
            exact Option.some.inj hat
          have hsplit : edgesP h = (edgesP h).take k ++ ((p1, p2), (q1, q2)) :: (edgesP h).drop (k + 1) := by rw [← hge, List.getElem_cons_drop, List.take_append_drop]
          have htk : (edgesP h).take (k + 1) = (edgesP h).take k ++ [((p1, p2), (q1, q2))] := by rw [← hge]; exact List.take_succ_eq_append_getElem hlts
          have HTK := Lib.hid htk
          have HSP := Lib.hid hsplit
          have hrem : Int.tmod ((k : Int) + 1) (h.length : Int) = (M : Int) := by rw [← hM]; norm_cast
          have hln0 : ¬ h = [] := by intro e; rw [e] at h1; simp at h1
          have e5 := IntWalk.i64_in ((k : Int) + 1) (by omega)
          have e6 := IntWalk.i64_in (M : Int) (by omega)
          have g0 : decide ((1 : Int) < (h.length : Int)) = true := by simp; omega
          have g1 : decide (1 < h.length) = true := by simpa using h1
          clear htk hsplit hat hge hlts hM
          go_upto_region 3 with fail
          have eW : Ext wr (wr.alloc (.cells #[.int .i64 p1, .int .i64 p2] 52)) := (Ext.refl wr).alloc _
          have y0 : (wr.alloc (.cells #[.int .i64 p1, .int .i64 p2] 52)).cell? ⟨wr.heap.size, 0, none⟩ = some (.int .i64 p1) := World.cell?_alloc_new _ _ _ _
          have y1 : (wr.alloc (.cells #[.int .i64 p1, .int .i64 p2] 52)).cell? ⟨wr.heap.size, 1, none⟩ = some (.int .i64 p2) := World.cell?_alloc_new _ _ _ _
          generalize (wr.alloc (.cells #[.int .i64 p1, .int .i64 p2] 52)) = W3 at *
          replace m1 := eW.cell m1
          replace m2 := eW.cell m2
          refine (wpIn_wide (n := 4)).1 ?_
          refine Tail.wpIn_region_qtail (F := Fence.wide) (C := fun w' => Ext W3 w') 14 rfl (by kernel_rfl) (by kernel_rfl) ((Ext.refl _).drew) ?_
          simp only [List.take_succ_cons, List.take_zero, List.drop_succ_cons, List.drop_zero]
          repeat
            with_reducible refine quietL_step (fun K hK => ?_)
            go_simp
            first
              | (refine hK _ ?_; clear hK K)
              | (apply Exists.intro
                 refine ⟨fun w' hC => ?_, hK _ ?_⟩
                 · first
                     | with_reducible rfl
                     | (have q0 := hC.cell y0; have q1 := hC.cell y1; have q2 := hC.cell m1; have q3 := hC.cell m2; go_simp; done)
                     | (have q0 := hC.cell y0; have q1 := hC.cell y1; have q2 := hC.cell m1; have q3 := hC.cell m2; go_simp; exact ⟨rfl, rfl⟩)
                     | (have q0 := hC.cell y0; have q1 := hC.cell y1; have q2 := hC.cell m1; have q3 := hC.cell m2; go_simp; with_reducible rfl)
                 clear hK K)
          refine wpQuietIn_nil ?_
          intro wq hEq
          have EQ := eW.trans hEq
          obtain ⟨fn', tmps', asg', bod', hy, hR⟩ := HY.out ((edgesP h).take k) ((p1, p2), (q1, q2)) ((edgesP h).drop (k + 1)) wq (HJ.out.1 _ _ _ HJK.out EQ) HSP.out
          dsimp only [encEd, vPt] at hy
          gi_wp2
          refine hR.mono ?_
          rintro e W4 (⟨rfl, hA4, hK4⟩ | ⟨rfl, hx4⟩)
          rotate_left
          · gi_wp2
            go_wp2_with fail
            refine bodyPost_ret (results_none rfl _ _ _) rfl ?_
            exact ⟨⟨_, rfl⟩, .inr ⟨_, hx4⟩⟩
          clear hK4 hR hy
          gi_wp2
          go_wp2_with fail
          go_roundw
          case rel => exact ⟨k + 1, by omega, by go_num, by rw [HTK.out]; exact hA4⟩
          case measure => simp [intOf]; omega
        · have g0 : decide ((1 : Int) < (h.length : Int)) = false := by simp; omega
          have g1 : decide (1 < h.length) = false := by simpa using h1
          have hed := edgesP_one h1
          have HED := Lib.hid hed
          clear hed
          generalize h.getD k (0, 0) = p at *
          obtain ⟨p1, p2⟩ := p
          simp only at c1 c2
          go_upto_region 3 with fail
          have eW : Ext wr (wr.alloc (.cells #[.int .i64 p1, .int .i64 p2] 52)) := (Ext.refl wr).alloc _
          generalize (wr.alloc (.cells #[.int .i64 p1, .int .i64 p2] 52)) = W3 at *
          have EW3 := Lib.hid eW
          clear eW E0 hE
          (refine wp_region_ext (C := fun w' => Ext W3 w') (by kernel_rfl) (by kernel_rfl) (by (repeat' (first | exact Ext.refl _ | assumption | refine Ext.alloc ?_ _ | refine Ext.drew ?_ | refine Ext.drewN ?_ _ | refine Ext.set ?_ (by first | exact Nat.le_refl _ | exact le1 _ | exact le2 _ | exact le3 _ | exact le4 _ | exact le5 _ | exact le6 _) _ | refine Ext.trans ?_ (by assumption)))) ?_; (repeat (with_reducible refine wpQuiet_step (fun K hK => ?_); go_simp; first | (refine hK _ ?_; clear hK K) | (apply Exists.intro; refine ⟨fun w' hC => ?_, hK _ ?_⟩; (focus first | with_reducible rfl | (skip; go_simp; done) | (skip; go_simp; exact ⟨rfl, rfl⟩) | (skip; go_simp; with_reducible rfl)); clear hK K))); refine wpQuiet_nil ?_; intro wq hEq)
          have HJ4 := Lib.hid (HJ.out.1 _ _ _ HJK.out (EW3.out.trans hEq))
          clear hEq
          go_wp2
          go_roundw
          case rel => exact ⟨k + 1, by omega, by go_num, by have h9 := HJ4.out; rw [HED.out] at h9 ⊢; simpa using h9⟩
          case measure => simp [intOf]; omega
      · have hkl : k = h.length := by omega
        subst hkl
        go_wp2
        go_end0
        exact ⟨⟨_, rfl⟩, .inl (by have h9 := HJK.out; rwa [edges_end (Nat.le_refl _)] at h9)⟩
end Go.Proofs.Ytkkeblgahbpmmaa
