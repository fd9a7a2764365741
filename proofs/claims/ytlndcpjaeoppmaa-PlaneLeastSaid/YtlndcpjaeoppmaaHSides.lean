
/- The iterator over the sides of a hull, walked: it yields each corner with the one behind it. -/
import Derived.Test.YtlndcpjaeoppmaaHParting
import Derived.Test.YtlndcpjaeoppmaaQTailIn
import Derived.Test.YtlndcpjaeoppmaaHSeq2
import Derived.Deep.DeepCutAuto
namespace Go.Proofs.Ytlndcpjaeoppmaa
open Go.RowKit Go.Shelf

theorem quietW_step {n : Nat} {P : Program} {ops : Array Oper} {C : World → Prop} {Q : Act → Prop} {a : Act} {o : Oper} {rest : List Oper}
    (h : ∀ K : Act → Prop, (∀ a, wpQuietIn Fence.wide n P ops C Q rest a → K a) → if Region.wanted o (yielded ops a.tmps) then o.quietIn Fence.wide n P a C K else K (a.put o.dst undef)) : wpQuietIn Fence.wide n P ops C Q (o :: rest) a :=
  wpQuietIn_step (fun _ _ _ _ => trivial) h
def encPP (x : HPt × HPt) : Array Value := #[vPt x.1, vPt x.2]
/-- the sides of a hull -/
def sidesP (h : List HPt) : List (HPt × HPt) := (List.range h.length).map (fun i => (h.getD i (0, 0), nxtP h i))
theorem sidesP_len (h : List HPt) : (sidesP h).length = h.length := by simp [sidesP]
theorem sidesP_at {h : List HPt} {i : Nat} (hi : i < h.length) : (sidesP h)[i]? = some (h.getD i (0, 0), nxtP h i) := by
  simp [sidesP, hi]
set_option maxHeartbeats 800000 in
theorem sides_c (a : Option Addr) (n c : Nat) (w : World) :
    Calls Try.prog 44 #[.slice a n c] w fun e w' => e = .returned (.func (.func 69) #[] #[.pointer (some ⟨w.heap.size, 0, none⟩)]) ∧ w' = w.alloc (.cells #[.slice a n c] 23) := by
  go_enter Try.func44, Try.ntmps44
  go_wp2
  go_ret
  exact ⟨rfl, rfl⟩
set_option maxRecDepth 100000 in
set_option maxHeartbeats 4000000 in
theorem sides_seq (Bl : Nat) (v : Value) (h : List HPt) (w0 w : World) (hw : Ext w0 w) (hs : Pts w0 v h) (h0 : 0 < h.length) (cl : Boxed w Bl 23 v) (T : TypeId → Prop) (t : TypeId) (hn : h.length ≤ 100000) (hT : T 23) (hBl : w0.heap.size ≤ Bl) :
    SeqT2 Fence.wide 4 Try.prog 69 #[.pointer (some ⟨Bl, 0, none⟩)] encPP T t (sidesP h) w0 w := by
  intro L J Jx W hE hJb hJ hY hJ0
  refine callsIn_wide.2 ?_
  have cl' : Boxed W Bl 23 v := box_ext cl hE
  have f0 := cl'.cell
  have hz0 := (hw.trans hE).size
  have hsW := hs
  have hl0 : Ext w0 W := hw.trans hE
  rcases hsW with ⟨a0, c0, rfl, rfl⟩ | ⟨b, off, cap, rfl, hl, hcap, hc⟩
  · simp at h0
  · have HC := Lib.hid hc
    have HJ0 := Lib.hid hJ0
    have HY := Lib.hid hY
    have HJ := Lib.hid hJ
    have HJb := Lib.hid hJb
    have HCL := Lib.hid cl'
    clear hc hJ0 hY hJ hJb hs cl cl'
    have hl2 : (h.length : Int) ≤ 9223372036854775807 := by omega
    go_enter Try.func69, Try.ntmps69
    go_wp2
    go_loopw [7] (fun i wr => ∃ k : Nat, k ≤ h.length ∧ i = .int .i64 k ∧ J ((sidesP h).take k) wr ∧ Boxed wr Bl 23 (.slice (some ⟨b, off, none⟩) h.length cap)) (fun i _ => h.length - (intOf i).toNat)
    case atStart => exact ⟨0, by omega, rfl, by simpa using HJ0.out, HCL.out⟩
    case round =>
      obtain ⟨k, hk, rfl, hJk, hbx0⟩ := hrel
      have hbx := hbx0.cell
      have HBX := Lib.hid hbx0
      clear hbx0
      have HJK := Lib.hid hJk
      clear hJk
      by_cases hlt : k < h.length
      · have E0 : Ext w0 wr := HJb.out _ _ HJK.out
        obtain ⟨M, hM⟩ : ∃ M, (k + 1) % h.length = M := ⟨_, rfl⟩
        have hMl : M < h.length := by rw [← hM]; exact Nat.mod_lt _ (by omega)
        have c1 := E0.cell (HC.out k hlt).1
        have c2 := E0.cell (HC.out k hlt).2
        have m1 := E0.cell (HC.out M hMl).1
        have m2 := E0.cell (HC.out M hMl).2
        have hat := sidesP_at hlt
        unfold nxtP at hat
        rw [hM] at hat
        generalize h.getD k (0, 0) = p at *
        generalize h.getD M (0, 0) = q at *
        obtain ⟨p1, p2⟩ := p
        obtain ⟨q1, q2⟩ := q
        simp only at c1 c2 m1 m2
        have hlts : k < (sidesP h).length := by rw [sidesP_len]; exact hlt
        have hge : (sidesP h)[k] = ((p1, p2), (q1, q2)) := by
          have h9 : (sidesP h)[k]? = some (sidesP h)[k] := List.getElem?_eq_getElem hlts
          rw [h9] at hat
          exact Option.some.inj hat
        have hsplit : sidesP h = (sidesP h).take k ++ ((p1, p2), (q1, q2)) :: (sidesP h).drop (k + 1) := by rw [← hge, List.getElem_cons_drop, List.take_append_drop]
        have htk : (sidesP h).take (k + 1) = (sidesP h).take k ++ [((p1, p2), (q1, q2))] := by rw [← hge]; exact List.take_succ_eq_append_getElem hlts
        have HTK := Lib.hid htk
        have HSP := Lib.hid hsplit
        have hrem : Int.tmod ((k : Int) + 1) (h.length : Int) = (M : Int) := by rw [← hM]; norm_cast
        have hln0 : ¬ h = [] := by intro e; rw [e] at h0; simp at h0
        have e5 := IntWalk.i64_in ((k : Int) + 1) (by omega)
        have e6 := IntWalk.i64_in (M : Int) (by omega)
        clear htk hsplit hat hge hlts hM
        have lb := World.block_lt_of_cell? _ _ c1
        simp only at lb
        have lB := World.block_lt_of_cell? _ _ hbx
        simp only at lB
        go_upto_region 3 with fail
        have eW : Ext wr (wr.alloc (.cells #[.int .i64 p1, .int .i64 p2] 31)) := (Ext.refl wr).alloc _
        have y0 : (wr.alloc (.cells #[.int .i64 p1, .int .i64 p2] 31)).cell? ⟨wr.heap.size, 0, none⟩ = some (.int .i64 p1) := World.cell?_alloc_new _ _ _ _
        have y1 : (wr.alloc (.cells #[.int .i64 p1, .int .i64 p2] 31)).cell? ⟨wr.heap.size, 1, none⟩ = some (.int .i64 p2) := World.cell?_alloc_new _ _ _ _
        generalize (wr.alloc (.cells #[.int .i64 p1, .int .i64 p2] 31)) = W3 at *
        replace m1 := eW.cell m1
        replace m2 := eW.cell m2
        have bx3 := eW.cell hbx
        refine (wpIn_wide (n := 4)).1 ?_
        refine Tail.wpIn_region_qtail (F := Fence.wide) (C := fun w' => Ext W3 w') 10 rfl (by kernel_rfl) (by kernel_rfl) ((Ext.refl _).drew) ?_
        simp only [List.take_succ_cons, List.take_zero, List.drop_succ_cons, List.drop_zero]
        repeat
          with_reducible refine quietW_step (fun K hK => ?_)
          go_simp
          first
            | (refine hK _ ?_; clear hK K)
            | (apply Exists.intro
               refine ⟨fun w' hC => ?_, hK _ ?_⟩
               · first
                   | with_reducible rfl
                   | (have q0 := hC.cell y0; have q1 := hC.cell y1; have q2 := hC.cell m1; have q3 := hC.cell m2; have q4 := hC.cell bx3; go_simp; done)
                   | (have q0 := hC.cell y0; have q1 := hC.cell y1; have q2 := hC.cell m1; have q3 := hC.cell m2; have q4 := hC.cell bx3; go_simp; exact ⟨rfl, rfl⟩)
                   | (have q0 := hC.cell y0; have q1 := hC.cell y1; have q2 := hC.cell m1; have q3 := hC.cell m2; have q4 := hC.cell bx3; go_simp; with_reducible rfl)
               clear hK K)
        refine wpQuietIn_nil ?_
        intro wq hEq
        have EQ := eW.trans hEq
        obtain ⟨fn', tmps', asg', bod', hy, hR⟩ := HY.out ((sidesP h).take k) ((p1, p2), (q1, q2)) ((sidesP h).drop (k + 1)) wq (HJ.out.1 _ _ _ HJK.out EQ) HSP.out
        dsimp only [encPP, vPt] at hy
        gi_wp2
        refine hR.mono ?_
        rintro e W4 (⟨rfl, hA4, hK4⟩ | ⟨rfl, hx4⟩)
        rotate_left
        · gi_wp2
          go_wp2_with fail
          refine bodyPost_ret (results_none rfl _ _ _) rfl ?_
          exact ⟨⟨_, rfl⟩, .inr ⟨_, hx4⟩⟩
        have HB4 := Lib.hid (hK4.2 _ _ _ _ hT hBl (box_ext HBX.out EQ))
        clear hK4 hR hy
        gi_wp2
        go_wp2_with fail
        go_roundw
        case rel => exact ⟨k + 1, by omega, by go_num, by rw [HTK.out]; exact hA4, HB4.out⟩
        case measure => simp [intOf]; omega
      · have hkl : k = h.length := by omega
        subst hkl
        go_wp2
        go_end0
        exact ⟨⟨_, rfl⟩, .inl (by have h9 := HJK.out; rwa [List.take_of_length_le (by rw [sidesP_len]; exact Nat.le_refl _)] at h9)⟩
end Go.Proofs.Ytlndcpjaeoppmaa
