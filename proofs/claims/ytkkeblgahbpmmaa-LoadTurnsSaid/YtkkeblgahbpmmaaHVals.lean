
/- The iterator over a slice of points, walked: it yields the points. -/
import Derived.Test.YtkkeblgahbpmmaaHSeq
import Derived.Test.YtkkeblgahbpmmaaHull1
import Derived.Deep.DeepCutAuto
namespace Go.Proofs.Ytkkeblgahbpmmaa
open Go.RowKit Go.Shelf

theorem box_ext {W W' : World} {B : Nat} {t : TypeId} {v : Value} (h : Boxed W B t v) (he : Ext W W') : Boxed W' B t v := (he.block _ (Array.getElem?_eq_some_iff.1 h).1).trans h
set_option maxRecDepth 100000 in
set_option maxHeartbeats 4000000 in
theorem values_seq (Bl : Nat) (v : Value) (l : List HPt) (w0 w : World) (hw : Ext w0 w) (hs : Pts w0 v l) (cl : Boxed w Bl 48 v) (T : TypeId → Prop) (t : TypeId) :
    SeqT Fence.wide 4 Try.prog 119 #[.pointer (some ⟨Bl, 0, none⟩)] vPt T t l w0 w := by
  intro L J Jx W hE hJb hJ hY hJ0
  refine callsIn_wide.2 ?_
  have cl' : Boxed W Bl 48 v := box_ext cl hE
  have f0 := cl'.cell
  have hz0 := (hw.trans hE).size
  have hsW := hs
  have hl0 : Ext w0 W := hw.trans hE
  rcases hsW with ⟨a0, c0, rfl, rfl⟩ | ⟨b, off, cap, rfl, hl, hcap, hc⟩
  · have HJ0 := Lib.hid hJ0
    have HY := Lib.hid hY
    have HJb := Lib.hid hJb
    clear hJ0 hY hJb hJ
    go_enter Try.func119, Try.ntmps119
    go_wp2
    go_loopw [7] (fun i wr => i = .int .i64 0 ∧ wr = W) (fun i _ => 0)
    case atStart => exact ⟨rfl, rfl⟩
    case round =>
      obtain ⟨rfl, rfl⟩ := hrel
      go_wp2
      go_end0
      exact ⟨⟨_, rfl⟩, .inl HJ0.out⟩
  · have HC := Lib.hid hc
    have HJ0 := Lib.hid hJ0
    have HY := Lib.hid hY
    have HJ := Lib.hid hJ
    have HJb := Lib.hid hJb
    clear hc hJ0 hY hJ hJb hs cl
    have hl2 : (l.length : Int) ≤ 9223372036854775807 := by omega
    go_enter Try.func119, Try.ntmps119
    go_wp2
    go_loopw [7] (fun i wr => ∃ k : Nat, k ≤ l.length ∧ i = .int .i64 k ∧ J (l.take k) wr) (fun i _ => l.length - (intOf i).toNat)
    case atStart => exact ⟨0, by omega, rfl, by simpa using HJ0.out⟩
    case round =>
      obtain ⟨k, hk, rfl, hJk⟩ := hrel
      have HJK := Lib.hid hJk
      clear hJk
      by_cases hlt : k < l.length
      · have E0 : Ext w0 wr := HJb.out _ _ HJK.out
        have c1 := E0.cell (HC.out k hlt).1
        have c2 := E0.cell (HC.out k hlt).2
        rw [getD_lt hlt] at c1 c2
        have hsplit : l = l.take k ++ l[k] :: l.drop (k + 1) := by rw [List.getElem_cons_drop, List.take_append_drop]
        have htk : l.take (k + 1) = l.take k ++ [l[k]] := List.take_succ_eq_append_getElem hlt
        have HTK := Lib.hid htk
        have HSP := Lib.hid hsplit
        clear htk hsplit
        generalize l[k] = p at *
        obtain ⟨p1, p2⟩ := p
        simp only at c1 c2
        go_upto_region 3 with fail
        obtain ⟨fn', tmps', asg', bod', hy, hR⟩ := HY.out (l.take k) (p1, p2) (l.drop (k + 1)) (wr.alloc (.cells #[.int .i64 p1, .int .i64 p2] 52)) (HJ.out.1 _ _ _ HJK.out ((Ext.refl wr).alloc _)) HSP.out
        dsimp only [vPt] at hy
        refine (wpIn_wide (n := 4)).1 ?_
        gi_wp2
        refine hR.mono ?_
        rintro e W4 (⟨rfl, hA4, hK4⟩ | ⟨rfl, hx4⟩)
        rotate_left
        · gi_wp2
          go_wp2_with fail
          refine bodyPost_ret (results_none rfl _ _ _) rfl ?_
          exact ⟨⟨_, rfl⟩, .inr ⟨_, hx4⟩⟩
        clear hK4 hR hy
        gi_wp2
        go_wp2_with fail
        go_roundw
        case rel => exact ⟨k + 1, by omega, by go_num, by rw [HTK.out]; exact hA4⟩
        case measure => simp [intOf]; omega
      · have hkl : k = l.length := by omega
        subst hkl
        go_wp2
        go_end0
        exact ⟨⟨_, rfl⟩, .inl (by simpa using HJK.out)⟩
end Go.Proofs.Ytkkeblgahbpmmaa
