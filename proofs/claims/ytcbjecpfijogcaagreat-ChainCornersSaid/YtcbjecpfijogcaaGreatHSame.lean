
/- Contracts: whether two lists of points are equal, by the program's library and by the definition. -/
import Derived.Test.YtcbjecpfijogcaaGreatHCorn
namespace Go.Proofs.YtcbjecpfijogcaaGreat
open Go.RowKit Go.Shelf

theorem pts_atH {w : World} {A : Option Addr} {n c : Nat} {l : List HPt} (h : Pts w (.slice A n c) l) (_ : l.length = n) {i : Nat} {p : HPt} (hi : l[i]? = some p) :
    ∃ b off, A = some ⟨b, off, none⟩ ∧ w.cell? ⟨b, off + i * 2, none⟩ = some (.int .i64 p.1) ∧ w.cell? ⟨b, off + i * 2 + 1, none⟩ = some (.int .i64 p.2) := by
  rcases h with ⟨_, _, _, h2⟩ | ⟨b, off, cap, h1, _, _, hc⟩
  · rw [h2] at hi; simp at hi
  · simp only [Value.slice.injEq] at h1
    have hg : l.getD i (0, 0) = p := by simp [List.getD, hi]
    have := hc i (List.getElem?_eq_some_iff.1 hi).1
    rw [hg] at this
    exact ⟨b, off, h1.1, this.1, this.2⟩
set_option maxRecDepth 100000 in
set_option maxHeartbeats 1600000 in
theorem Same01_c (va vb : Value) (l m : List HPt) (w : World) (ha : Pts w va l) (hb : Pts w vb m) :
    Calls Tryz.prog 9 #[va, vb] w fun e w' => e = .returned (.bool (decide (l = m))) ∧ Ext w w' := by
  have HN := Lib.hid neqP_c
  obtain ⟨A, c, rfl, hl⟩ := ha.shapeH
  obtain ⟨A2, c2, rfl, hm⟩ := hb.shapeH
  have HA := Lib.hid ha
  have HB := Lib.hid hb
  clear ha hb
  by_cases hlm : l.length = m.length
  · have HL := Lib.hid hlm
    rw [← hlm] at HB hm ⊢
    clear hlm
    go_enter Tryz.func9, Tryz.ntmps9
    go_wp2
    go_loopw [5] (fun i wr => ∃ k : Nat, k ≤ l.length ∧ i = .int .i64 k ∧ l.take k = m.take k ∧ Ext w wr) (fun i _ => l.length - (intOf i).toNat)
    case atStart => exact ⟨0, by omega, rfl, rfl, Ext.refl _⟩
    case round =>
      obtain ⟨k, hk, rfl, htk, hE⟩ := hrel
      have HTK := Lib.hid htk
      clear htk
      by_cases hlt : k < l.length
      · have hp : l[k]? = some l[k] := List.getElem?_eq_getElem hlt
        have hq : m[k]? = some (m[k]'(by have := HL.out; omega)) := List.getElem?_eq_getElem (by have := HL.out; omega)
        generalize l[k] = p at hp
        generalize (m[k]'(by have := HL.out; omega)) = q at hq
        obtain ⟨b, off, rfl, k0, k1⟩ := pts_atH HA.out rfl hp
        obtain ⟨b2, off2, rfl, m0, m1⟩ := pts_atH HB.out HL.out.symm hq
        obtain ⟨p1, p2⟩ := p
        obtain ⟨q1, q2⟩ := q
        simp only at k0 k1 m0 m1
        replace k0 := hE.cell k0
        replace k1 := hE.cell k1
        replace m0 := hE.cell m0
        replace m1 := hE.cell m1
        have HPQ := Lib.hid (And.intro hp hq)
        clear hp hq
        by_cases hpq : ((p1, p2) : HPt) = (q1, q2)
        · have hne : ∀ w, (binOp .neq 26 (.agg #[.int .i64 p1, .int .i64 p2]) (.agg #[.int .i64 q1, .int .i64 q2])).run Tryz.prog w = .ok (.bool false) w := fun w => by rw [HN.out, decide_eq_true hpq]; rfl
          have HQ := Lib.hid hpq
          clear hpq
          go_wp2
          (refine wp_region_ext (C := fun w' => Ext wr w') (by kernel_rfl) (by kernel_rfl) (by (repeat' (first | exact Ext.refl _ | assumption | refine Ext.alloc ?_ _ | refine Ext.drew ?_ | refine Ext.drewN ?_ _ | refine Ext.set ?_ (by first | exact Nat.le_refl _ | exact le1 _ | exact le2 _ | exact le3 _ | exact le4 _ | exact le5 _ | exact le6 _) _ | refine Ext.trans ?_ (by assumption)))) ?_; (repeat (with_reducible refine wpQuiet_step (fun K hK => ?_); go_simp; first | (refine hK _ ?_; clear hK K) | (apply Exists.intro; refine ⟨fun w' hC => ?_, hK _ ?_⟩; (focus first | with_reducible rfl | (have q0 := hC.cell k0; have q1 := hC.cell k1; have q2 := hC.cell m0; have q3 := hC.cell m1; go_simp; done) | (have q0 := hC.cell k0; have q1 := hC.cell k1; have q2 := hC.cell m0; have q3 := hC.cell m1; go_simp; exact ⟨rfl, rfl⟩) | (have q0 := hC.cell k0; have q1 := hC.cell k1; have q2 := hC.cell m0; have q3 := hC.cell m1; go_simp; with_reducible rfl)); clear hK K))); refine wpQuiet_nil ?_; intro wq hEq)
          have HE := Lib.hid (hE.trans hEq)
          clear hEq hE k0 k1 m0 m1
          go_wp2
          refine ⟨⟨k + 1, by omega, by go_num, ?_, HE.out⟩, by simp [intOf]; omega⟩
          rw [List.take_add_one, List.take_add_one, HPQ.out.1, HPQ.out.2, HTK.out, HQ.out]
        · have hne : ∀ w, (binOp .neq 26 (.agg #[.int .i64 p1, .int .i64 p2]) (.agg #[.int .i64 q1, .int .i64 q2])).run Tryz.prog w = .ok (.bool true) w := fun w => by rw [HN.out, decide_eq_false hpq]; rfl
          have HQ := Lib.hid hpq
          clear hpq
          go_wp2
          (refine wp_region_ext (C := fun w' => Ext wr w') (by kernel_rfl) (by kernel_rfl) (by (repeat' (first | exact Ext.refl _ | assumption | refine Ext.alloc ?_ _ | refine Ext.drew ?_ | refine Ext.drewN ?_ _ | refine Ext.set ?_ (by first | exact Nat.le_refl _ | exact le1 _ | exact le2 _ | exact le3 _ | exact le4 _ | exact le5 _ | exact le6 _) _ | refine Ext.trans ?_ (by assumption)))) ?_; (repeat (with_reducible refine wpQuiet_step (fun K hK => ?_); go_simp; first | (refine hK _ ?_; clear hK K) | (apply Exists.intro; refine ⟨fun w' hC => ?_, hK _ ?_⟩; (focus first | with_reducible rfl | (have q0 := hC.cell k0; have q1 := hC.cell k1; have q2 := hC.cell m0; have q3 := hC.cell m1; go_simp; done) | (have q0 := hC.cell k0; have q1 := hC.cell k1; have q2 := hC.cell m0; have q3 := hC.cell m1; go_simp; exact ⟨rfl, rfl⟩) | (have q0 := hC.cell k0; have q1 := hC.cell k1; have q2 := hC.cell m0; have q3 := hC.cell m1; go_simp; with_reducible rfl)); clear hK K))); refine wpQuiet_nil ?_; intro wq hEq)
          have HE := Lib.hid (hE.trans hEq)
          clear hEq hE k0 k1 m0 m1
          go_wp2
          go_ret
          refine ⟨ret_bool (Eq.symm (decide_eq_false fun e => HQ.out ?_)), HE.out⟩
          have h1 := HPQ.out.1
          have h2 := HPQ.out.2
          rw [← e, h1] at h2
          exact Option.some.inj h2
      · go_wp2
        go_ret
        refine ⟨ret_bool (Eq.symm (decide_eq_true ?_)), hE⟩
        have h := HTK.out
        rwa [List.take_of_length_le (by omega), List.take_of_length_le (by have := HL.out; omega)] at h
  · have HL := Lib.hid hlm
    have hne : ((l.length : Int) == (m.length : Int)) = false := by simp; omega
    have hne2 : ((l.length : Int) != (m.length : Int)) = true := by simp; omega
    clear hlm
    go_enter Tryz.func9, Tryz.ntmps9
    go_wp2
    go_ret
    exact ⟨ret_bool (Eq.symm (decide_eq_false fun e => HL.out (by rw [e]))), Ext.refl _⟩
end Go.Proofs.YtcbjecpfijogcaaGreat
