
/- Contracts: Same of poses that are the same. -/
import Derived.Test.YtcbjecpfijogcaaGreatCPose
namespace Go.Proofs.YtcbjecpfijogcaaGreat
open Go.RowKit Go.Shelf

theorem pts_at {w : World} {A : Option Addr} {c : Nat} {l : List Pt} (h : Pts w (.slice A l.length c) l) {i : Nat} {p : Pt} (hi : l[i]? = some p) :
    ∃ b off, A = some ⟨b, off, none⟩ ∧ w.cell? ⟨b, off + i * 2, none⟩ = some (.int .i64 p.1) ∧ w.cell? ⟨b, off + i * 2 + 1, none⟩ = some (.int .i64 p.2) := by
  rcases h with ⟨_, _, _, h2⟩ | ⟨b, off, cap, h1, _, _, hc⟩
  · rw [h2] at hi; simp at hi
  · simp only [Value.slice.injEq] at h1
    have hg : l.getD i (0, 0) = p := by simp [List.getD, hi]
    have := hc i (lt_of_some hi)
    rw [hg] at this
    exact ⟨b, off, h1.1, this.1, this.2⟩
theorem pts_len {w : World} {v : Value} {l : List Pt} (h : Pts w v l) : l.length ≤ 9223372036854775807 := by
  rcases h with ⟨_, _, _, rfl⟩ | ⟨_, _, _, _, h, _⟩
  · simp
  · exact h
set_option maxRecDepth 100000 in
set_option maxHeartbeats 1600000 in
theorem Same01_c (va vb : Value) (l : List Pt) (w : World) (ha : Pts w va l) (hb : Pts w vb l) :
    Calls Tryz.prog 9 #[va, vb] w fun e w' => e = .returned (.bool true) ∧ Ext w w' := by
  obtain ⟨A, c, rfl⟩ := pts_shape ha
  obtain ⟨A2, c2, rfl⟩ := pts_shape hb
  have hbd := pts_len ha
  have HA := Lib.hid ha
  have HB := Lib.hid hb
  clear ha hb
  go_enter Tryz.func9, Tryz.ntmps9
  go_wp2
  go_loopw [5] (fun i wr => ∃ k : Nat, k ≤ l.length ∧ i = .int .i64 k ∧ Ext w wr) (fun i _ => l.length - (intOf i).toNat)
  case atStart => exact ⟨0, by omega, rfl, Ext.refl _⟩
  case round =>
    obtain ⟨k, hk, rfl, hb⟩ := hrel
    by_cases hlt : k < l.length
    · obtain ⟨⟨p1, p2⟩, hp⟩ := some_of_lt hlt
      obtain ⟨b, off, rfl, k0, k1⟩ := pts_at HA.out hp
      obtain ⟨b2, off2, rfl, m0, m1⟩ := pts_at HB.out hp
      replace k0 := Ext.cell hb k0
      replace k1 := Ext.cell hb k1
      replace m0 := Ext.cell hb m0
      replace m1 := Ext.cell hb m1
      simp only at k0 k1 m0 m1
      have i1 : (0 : Int) ≤ (k : Int) := by omega
      have i2 : (k : Int) < (l.length : Int) := by omega
      clear hp
      go_wp2_with fail
      go_quiet (fail)
      go_wp2_with fail
      go_roundw
      case rel => exact ⟨k + 1, by omega, by go_num, by (repeat' (first | exact Ext.refl _ | assumption | refine Ext.alloc ?_ _ | refine Ext.drew ?_ | refine Ext.drewN ?_ _ | refine Ext.set ?_ (by first | exact Nat.le_refl _ | exact le1 _ | exact le2 _ | exact le3 _ | exact le4 _ | exact le5 _ | exact le6 _) _ | refine Ext.trans ?_ (by assumption)))⟩
      case measure => simp [intOf]; omega
    · go_wp2
      go_ret
      exact ⟨rfl, hb⟩
end Go.Proofs.YtcbjecpfijogcaaGreat
