/- The hull of one point: contracts of what 'IsHull' calls at a list of one point. -/
import Derived.Test.YtngmhmpejjcngaaPull
import Derived.Test.YtngmhmpejjcngaaShelf
import Derived.WalkSmall
namespace Go.Proofs.Ytngmhmpejjcngaa
open Go.RowKit

theorem info_pt : (Try.prog.info? 23).map (fun i => (i.zero, i.size, i.bytes)) = some (some (.agg #[.int .i64 0, .int .i64 0]), 2, 16) := by kernel_rfl

set_option maxHeartbeats 800000 in
theorem Ins_one (b off cap : Nat) (f : Value) (w : World) :
    Calls Try.prog 131 #[.slice (some ⟨b, off, none⟩) 1 cap, .int .i64 0, .int .i64 1, f] w fun e w' => e = .returned (.tuple #[]) ∧ w = w' := by
  go_enter Try.func131, Try.ntmps131
  go_wp2
  go_loop [8] (fun i => i = .int .i64 1) (fun i => 0)
  case atStart => rfl
  case round =>
    subst hrel
    go_wp2
    go_end0
    exact ⟨rfl, rfl⟩

set_option maxHeartbeats 800000 in
theorem Sort_one (b off cap : Nat) (f : Value) (w : World) :
    Calls Try.prog 109 #[.slice (some ⟨b, off, none⟩) 1 cap, f] w fun e w' => e = .returned (.tuple #[]) ∧ w = w' := by
  go_enter Try.func109, Try.ntmps109
  go_wp2_with (first | (go_at_call 125; refine (Try.bits_Len _ _ (by omega) (by omega)).mono ?_; rintro e w' ⟨rfl, rfl⟩) | go_in)
  refine wp_loop_rounds 1 ?_
  rw [rounds_succ]
  go_wp2_with (go_at_call 131; refine (Ins_one _ _ _ _ _).mono ?_; rintro e w' ⟨rfl, rfl⟩)
  refine bodyPost_ret (results_none rfl _ _ _) rfl ?_
  go_wp2
  go_end0
  exact ⟨rfl, rfl⟩

set_option maxHeartbeats 800000 in
theorem Compact_one (b off cap : Nat) (w : World) :
    Calls Try.prog 111 #[.slice (some ⟨b, off, none⟩) 1 cap] w fun e w' => e = .returned (.slice (some ⟨b, off, none⟩) 1 cap) ∧ w = w' := by
  go_enter Try.func111, Try.ntmps111
  go_wp2
  go_ret
  exact ⟨rfl, rfl⟩

def OneNew (w : World) (x y : Int) (e : Ending) (w' : World) : Prop :=
  ∃ g cap : Nat, e = .returned (.slice (some ⟨g, 0, none⟩) 1 cap) ∧ Ext w w' ∧ w'.cell? ⟨g, 0, none⟩ = some (.int .i64 x) ∧ w'.cell? ⟨g, 1, none⟩ = some (.int .i64 y)

set_option maxRecDepth 100000 in
set_option maxHeartbeats 800000 in
theorem Clone_one (b off cap : Nat) (x y : Int) (w : World) (h1 : w.cell? ⟨b, off, none⟩ = some (.int .i64 x)) (h2 : w.cell? ⟨b, off + 1, none⟩ = some (.int .i64 y)) :
    Calls Try.prog 108 #[.slice (some ⟨b, off, none⟩) 1 cap] w (OneNew w x y) := by
  obtain ⟨i0, hi, hz0, hz1, hz2⟩ := info_parts info_pt
  have hnil := fun (w : World) (a : Option Addr) (n c : Nat) => Lib.run_eql_slice_nil (P := Try.prog) w 53 23 a n c 0 0 Try.underlying53
  go_enter Try.func108, Try.ntmps108
  go_wp2_with (at_builtin; refine wpList_append_own _ rfl _ _ 53 rfl (w.heap.size) 23 i0 (.agg #[.int .i64 0, .int .i64 0]) 2 16 Try.underlying53 hi hz0 hz1 hz2 rfl (by decide) (.slice (some ⟨w.heap.size, 0, none⟩) 0 0) 0 [] rfl ?c0 ⟨b, off, none⟩ 1 _ [.int .i64 x, .int .i64 y] rfl rfl ?c1 ?c2 ?c3 ?c4 ?c5 ?c6; case' c6 => intro v' w1 hown hgrow _)
  case c0 => exact World.ownsRow_made w #[] 0 (Nat.le_refl _) (by unfold maxLen; omega) rfl
  case c1 =>
    intro j u hj
    match j, hj with
    | 0, hj => simp at hj; subst hj; exact (Ext.alloc (Ext.refl w) _).cell h1
    | 1, hj => simp at hj; subst hj; exact (Ext.alloc (Ext.refl w) _).cell h2
    | j + 2, hj => simp at hj
  case c2 => intro u hu; simp at hu; rcases hu with rfl | rfl <;> rfl
  case c3 => unfold maxLen; omega
  case c4 => omega
  case c5 => simp
  go_ret
  rcases hown.2 with ⟨_, h0⟩ | ⟨g, cap', cur, rfl, hg, hrest⟩
  · cases h0
  · refine ⟨g, cap', rfl, ?_, ?_, ?_⟩
    · exact ((Ext.refl w).alloc _).trans' hgrow (fun k hk => by simp [Value.ownBlock] at hk; omega)
    · have := hown.cellAt 0 (by omega); simpa using this
    · have := hown.cellAt 1 (by omega); simpa using this

theorem eq_of_pt {x y z u : Int} (h : (x, y) = (z, u)) : x = z ∧ y = u := by simpa using h

set_option maxHeartbeats 800000 in
theorem Equal_one (b off cap b' off' cap' : Nat) (x y : Int) (w : World) (h1 : w.cell? ⟨b, off, none⟩ = some (.int .i64 x)) (h2 : w.cell? ⟨b, off + 1, none⟩ = some (.int .i64 y))
    (h3 : w.cell? ⟨b', off', none⟩ = some (.int .i64 x)) (h4 : w.cell? ⟨b', off' + 1, none⟩ = some (.int .i64 y)) :
    Calls Try.prog 93 #[.slice (some ⟨b, off, none⟩) 1 cap, .slice (some ⟨b', off', none⟩) 1 cap'] w fun e w' => e = .returned (.bool true) ∧ Ext w w' := by
  go_enter Try.func93, Try.ntmps93
  go_wp2
  go_loopw [13] (fun i wr => (i = .int .i64 0 ∧ wr = w) ∨ (i = .int .i64 1 ∧ Ext w wr)) (fun i _ => 2 - (intOf i).toNat)
  case atStart => exact .inl ⟨rfl, rfl⟩
  case round =>
    rcases hrel with ⟨rfl, rfl⟩ | ⟨rfl, hE⟩
    · go_wp2
      go_quiet (fail)
      go_wp2
      go_roundw
      case rel => exact .inr ⟨rfl, (Ext.refl _).drewN _⟩
      case measure => simp [intOf]
    · go_wp2
      go_ret
      exact ⟨rfl, hE⟩

set_option maxHeartbeats 800000 in
theorem checkPoints_one (b cap b' off' cap' : Nat) (x y : Int) (w : World) (hok : okPt (x, y) = true) (h1 : w.cell? ⟨b, 0, none⟩ = some (.slice (some ⟨b', off', none⟩) 1 cap'))
    (h3 : w.cell? ⟨b', off', none⟩ = some (.int .i64 x)) (h4 : w.cell? ⟨b', off' + 1, none⟩ = some (.int .i64 y)) (hcap : 1 ≤ cap') :
    Calls Try.prog 88 #[.slice (some ⟨b, 0, none⟩) 1 cap] w fun e w' => e = .returned (.int .i64 0) ∧ Ext w w' := by
  have hP : Pts w (.slice (some ⟨b', off', none⟩) 1 cap') [(x, y)] := .inr ⟨b', off', cap', rfl, by simp, by simpa using hcap, fun i hi => by simp at hi; subst hi; exact ⟨h3, h4⟩⟩
  have HP := Lib.hid hP
  have hA : RowKit.Hid ([(x, y)].all okPt = true) := by simp [RowKit.Hid, hok]
  clear hP hok h3 h4 hcap
  go_enter Try.func88, Try.ntmps88
  go_wp2
  go_loop [9] (fun i => i = .int .i64 0 ∨ i = .int .i64 1) (fun i => 2 - (intOf i).toNat)
  case atStart => exact .inl rfl
  case round =>
    rcases hrel with rfl | rfl
    · go_wp2
      go_round
      case rel => exact .inr rfl
      case measure => simp [intOf]
    · go_wp2
      go_loopw [19] (fun i wr => (i = .int .i64 0 ∧ wr = w) ∨ (i = .int .i64 1 ∧ Ext w wr)) (fun i _ => 2 - (intOf i).toNat)
      case atStart => exact .inl ⟨rfl, rfl⟩
      case round =>
        rcases hrel with ⟨rfl, rfl⟩ | ⟨rfl, hE⟩
        · go_wp2_with (go_at_call 66; refine (valid_c _ _ _ HP.out).mono ?_; rintro e w' ⟨he, hb⟩; rw [hA.out] at he; subst he)
          go_roundw
          case rel => exact .inr ⟨rfl, hb⟩
          case measure => simp [intOf]
        · go_wp2
          go_ret
          exact ⟨rfl, hE⟩

set_option maxHeartbeats 800000 in
theorem corners_one (b off cap : Nat) (x y : Int) (w : World) (h1 : w.cell? ⟨b, off, none⟩ = some (.int .i64 x)) (h2 : w.cell? ⟨b, off + 1, none⟩ = some (.int .i64 y)) :
    Calls Try.prog 92 #[.slice (some ⟨b, off, none⟩) 1 cap] w (OneNew w x y) := by
  go_enter Try.func92, Try.ntmps92
  go_wp2_with (first
    | (go_at_call 108; refine (Clone_one _ _ _ _ _ _ h1 h2).mono ?_; rintro e w' ⟨g, cap', rfl, hE, c1, c2⟩)
    | (go_at_call 109; refine (Sort_one _ _ _ _ _).mono ?_; rintro e w' ⟨rfl, rfl⟩)
    | (go_at_call 111; refine (Compact_one _ _ _ _).mono ?_; rintro e w' ⟨rfl, rfl⟩))
  go_ret
  exact ⟨g, cap', rfl, hE, c1, c2⟩

set_option maxHeartbeats 800000 in
theorem IsHull_one (b cap : Nat) (x y : Int) (w : World) (hok : okPt (x, y) = true) (hcap : 1 ≤ cap) (h1 : w.cell? ⟨b, 0, none⟩ = some (.int .i64 x)) (h2 : w.cell? ⟨b, 1, none⟩ = some (.int .i64 y)) :
    Calls Try.prog 47 #[.slice (some ⟨b, 0, none⟩) 1 cap] w fun e w' => e = .returned (.bool true) ∧ Ext w w' := by
  have hlt := World.block_lt_of_cell? w _ h1
  simp only at hlt
  go_enter Try.func47, Try.ntmps47
  go_wp2_with fail
  refine (checkPoints_one _ _ _ _ _ x y _ hok (by go_simp) ((Ext.alloc (Ext.refl w) _).cell h1) ((Ext.alloc (Ext.refl w) _).cell h2) hcap).mono ?_
  rintro e w1 ⟨rfl, hE1⟩
  have k1 := hE1.cell ((Ext.alloc (Ext.refl w) _).cell h1)
  have k2 := hE1.cell ((Ext.alloc (Ext.refl w) _).cell h2)
  go_wp2_with fail
  refine (corners_one _ _ _ x y _ k1 k2).mono ?_
  rintro e w2 ⟨g, cap', rfl, hE2, c1, c2⟩
  go_wp2_with fail
  refine (Equal_one _ _ _ _ _ _ x y _ c1 c2 (hE2.cell k1) (hE2.cell k2)).mono ?_
  rintro e w3 ⟨rfl, hE3⟩
  go_wp2
  go_ret
  exact ⟨rfl, (((Ext.refl w).alloc _).trans hE1).trans (hE2.trans hE3)⟩

end Go.Proofs.Ytngmhmpejjcngaa
