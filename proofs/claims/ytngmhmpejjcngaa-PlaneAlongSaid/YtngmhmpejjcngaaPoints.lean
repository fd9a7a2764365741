/- Contracts: whether a list of points is valid and not too long. -/
import Derived.Test.YtngmhmpejjcngaaWorks
namespace Go.Proofs.Ytngmhmpejjcngaa
open Go.RowKit

/-- the refusal of a list of points -/
def errPts (l : List (Int × Int)) : Int := if 256 < l.length then 6 else if l.all okPt = true then 0 else 2
theorem errPts_many {l : List (Int × Int)} (h : 256 < l.length) : errPts l = 6 := by simp [errPts, h]
theorem errPts_bad {l : List (Int × Int)} (h : ¬ 256 < l.length) (k : l.all okPt = false) : errPts l = 2 := by simp [errPts, h, k]
theorem errPts_ok {l : List (Int × Int)} (h : ¬ 256 < l.length) (k : l.all okPt = true) : errPts l = 0 := by simp only [errPts, h, k, if_true, if_false]
theorem Pts.shape {w : World} {v : Value} {l : List (Int × Int)} (h : Pts w v l) : ∃ a cap, v = .slice a l.length cap ∧ l.length ≤ 9223372036854775807 := by
  rcases h with ⟨a, c, rfl, rfl⟩ | ⟨b, off, cap, rfl, hl, _, _⟩
  · exact ⟨_, _, rfl, by simp⟩
  · exact ⟨_, _, rfl, hl⟩

set_option maxHeartbeats 800000 in
theorem checkPoints_c (b cap : Nat) (v : Value) (l : List (Int × Int)) (w : World) (hp : Pts w v l) (h1 : w.cell? ⟨b, 0, none⟩ = some v) :
    Calls Try.prog 88 #[.slice (some ⟨b, 0, none⟩) 1 cap] w fun e w' => e = .returned (.int .i64 (errPts l)) ∧ Ext w w' := by
  obtain ⟨a, cap', rfl, hl⟩ := hp.shape
  have HP := Lib.hid hp
  clear hp
  by_cases hm : 256 < l.length
  · rw [errPts_many hm]
    go_enter Try.func88, Try.ntmps88
    go_wp2
    go_loop [9] (fun i => i = .int .i64 0) (fun i => 2 - (intOf i).toNat)
    case atStart => rfl
    case round =>
      subst hrel
      go_wp2
      go_ret
      exact ⟨rfl, Ext.refl _⟩
  · have hm' : (l.length : Int) ≤ 256 := by omega
    cases ha : l.all okPt
    · rw [errPts_bad hm ha]
      have HA := Lib.hid ha
      clear ha hm
      go_enter Try.func88, Try.ntmps88
      go_wp2
      go_loop [9] (fun i => i = .int .i64 0 ∨ i = .int .i64 1) (fun i => 2 - (intOf i).toNat)
      case atStart => exact .inl rfl
      case round =>
        rcases hrel with rfl | rfl
        · go_wp2
          go_round
          case rel => exact .inr rfl
          case measure => simp [intOf]
        · go_wp2
          go_loopw [19] (fun i wr => i = .int .i64 0 ∧ wr = w) (fun i _ => 0)
          case atStart => exact ⟨rfl, rfl⟩
          case round =>
            obtain ⟨rfl, rfl⟩ := hrel
            go_wp2_with (go_at_call 66; refine (valid_c _ _ _ HP.out).mono ?_; rintro e w' ⟨he, hb⟩; rw [HA.out] at he; subst he)
            go_ret
            exact ⟨rfl, hb⟩
    · rw [errPts_ok hm ha]
      have HA := Lib.hid ha
      clear ha hm
      go_enter Try.func88, Try.ntmps88
      go_wp2
      go_loop [9] (fun i => i = .int .i64 0 ∨ i = .int .i64 1) (fun i => 2 - (intOf i).toNat)
      case atStart => exact .inl rfl
      case round =>
        rcases hrel with rfl | rfl
        · go_wp2
          go_round
          case rel => exact .inr rfl
          case measure => simp [intOf]
        · go_wp2
          go_loopw [19] (fun i wr => (i = .int .i64 0 ∧ wr = w) ∨ (i = .int .i64 1 ∧ Ext w wr)) (fun i _ => 2 - (intOf i).toNat)
          case atStart => exact .inl ⟨rfl, rfl⟩
          case round =>
            rcases hrel with ⟨rfl, rfl⟩ | ⟨rfl, hE⟩
            · go_wp2_with (go_at_call 66; refine (valid_c _ _ _ HP.out).mono ?_; rintro e w' ⟨he, hb⟩; rw [HA.out] at he; subst he)
              go_roundw
              case rel => exact .inr ⟨rfl, hb⟩
              case measure => simp [intOf]
            · go_wp2
              go_ret
              exact ⟨rfl, hE⟩

set_option maxHeartbeats 800000 in
theorem points_c (v : Value) (l : List (Int × Int)) (w : World) (hp : Pts w v l) :
    Calls Try.prog 89 #[v] w fun e w' => e = .returned (.int .i64 (errPts l)) ∧ Ext w w' := by
  rcases hp with ⟨a0, c0, rfl, rfl⟩ | ⟨b, off, cap, rfl, hl, hcap, hc⟩
  · rw [show errPts [] = 0 from rfl]
    go_enter Try.func89, Try.ntmps89
    go_wp2
    go_loop [3] (fun i => i = .int .i64 0) (fun i => 0)
    case atStart => rfl
    case round =>
      subst hrel
      go_wp2
      go_ret
      exact ⟨rfl, Ext.refl _⟩
  · by_cases hm : 256 < l.length
    · rw [errPts_many hm]
      go_enter Try.func89, Try.ntmps89
      go_wp2
      go_ret
      exact ⟨rfl, Ext.refl _⟩
    · have hm' : (l.length : Int) ≤ 256 := by omega
      have HC : RowKit.Hid (PtCells w b off l) := hc
      clear hc
      cases ha : l.all okPt
      · rw [errPts_bad hm ha]
        have HA := Lib.hid ha
        clear ha hm
        go_enter Try.func89, Try.ntmps89
        go_wp2
        go_loopw [3] (fun i wr => ∃ k : Nat, k ≤ l.length ∧ i = .int .i64 k ∧ (l.take k).all okPt = true ∧ Ext w wr) (fun i _ => l.length - (intOf i).toNat)
        case atStart => exact ⟨0, by omega, rfl, by simp, Ext.refl _⟩
        case round =>
          obtain ⟨k, hk, rfl, ht, hb⟩ := hrel
          have hlt : k < l.length := by
            rcases Nat.lt_or_ge k l.length with h | h
            · exact h
            · rw [List.take_of_length_le h, HA.out] at ht; cases ht
          have HT := Lib.hid ht
          clear ht
          have c1 := Ext.cell hb (HC.out k hlt).1
          have c2 := Ext.cell hb (HC.out k hlt).2
          generalize hP : l.getD k (0, 0) = P at c1 c2
          have HP := Lib.hid hP
          clear hP
          cases hx : okPt (P.1, P.2)
          · have HI := fun w => Is_c P.1 P.2 w
            rw [hx] at HI
            have HI := Lib.hid HI
            clear hx
            go_wp2_with (go_at_call 69; refine (HI.out _).mono ?_; rintro e w' ⟨rfl, hb2⟩)
            go_ret
            exact ⟨rfl, hb.trans hb2⟩
          · have HX := Lib.hid hx
            have HI := fun w => Is_c P.1 P.2 w
            rw [hx] at HI
            have HI := Lib.hid HI
            clear hx
            go_wp2_with (go_at_call 69; refine (HI.out _).mono ?_; rintro e w' ⟨rfl, hb2⟩)
            go_roundw
            case rel => exact ⟨k + 1, by omega, by go_num, all_take_succ hlt HT.out (by rw [HP.out]; exact HX.out), hb.trans hb2⟩
            case measure => simp [intOf]; omega
      · rw [errPts_ok hm ha]
        have HA := Lib.hid ha
        clear ha hm
        go_enter Try.func89, Try.ntmps89
        go_wp2
        go_loopw [3] (fun i wr => ∃ k : Nat, k ≤ l.length ∧ i = .int .i64 k ∧ Ext w wr) (fun i _ => l.length - (intOf i).toNat)
        case atStart => exact ⟨0, by omega, rfl, Ext.refl _⟩
        case round =>
          obtain ⟨k, hk, rfl, hb⟩ := hrel
          by_cases hlt : k < l.length
          · have c1 := Ext.cell hb (HC.out k hlt).1
            have c2 := Ext.cell hb (HC.out k hlt).2
            have hx : okPt (l.getD k (0, 0)) = true := List.all_eq_true.1 HA.out _ (by rw [getD_lt hlt]; exact List.getElem_mem hlt)
            generalize l.getD k (0, 0) = P at c1 c2 hx
            have HI := fun w => Is_c P.1 P.2 w
            rw [hx] at HI
            have HI := Lib.hid HI
            clear hx
            go_wp2_with (go_at_call 69; refine (HI.out _).mono ?_; rintro e w' ⟨rfl, hb2⟩)
            go_roundw
            case rel => exact ⟨k + 1, by omega, by go_num, hb.trans hb2⟩
            case measure => simp [intOf]; omega
          · go_wp2
            go_ret
            exact ⟨rfl, hb⟩
end Go.Proofs.Ytngmhmpejjcngaa
