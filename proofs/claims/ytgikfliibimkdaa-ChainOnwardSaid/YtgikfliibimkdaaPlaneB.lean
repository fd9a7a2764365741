
/- PlaneB: several texts in one. -/
import Derived.Test.YtgikfliibimkdaaPlaneA
import Derived.Deep.RegionHeld3
import Derived.Deep.DrawnRows
/- Contracts: whether a list of points is valid and not too long. -/
namespace Go.Proofs.Ytgikfliibimkdaa
open Go.RowKit

/-- the refusal of a list of points -/
def errPts (l : List (Int × Int)) : Int := if 256 < l.length then 6 else if l.all okPt = true then 0 else 2
theorem errPts_many {l : List (Int × Int)} (h : 256 < l.length) : errPts l = 6 := by simp [errPts, h]
theorem errPts_bad {l : List (Int × Int)} (h : ¬ 256 < l.length) (k : l.all okPt = false) : errPts l = 2 := by simp [errPts, h, k]
theorem errPts_ok {l : List (Int × Int)} (h : ¬ 256 < l.length) (k : l.all okPt = true) : errPts l = 0 := by simp only [errPts, h, k, if_true, if_false]
theorem Pts.shape {w : World} {v : Value} {l : List (Int × Int)} (h : Pts w v l) : ∃ a cap, v = .slice a l.length cap ∧ l.length ≤ 9223372036854775807 := by
  rcases h with ⟨a, c, rfl, rfl⟩ | ⟨b, off, cap, rfl, hl, _, _⟩
  · exact ⟨_, _, rfl, by simp⟩
  · exact ⟨_, _, rfl, hl⟩

set_option maxHeartbeats 800000 in
theorem checkPoints_c (b cap : Nat) (v : Value) (l : List (Int × Int)) (w : World) (hp : Pts w v l) (h1 : w.cell? ⟨b, 0, none⟩ = some v) :
    Calls Try.prog 71 #[.slice (some ⟨b, 0, none⟩) 1 cap] w fun e w' => e = .returned (.int .i64 (errPts l)) ∧ Ext w w' := by
  obtain ⟨a, cap', rfl, hl⟩ := hp.shape
  have HP := Lib.hid hp
  clear hp
  by_cases hm : 256 < l.length
  · rw [errPts_many hm]
    go_enter Try.func71, Try.ntmps71
    go_wp2
    go_loop [9] (fun i => i = .int .i64 0) (fun i => 2 - (intOf i).toNat)
    case atStart => rfl
    case round =>
      subst hrel
      go_wp2
      go_ret
      exact ⟨rfl, Ext.refl _⟩
  · have hm' : (l.length : Int) ≤ 256 := by omega
    cases ha : l.all okPt
    · rw [errPts_bad hm ha]
      have HA := Lib.hid ha
      clear ha hm
      go_enter Try.func71, Try.ntmps71
      go_wp2
      go_loop [9] (fun i => i = .int .i64 0 ∨ i = .int .i64 1) (fun i => 2 - (intOf i).toNat)
      case atStart => exact .inl rfl
      case round =>
        rcases hrel with rfl | rfl
        · go_wp2
          go_round
          case rel => exact .inr rfl
          case measure => simp [intOf]
        · go_wp2
          go_loopw [19] (fun i wr => i = .int .i64 0 ∧ wr = w) (fun i _ => 0)
          case atStart => exact ⟨rfl, rfl⟩
          case round =>
            obtain ⟨rfl, rfl⟩ := hrel
            go_wp2_with (go_at_call 58; refine (valid_c _ _ _ HP.out).mono ?_; rintro e w' ⟨he, hb⟩; rw [HA.out] at he; subst he)
            go_ret
            exact ⟨rfl, hb⟩
    · rw [errPts_ok hm ha]
      have HA := Lib.hid ha
      clear ha hm
      go_enter Try.func71, Try.ntmps71
      go_wp2
      go_loop [9] (fun i => i = .int .i64 0 ∨ i = .int .i64 1) (fun i => 2 - (intOf i).toNat)
      case atStart => exact .inl rfl
      case round =>
        rcases hrel with rfl | rfl
        · go_wp2
          go_round
          case rel => exact .inr rfl
          case measure => simp [intOf]
        · go_wp2
          go_loopw [19] (fun i wr => (i = .int .i64 0 ∧ wr = w) ∨ (i = .int .i64 1 ∧ Ext w wr)) (fun i _ => 2 - (intOf i).toNat)
          case atStart => exact .inl ⟨rfl, rfl⟩
          case round =>
            rcases hrel with ⟨rfl, rfl⟩ | ⟨rfl, hE⟩
            · go_wp2_with (go_at_call 58; refine (valid_c _ _ _ HP.out).mono ?_; rintro e w' ⟨he, hb⟩; rw [HA.out] at he; subst he)
              go_roundw
              case rel => exact .inr ⟨rfl, hb⟩
              case measure => simp [intOf]
            · go_wp2
              go_ret
              exact ⟨rfl, hE⟩

set_option maxHeartbeats 800000 in
theorem points_c (v : Value) (l : List (Int × Int)) (w : World) (hp : Pts w v l) :
    Calls Try.prog 66 #[v] w fun e w' => e = .returned (.int .i64 (errPts l)) ∧ Ext w w' := by
  rcases hp with ⟨a0, c0, rfl, rfl⟩ | ⟨b, off, cap, rfl, hl, hcap, hc⟩
  · rw [show errPts [] = 0 from rfl]
    go_enter Try.func66, Try.ntmps66
    go_wp2
    go_loop [3] (fun i => i = .int .i64 0) (fun i => 0)
    case atStart => rfl
    case round =>
      subst hrel
      go_wp2
      go_ret
      exact ⟨rfl, Ext.refl _⟩
  · by_cases hm : 256 < l.length
    · rw [errPts_many hm]
      go_enter Try.func66, Try.ntmps66
      go_wp2
      go_ret
      exact ⟨rfl, Ext.refl _⟩
    · have hm' : (l.length : Int) ≤ 256 := by omega
      have HC : RowKit.Hid (PtCells w b off l) := hc
      clear hc
      cases ha : l.all okPt
      · rw [errPts_bad hm ha]
        have HA := Lib.hid ha
        clear ha hm
        go_enter Try.func66, Try.ntmps66
        go_wp2
        go_loopw [3] (fun i wr => ∃ k : Nat, k ≤ l.length ∧ i = .int .i64 k ∧ (l.take k).all okPt = true ∧ Ext w wr) (fun i _ => l.length - (intOf i).toNat)
        case atStart => exact ⟨0, by omega, rfl, by simp, Ext.refl _⟩
        case round =>
          obtain ⟨k, hk, rfl, ht, hb⟩ := hrel
          have hlt : k < l.length := by
            rcases Nat.lt_or_ge k l.length with h | h
            · exact h
            · rw [List.take_of_length_le h, HA.out] at ht; cases ht
          have HT := Lib.hid ht
          clear ht
          have c1 := Ext.cell hb (HC.out k hlt).1
          have c2 := Ext.cell hb (HC.out k hlt).2
          generalize hP : l.getD k (0, 0) = P at c1 c2
          have HP := Lib.hid hP
          clear hP
          cases hx : okPt (P.1, P.2)
          · have HI := fun w => Is_c P.1 P.2 w
            rw [hx] at HI
            have HI := Lib.hid HI
            clear hx
            go_wp2_with (go_at_call 47; refine (HI.out _).mono ?_; rintro e w' ⟨rfl, hb2⟩)
            go_ret
            exact ⟨rfl, hb.trans hb2⟩
          · have HX := Lib.hid hx
            have HI := fun w => Is_c P.1 P.2 w
            rw [hx] at HI
            have HI := Lib.hid HI
            clear hx
            go_wp2_with (go_at_call 47; refine (HI.out _).mono ?_; rintro e w' ⟨rfl, hb2⟩)
            go_roundw
            case rel => exact ⟨k + 1, by omega, by go_num, all_take_succ hlt HT.out (by rw [HP.out]; exact HX.out), hb.trans hb2⟩
            case measure => simp [intOf]; omega
      · rw [errPts_ok hm ha]
        have HA := Lib.hid ha
        clear ha hm
        go_enter Try.func66, Try.ntmps66
        go_wp2
        go_loopw [3] (fun i wr => ∃ k : Nat, k ≤ l.length ∧ i = .int .i64 k ∧ Ext w wr) (fun i _ => l.length - (intOf i).toNat)
        case atStart => exact ⟨0, by omega, rfl, Ext.refl _⟩
        case round =>
          obtain ⟨k, hk, rfl, hb⟩ := hrel
          by_cases hlt : k < l.length
          · have c1 := Ext.cell hb (HC.out k hlt).1
            have c2 := Ext.cell hb (HC.out k hlt).2
            have hx : okPt (l.getD k (0, 0)) = true := List.all_eq_true.1 HA.out _ (by rw [getD_lt hlt]; exact List.getElem_mem hlt)
            generalize l.getD k (0, 0) = P at c1 c2 hx
            have HI := fun w => Is_c P.1 P.2 w
            rw [hx] at HI
            have HI := Lib.hid HI
            clear hx
            go_wp2_with (go_at_call 47; refine (HI.out _).mono ?_; rintro e w' ⟨rfl, hb2⟩)
            go_roundw
            case rel => exact ⟨k + 1, by omega, by go_num, hb.trans hb2⟩
            case measure => simp [intOf]; omega
          · go_wp2
            go_ret
            exact ⟨rfl, hb⟩
end Go.Proofs.Ytgikfliibimkdaa
/- Contracts: the length of a polyline. -/
namespace Go.Proofs.Ytgikfliibimkdaa
open Go.RowKit

/-- the distance of a point of a list and the next one; the length up to a point -/
def farAt (l : List (Int × Int)) (i : Nat) : Int := farS (l.getD i (0, 0)) (l.getD (i + 1) (0, 0))
def longN (l : List (Int × Int)) : Nat → Int
  | 0 => 0
  | k + 1 => longN l k + farAt l k
def longS (l : List (Int × Int)) : Int := longN l (l.length - 1)
theorem okAt {l : List (Int × Int)} (h : l.all okPt = true) {k : Nat} (hk : k < l.length) : okPt (l.getD k (0, 0)) = true := by
  rw [getD_lt hk]; exact List.all_eq_true.1 h _ (List.getElem_mem hk)
theorem farAt_bd {l : List (Int × Int)} (h : l.all okPt = true) {k : Nat} (hk : k + 1 < l.length) : 0 ≤ farAt l k ∧ farAt l k ≤ 67108864 := by
  obtain ⟨a1, a2, a3, a4⟩ := okPt_bd (x := (l.getD k (0, 0)).1) (y := (l.getD k (0, 0)).2) (okAt h (by omega))
  obtain ⟨a5, a6, a7, a8⟩ := okPt_bd (x := (l.getD (k + 1) (0, 0)).1) (y := (l.getD (k + 1) (0, 0)).2) (okAt h hk)
  unfold farAt farS
  generalize l.getD k (0, 0) = P at *
  generalize l.getD (k + 1) (0, 0) = Q at *
  obtain ⟨c1, c2, c3, c4⟩ := dist_bd (u := Q.1 - P.1) (v := Q.2 - P.2) (by omega) (by omega) (by omega) (by omega)
  exact ⟨Pl.isqrt_nonneg _, Pl.isqrt_le_of (by omega) (by omega) (by omega)⟩
theorem longN_bd {l : List (Int × Int)} (h : l.all okPt = true) : ∀ k : Nat, k < l.length → 0 ≤ longN l k ∧ longN l k ≤ 67108864 * k
  | 0, _ => ⟨Int.le_refl _, by simp [longN]⟩
  | k + 1, hk => by
    have a := longN_bd h k (by omega)
    have b := farAt_bd h hk
    simp only [longN]
    omega

set_option maxHeartbeats 1600000 in
theorem Long_c (v : Value) (l : List (Int × Int)) (w : World) (hp : Pts w v l) (hm : l.length ≤ 256) (ha : l.all okPt = true) :
    Calls Try.prog 67 #[v] w fun e w' => e = .returned (.int .i64 (longS l)) ∧ Ext w w' := by
  rcases hp with ⟨a0, c0, rfl, rfl⟩ | ⟨b, off, cap, rfl, hl, hcap, hc⟩
  · rw [show longS [] = 0 from rfl]
    go_enter Try.func67, Try.ntmps67
    go_wp2
    go_loop [3, 4] (fun s i => s = .int .i64 0 ∧ i = .int .i64 0) (fun _ i => 0)
    case atStart => exact ⟨rfl, rfl⟩
    case round =>
      obtain ⟨rfl, rfl⟩ := hrel
      go_wp2
      go_ret
      exact ⟨rfl, Ext.refl _⟩
  · have hm' : (l.length : Int) ≤ 256 := by omega
    have HC : RowKit.Hid (PtCells w b off l) := hc
    have HA := Lib.hid ha
    clear hc ha
    go_enter Try.func67, Try.ntmps67
    go_wp2
    go_loopw [3, 4] (fun s i wr => ∃ k : Nat, k ≤ l.length - 1 ∧ i = .int .i64 k ∧ s = .int .i64 (longN l k) ∧ Ext w wr) (fun _ i _ => l.length - (intOf i).toNat)
    case atStart => exact ⟨0, by omega, rfl, rfl, Ext.refl _⟩
    case round =>
      obtain ⟨k, hk, rfl, rfl, hb⟩ := hrel
      by_cases hlt : k + 1 < l.length
      · have c1 := Ext.cell hb (HC.out k (by omega)).1
        have c2 := Ext.cell hb (HC.out k (by omega)).2
        have c3 := Ext.cell hb (HC.out (k + 1) hlt).1
        have c4 := Ext.cell hb (HC.out (k + 1) hlt).2
        have s1 := longN_bd HA.out k (by omega)
        have s2 := farAt_bd HA.out hlt
        have HF := fun w => Far_c (l.getD k (0, 0)).1 (l.getD k (0, 0)).2 (l.getD (k + 1) (0, 0)).1 (l.getD (k + 1) (0, 0)).2 w (okAt HA.out (by omega)) (okAt HA.out hlt)
        have hf : farS ((l.getD k (0, 0)).1, (l.getD k (0, 0)).2) ((l.getD (k + 1) (0, 0)).1, (l.getD (k + 1) (0, 0)).2) = farAt l k := rfl
        rw [hf] at HF
        clear hf
        have hn : RowKit.Hid (longN l (k + 1) = longN l k + farAt l k) := rfl
        generalize longN l k = A at *
        generalize farAt l k = D at *
        generalize l.getD k (0, 0) = P at *
        generalize l.getD (k + 1) (0, 0) = Q at *
        obtain ⟨s3, s4⟩ := s1
        obtain ⟨s5, s6⟩ := s2
        replace HF := Lib.hid HF
        have i1 : (0 : Int) ≤ (k : Int) := by omega
        have i2 : (k : Int) < (l.length : Int) := by omega
        have i3 : (0 : Int) ≤ (k : Int) + 1 := by omega
        have i4 : (k : Int) + 1 < (l.length : Int) := by omega
        have i5 := IntWalk.i64_in ((k : Int) + 1) (by omega)
        have i6 := IntWalk.i64_in (A + D) (by omega)
        go_wp2_with fail
        go_region_held3 (fun w' => w'.cell? ⟨b, off + k * 2, none⟩ = some (.int .i64 P.1) ∧ w'.cell? ⟨b, off + k * 2 + 1, none⟩ = some (.int .i64 P.2) ∧ w'.cell? ⟨b, off + (k + 1) * 2, none⟩ = some (.int .i64 Q.1) ∧ w'.cell? ⟨b, off + (k + 1) * 2 + 1, none⟩ = some (.int .i64 Q.2))
          (first | go_keep | (refine ⟨?_, ?_, ?_, ?_⟩ <;> exact Ext.cell hb2 (by go_simp)))
          (first | (go_at_call 93; refine (HF.out _).mono ?_; rintro e w' ⟨rfl, hb2⟩))
        go_wp2_with fail
        go_roundw
        case rel => exact ⟨k + 1, by omega, by go_num, by rw [hn.out], by (repeat' (first | exact Ext.refl _ | assumption | refine Ext.alloc ?_ _ | refine Ext.drew ?_ | refine Ext.drewN ?_ _ | refine Ext.set ?_ (by first | exact Nat.le_refl _ | exact le1 _ | exact le2 _ | exact le3 _ | exact le4 _ | exact le5 _ | exact le6 _) _ | refine Ext.trans ?_ (by assumption)))⟩
        case measure => simp [intOf]; omega
      · have hk' : k = l.length - 1 := by omega
        have i1 : ¬ (k : Int) + 1 < (l.length : Int) := by omega
        have i2 : (k : Int) ≤ 256 := by omega
        go_wp2
        go_ret
        exact ⟨rfl, hb⟩
end Go.Proofs.Ytgikfliibimkdaa
/- Contracts: 'Length'. -/
namespace Go.Proofs.Ytgikfliibimkdaa
open Go.RowKit

def lenS (l : List (Int × Int)) : Int × Int := if errPts l = 0 then (if l.length = 0 then (0, 5) else (longS l, 0)) else (0, errPts l)
theorem errPts_0 {l : List (Int × Int)} (h : errPts l = 0) : l.length ≤ 256 ∧ l.all okPt = true := by
  unfold errPts at h
  by_cases h1 : 256 < l.length
  · simp [h1] at h
  · cases h2 : l.all okPt
    · simp [h1, h2] at h
    · exact ⟨by omega, rfl⟩
theorem lenS_bad {l : List (Int × Int)} (h : ¬ errPts l = 0) : lenS l = (0, errPts l) := by simp [lenS, h]
theorem lenS_none {l : List (Int × Int)} (h : errPts l = 0) (k : l.length = 0) : lenS l = (0, 5) := by simp [lenS, h, k]
theorem lenS_ok {l : List (Int × Int)} (h : errPts l = 0) (k : ¬ l.length = 0) : lenS l = (longS l, 0) := by simp [lenS, h, k]

set_option maxRecDepth 100000 in
set_option maxHeartbeats 800000 in
theorem RLength_c (v : Value) (l : List (Int × Int)) (w : World) (hp : Pts w v l) :
    Calls Try.prog 32 #[v] w fun e w' => e = .returned (i2V (lenS l)) ∧ Ext w w' := by
  have P1 := fun w' (h : Ext w w') => points_c v l w' (hp.ext h)
  by_cases he : errPts l = 0
  · obtain ⟨hm, ha⟩ := errPts_0 he
    rw [he] at P1
    have P2 := fun w' (h : Ext w w') => Long_c v l w' (hp.ext h) hm ha
    obtain ⟨a, cap, rfl, hl⟩ := hp.shape
    have H1 := Lib.hid P1
    have H2 := Lib.hid P2
    by_cases hz : l.length = 0
    · rw [lenS_none he hz]
      unfold i2V
      obtain rfl : l = [] := List.length_eq_zero_iff.1 hz
      clear P1 P2 hp he hm ha hz H2 hl
      simp only [List.length_nil] at *
      go_enter Try.func32, Try.ntmps32
      go_wp2_with fail
      refine (H1.out _ (by (repeat' (first | exact Ext.refl _ | assumption | refine Ext.alloc ?_ _ | refine Ext.drew ?_ | refine Ext.drewN ?_ _ | refine Ext.set ?_ (by first | exact Nat.le_refl _ | exact le1 _ | exact le2 _ | exact le3 _ | exact le4 _ | exact le5 _ | exact le6 _) _ | refine Ext.trans ?_ (by assumption))))).mono ?_
      rintro e w1 ⟨rfl, hb1⟩
      go_wp2_with fail
      go_ret2
      exact ⟨rfl, by (repeat' (first | exact Ext.refl _ | assumption | refine Ext.alloc ?_ _ | refine Ext.drew ?_ | refine Ext.drewN ?_ _ | refine Ext.set ?_ (by first | exact Nat.le_refl _ | exact le1 _ | exact le2 _ | exact le3 _ | exact le4 _ | exact le5 _ | exact le6 _) _ | refine Ext.trans ?_ (by assumption)))⟩
    · rw [lenS_ok he hz]
      unfold i2V
      have hz' : ¬ (l.length : Int) = 0 := by omega
      generalize longS l = L at *
      clear P1 P2 hp he hm ha
      go_enter Try.func32, Try.ntmps32
      go_wp2_with fail
      refine (H1.out _ (by (repeat' (first | exact Ext.refl _ | assumption | refine Ext.alloc ?_ _ | refine Ext.drew ?_ | refine Ext.drewN ?_ _ | refine Ext.set ?_ (by first | exact Nat.le_refl _ | exact le1 _ | exact le2 _ | exact le3 _ | exact le4 _ | exact le5 _ | exact le6 _) _ | refine Ext.trans ?_ (by assumption))))).mono ?_
      rintro e w1 ⟨rfl, hb1⟩
      go_wp2_with fail
      refine (H2.out _ (by (repeat' (first | exact Ext.refl _ | assumption | refine Ext.alloc ?_ _ | refine Ext.drew ?_ | refine Ext.drewN ?_ _ | refine Ext.set ?_ (by first | exact Nat.le_refl _ | exact le1 _ | exact le2 _ | exact le3 _ | exact le4 _ | exact le5 _ | exact le6 _) _ | refine Ext.trans ?_ (by assumption))))).mono ?_
      rintro e w2 ⟨rfl, hb2⟩
      go_wp2_with fail
      go_ret2
      exact ⟨rfl, by (repeat' (first | exact Ext.refl _ | assumption | refine Ext.alloc ?_ _ | refine Ext.drew ?_ | refine Ext.drewN ?_ _ | refine Ext.set ?_ (by first | exact Nat.le_refl _ | exact le1 _ | exact le2 _ | exact le3 _ | exact le4 _ | exact le5 _ | exact le6 _) _ | refine Ext.trans ?_ (by assumption)))⟩
  · rw [lenS_bad he]
    unfold i2V
    generalize errPts l = E at *
    have H1 := Lib.hid P1
    clear P1 hp
    go_enter Try.func32, Try.ntmps32
    go_wp2_with fail
    refine (H1.out _ (by (repeat' (first | exact Ext.refl _ | assumption | refine Ext.alloc ?_ _ | refine Ext.drew ?_ | refine Ext.drewN ?_ _ | refine Ext.set ?_ (by first | exact Nat.le_refl _ | exact le1 _ | exact le2 _ | exact le3 _ | exact le4 _ | exact le5 _ | exact le6 _) _ | refine Ext.trans ?_ (by assumption))))).mono ?_
    rintro e w1 ⟨rfl, hb1⟩
    go_wp2_with fail
    go_ret2
    exact ⟨rfl, by (repeat' (first | exact Ext.refl _ | assumption | refine Ext.alloc ?_ _ | refine Ext.drew ?_ | refine Ext.drewN ?_ _ | refine Ext.set ?_ (by first | exact Nat.le_refl _ | exact le1 _ | exact le2 _ | exact le3 _ | exact le4 _ | exact le5 _ | exact le6 _) _ | refine Ext.trans ?_ (by assumption)))⟩

set_option maxRecDepth 100000 in
set_option maxHeartbeats 1600000 in
theorem Length_c (v : Value) (l : List (Int × Int)) (w : World) (hp : Pts w v l) :
    Calls Try.prog 35 #[v] w fun e w' => e = .returned (i2V (lenS l)) ∧ Ext w w' := by
  by_cases he : errPts l = 0
  · obtain ⟨hm, ha⟩ := errPts_0 he
    by_cases hz : l.length = 0
    · rw [lenS_none he hz]
      unfold i2V
      have P1 := fun b cap w' h1 (h : Ext w w') => checkPoints_c b cap v l w' (hp.ext h) h1
      rw [he] at P1
      obtain ⟨a, cap, rfl, hl⟩ := hp.shape
      have H1 := Lib.hid P1
      obtain rfl : l = [] := List.length_eq_zero_iff.1 hz
      clear P1 hp he hm ha hz hl
      simp only [List.length_nil] at *
      go_enter Try.func35, Try.ntmps35
      go_wp2_with fail
      refine (H1.out _ _ _ (by go_simp) (by (repeat' (first | exact Ext.refl _ | assumption | refine Ext.alloc ?_ _ | refine Ext.drew ?_ | refine Ext.drewN ?_ _ | refine Ext.set ?_ (by first | exact Nat.le_refl _ | exact le1 _ | exact le2 _ | exact le3 _ | exact le4 _ | exact le5 _ | exact le6 _) _ | refine Ext.trans ?_ (by assumption))))).mono ?_
      rintro e w1 ⟨rfl, hb1⟩
      go_wp2_with fail
      go_ret2
      exact ⟨rfl, by (repeat' (first | exact Ext.refl _ | assumption | refine Ext.alloc ?_ _ | refine Ext.drew ?_ | refine Ext.drewN ?_ _ | refine Ext.set ?_ (by first | exact Nat.le_refl _ | exact le1 _ | exact le2 _ | exact le3 _ | exact le4 _ | exact le5 _ | exact le6 _) _ | refine Ext.trans ?_ (by assumption)))⟩
    · rw [lenS_ok he hz]
      unfold i2V
      have P1 := fun b cap w' h1 (h : Ext w w') => checkPoints_c b cap v l w' (hp.ext h) h1
      rw [he] at P1
      rcases hp with ⟨a0, c0, rfl, rfl⟩ | ⟨b, off, cap, rfl, hl, hcap, hc⟩
      · exact absurd rfl hz
      have H1 := Lib.hid P1
      have HC : RowKit.Hid (PtCells w b off l) := hc
      have HA := Lib.hid ha
      have hz' : ¬ (l.length : Int) = 0 := by omega
      have hz1 : (1 : Int) ≤ (l.length : Int) := by omega
      have hz2 : (l.length : Int) ≤ (cap : Int) := by omega
      have hz3 : (l.length : Int) ≤ 256 := by omega
      clear P1 he ha hc
      by_cases hc1 : cap = 1
      · have hl1 : l.length = 1 := by omega
        obtain ⟨p, rfl⟩ := List.length_eq_one_iff.1 hl1
        rw [show longS [p] = 0 from rfl]
        subst hc1
        clear hl1 hm hz hz' hz1 hz2 hz3 HC HA hl hcap
        simp only [List.length_cons, List.length_nil, Nat.zero_add] at H1 ⊢
        go_enter Try.func35, Try.ntmps35
        go_wp2_with fail
        refine (H1.out _ _ _ (by go_simp) (by (repeat' (first | exact Ext.refl _ | assumption | refine Ext.alloc ?_ _ | refine Ext.drew ?_ | refine Ext.drewN ?_ _ | refine Ext.set ?_ (by first | exact Nat.le_refl _ | exact le1 _ | exact le2 _ | exact le3 _ | exact le4 _ | exact le5 _ | exact le6 _) _ | refine Ext.trans ?_ (by assumption))))).mono ?_
        rintro e w1 ⟨rfl, hb1⟩
        go_wp2_with fail
        go_loop [5, 20] (fun s i => s = .int .i64 0 ∧ i = .int .i64 0) (fun _ i => 0)
        case atStart => exact ⟨rfl, rfl⟩
        case round =>
          obtain ⟨rfl, rfl⟩ := hrel
          go_wp2
          go_ret2
          exact ⟨rfl, by (repeat' (first | exact Ext.refl _ | assumption | refine Ext.alloc ?_ _ | refine Ext.drew ?_ | refine Ext.drewN ?_ _ | refine Ext.set ?_ (by first | exact Nat.le_refl _ | exact le1 _ | exact le2 _ | exact le3 _ | exact le4 _ | exact le5 _ | exact le6 _) _ | refine Ext.trans ?_ (by assumption)))⟩
      unfold longS
      obtain ⟨m, hmm'⟩ : ∃ m, l.length - 1 = m := ⟨_, rfl⟩
      rw [hmm']
      have hmm := Lib.hid hmm'
      clear hmm'
      go_enter Try.func35, Try.ntmps35
      go_wp2_with fail
      refine (H1.out _ _ _ (by go_simp) (by (repeat' (first | exact Ext.refl _ | assumption | refine Ext.alloc ?_ _ | refine Ext.drew ?_ | refine Ext.drewN ?_ _ | refine Ext.set ?_ (by first | exact Nat.le_refl _ | exact le1 _ | exact le2 _ | exact le3 _ | exact le4 _ | exact le5 _ | exact le6 _) _ | refine Ext.trans ?_ (by assumption))))).mono ?_
      rintro e w1 ⟨rfl, hb1⟩
      go_wp2_with fail
      have HE : Ext w w1 := by (repeat' (first | exact Ext.refl _ | assumption | refine Ext.alloc ?_ _ | refine Ext.drew ?_ | refine Ext.drewN ?_ _ | refine Ext.set ?_ (by first | exact Nat.le_refl _ | exact le1 _ | exact le2 _ | exact le3 _ | exact le4 _ | exact le5 _ | exact le6 _) _ | refine Ext.trans ?_ (by assumption)))
      clear hb1 H1
      have h0 : ((l.length : Int) == 0) = false := beq_false_of_ne hz'
      rw [h0]
      clear h0
      rw [hmm.out]
      have hml : RowKit.Hid (l.length = m + 1) := by have := hmm.out; simp only [RowKit.Hid]; omega
      go_loopw [5, 20] (fun s i wr => ∃ k : Nat, k ≤ m ∧ i = .int .i64 k ∧ s = .int .i64 (longN l k) ∧ Ext w wr) (fun _ i _ => m - (intOf i).toNat)
      case atStart => exact ⟨0, by omega, rfl, rfl, HE⟩
      case round =>
        obtain ⟨k, hk, rfl, rfl, hb⟩ := hrel
        by_cases hlt : k < m
        · have hml' := hml.out
          have c1 := Ext.cell hb (HC.out k (by omega)).1
          have c2 := Ext.cell hb (HC.out k (by omega)).2
          have c3 := Ext.cell hb (HC.out (k + 1) (by omega)).1
          have c4 := Ext.cell hb (HC.out (k + 1) (by omega)).2
          rw [show off + (k + 1) * 2 = off + 2 + k * 2 by omega] at c3 c4
          have s1 := longN_bd HA.out k (by omega)
          have s2 := farAt_bd HA.out (k := k) (by omega)
          have HF := fun w => far_c (l.getD k (0, 0)).1 (l.getD k (0, 0)).2 (l.getD (k + 1) (0, 0)).1 (l.getD (k + 1) (0, 0)).2 w (okAt HA.out (by omega)) (okAt HA.out (by omega))
          have hf : farS ((l.getD k (0, 0)).1, (l.getD k (0, 0)).2) ((l.getD (k + 1) (0, 0)).1, (l.getD (k + 1) (0, 0)).2) = farAt l k := rfl
          rw [hf] at HF
          clear hf
          have hn : RowKit.Hid (longN l (k + 1) = longN l k + farAt l k) := rfl
          generalize longN l k = A at *
          generalize farAt l k = D at *
          generalize l.getD k (0, 0) = P at *
          generalize l.getD (k + 1) (0, 0) = Q at *
          obtain ⟨s3, s4⟩ := s1
          obtain ⟨s5, s6⟩ := s2
          replace HF := Lib.hid HF
          have i1 : (0 : Int) ≤ (k : Int) := by omega
          have i2 : (k : Int) < (l.length : Int) := by omega
          have i3 : (k : Int) < (m : Int) := by omega
          have i5 := IntWalk.i64_in ((k : Int) + 1) (by omega)
          have i6 := IntWalk.i64_in (A + D) (by omega)
          clear hml'
          go_wp2_with fail
          go_region_held3 (fun w' => w'.cell? ⟨b, off + k * 2, none⟩ = some (.int .i64 P.1) ∧ w'.cell? ⟨b, off + k * 2 + 1, none⟩ = some (.int .i64 P.2) ∧ w'.cell? ⟨wr.heap.size, 0, none⟩ = some (.int .i64 Q.1) ∧ w'.cell? ⟨wr.heap.size, 1, none⟩ = some (.int .i64 Q.2))
            (first | go_keep | (refine ⟨?_, ?_, ?_, ?_⟩ <;> exact Ext.cell hb2 (by go_simp)))
            (first | (go_at_call 59; refine (HF.out _).mono ?_; rintro e w' ⟨rfl, hb2⟩))
          go_wp2_with fail
          go_roundw
          case rel => exact ⟨k + 1, by omega, by go_num, by rw [hn.out], by (repeat' (first | exact Ext.refl _ | assumption | refine Ext.alloc ?_ _ | refine Ext.drew ?_ | refine Ext.drewN ?_ _ | refine Ext.set ?_ (by first | exact Nat.le_refl _ | exact le1 _ | exact le2 _ | exact le3 _ | exact le4 _ | exact le5 _ | exact le6 _) _ | refine Ext.trans ?_ (by assumption)))⟩
          case measure => simp [intOf]; omega
        · have hk' : k = m := by omega
          have i1 : ¬ (k : Int) < (m : Int) := by omega
          go_wp2
          go_ret2
          exact ⟨rfl, hb⟩
  · rw [lenS_bad he]
    unfold i2V
    have P1 := fun b cap w' h1 (h : Ext w w') => checkPoints_c b cap v l w' (hp.ext h) h1
    generalize errPts l = E at *
    obtain ⟨a, cap, rfl, hl⟩ := hp.shape
    have H1 := Lib.hid P1
    clear P1 hp
    go_enter Try.func35, Try.ntmps35
    go_wp2_with fail
    refine (H1.out _ _ _ (by go_simp) (by (repeat' (first | exact Ext.refl _ | assumption | refine Ext.alloc ?_ _ | refine Ext.drew ?_ | refine Ext.drewN ?_ _ | refine Ext.set ?_ (by first | exact Nat.le_refl _ | exact le1 _ | exact le2 _ | exact le3 _ | exact le4 _ | exact le5 _ | exact le6 _) _ | refine Ext.trans ?_ (by assumption))))).mono ?_
    rintro e w1 ⟨rfl, hb1⟩
    go_wp2_with fail
    go_ret2
    exact ⟨rfl, by (repeat' (first | exact Ext.refl _ | assumption | refine Ext.alloc ?_ _ | refine Ext.drew ?_ | refine Ext.drewN ?_ _ | refine Ext.set ?_ (by first | exact Nat.le_refl _ | exact le1 _ | exact le2 _ | exact le3 _ | exact le4 _ | exact le5 _ | exact le6 _) _ | refine Ext.trans ?_ (by assumption)))⟩
end Go.Proofs.Ytgikfliibimkdaa
/- Contracts: the point at a length of a polyline. -/
namespace Go.Proofs.Ytgikfliibimkdaa
open Go.RowKit

/-- the point at s of the piece k, which is d long -/
def ptAt (l : List (Int × Int)) (k : Nat) (s d : Int) : Int × Int := ((l.getD k (0, 0)).1 + Pl.near (((l.getD (k + 1) (0, 0)).1 - (l.getD k (0, 0)).1) * s) d, (l.getD k (0, 0)).2 + Pl.near (((l.getD (k + 1) (0, 0)).2 - (l.getD k (0, 0)).2) * s) d)
def atN (l : List (Int × Int)) : Nat → Nat → Int → (Int × Int) × Int
  | 0, _, _ => (l.getD 0 (0, 0), 0)
  | f + 1, k, s => if 0 < farAt l k ∧ s ≤ farAt l k then (ptAt l k s (farAt l k), (k : Int)) else atN l f (k + 1) (s - farAt l k)
def atS (l : List (Int × Int)) (s : Int) : (Int × Int) × Int := atN l (l.length - 1) 0 s
def alongS (l : List (Int × Int)) (s : Int) : ((Int × Int) × Int) × Int :=
  if (lenS l).2 = 0 then (if inB s 0 (lenS l).1 = true then (atS l s, 0) else (((0, 0), 0), 3)) else (((0, 0), 0), (lenS l).2)
def ptiV (p : (Int × Int) × Int) : Value := .tuple #[.agg #[.int .i64 p.1.1, .int .i64 p.1.2], .int .i64 p.2]
def ptieV (p : ((Int × Int) × Int) × Int) : Value := .tuple #[.agg #[.int .i64 p.1.1.1, .int .i64 p.1.1.2], .int .i64 p.1.2, .int .i64 p.2]

theorem Ext.frz' {w w' : World} (h : Ext w w') {p : Addr} (hp : p.block < w.heap.size) (hf : w.frozen? p = false) : w'.frozen? p = false := (Below.frozen h hp).trans hf
theorem atN_yes {l : List (Int × Int)} {f k : Nat} {s : Int} (h : 0 < farAt l k ∧ s ≤ farAt l k) : atN l (f + 1) k s = (ptAt l k s (farAt l k), (k : Int)) := by simp only [atN]; rw [if_pos h]
theorem atN_no {l : List (Int × Int)} {f k : Nat} {s : Int} (h : ¬ (0 < farAt l k ∧ s ≤ farAt l k)) : atN l (f + 1) k s = atN l f (k + 1) (s - farAt l k) := by simp only [atN]; rw [if_neg h]

set_option maxRecDepth 100000 in
set_option maxHeartbeats 3200000 in
theorem At_c (v : Value) (l : List (Int × Int)) (s : Int) (w : World) (hp : Pts w v l) (hm : l.length ≤ 256) (hz : ¬ l.length = 0) (ha : l.all okPt = true) (hs : 0 ≤ s) (hs2 : s ≤ 17179869184) :
    Calls Try.prog 94 #[v, .int .i64 s] w fun e w' => e = .returned (ptiV (atS l s)) ∧ Ext w w' := by
  rcases hp with ⟨a0, c0, rfl, rfl⟩ | ⟨b, off, cap, rfl, hl, hcap, hc⟩
  · exact absurd rfl hz
  have hm' : (l.length : Int) ≤ 256 := by omega
  have hz' : 0 < (l.length : Int) := by omega
  have HC : RowKit.Hid (PtCells w b off l) := hc
  have HA := Lib.hid ha
  unfold atS ptiV
  have h00 := hc 0 (by omega)
  clear hc ha hz
  generalize hT : atN l (l.length - 1) 0 s = T
  have HT := Lib.hid hT
  clear hT
  obtain ⟨⟨t1, t2⟩, t3⟩ := T
  simp only
  go_enter Try.func94, Try.ntmps94
  go_wp2
  go_loopw [6, 1] (fun i t wr => ∃ (k : Nat) (s' : Int), k ≤ l.length - 1 ∧ i = .int .i64 k ∧ t = .int .i64 s' ∧ 0 ≤ s' ∧ s' ≤ 17179869184 ∧ atN l (l.length - 1 - k) k s' = ((t1, t2), t3) ∧ Ext w wr ∧ w.heap.size < wr.heap.size ∧ wr.cell? ⟨w.heap.size, 0, none⟩ = some (.int .i64 0) ∧ wr.cell? ⟨w.heap.size, 1, none⟩ = some (.int .i64 0) ∧ wr.frozen? ⟨w.heap.size, 0, none⟩ = false ∧ wr.frozen? ⟨w.heap.size, 1, none⟩ = false) (fun i _ _ => l.length - (intOf i).toNat)
  case atStart => exact ⟨0, s, by omega, rfl, rfl, by omega, by omega, HT.out, by (repeat' (first | exact Ext.refl _ | assumption | refine Ext.alloc ?_ _ | refine Ext.drew ?_ | refine Ext.drewN ?_ _ | refine Ext.set ?_ (by first | exact Nat.le_refl _ | exact le1 _ | exact le2 _ | exact le3 _ | exact le4 _ | exact le5 _ | exact le6 _) _ | refine Ext.trans ?_ (by assumption))), by go_simp, by go_simp, by go_simp, by go_simp, by go_simp⟩
  case round =>
    obtain ⟨k, s', hk, rfl, rfl, g1, g2, hT', hb, hlt0, r0, r1, r2, r3⟩ := hrel
    by_cases hlt : k + 1 < l.length
    · have c1 := Ext.cell hb (HC.out k (by omega)).1
      have c2 := Ext.cell hb (HC.out k (by omega)).2
      have c3 := Ext.cell hb (HC.out (k + 1) hlt).1
      have c4 := Ext.cell hb (HC.out (k + 1) hlt).2
      have s2 := farAt_bd HA.out hlt
      have HF := fun w => Far_c (l.getD k (0, 0)).1 (l.getD k (0, 0)).2 (l.getD (k + 1) (0, 0)).1 (l.getD (k + 1) (0, 0)).2 w (okAt HA.out (by omega)) (okAt HA.out hlt)
      have hf : farS ((l.getD k (0, 0)).1, (l.getD k (0, 0)).2) ((l.getD (k + 1) (0, 0)).1, (l.getD (k + 1) (0, 0)).2) = farAt l k := rfl
      rw [hf] at HF
      clear hf
      rw [show l.length - 1 - k = (l.length - 1 - (k + 1)) + 1 by omega] at hT'
      obtain ⟨a1, a2, a3, a4⟩ := okPt_bd (x := (l.getD k (0, 0)).1) (y := (l.getD k (0, 0)).2) (okAt HA.out (by omega))
      obtain ⟨a5, a6, a7, a8⟩ := okPt_bd (x := (l.getD (k + 1) (0, 0)).1) (y := (l.getD (k + 1) (0, 0)).2) (okAt HA.out hlt)
      have i1 : (0 : Int) ≤ (k : Int) := by omega
      have i2 : (k : Int) < (l.length : Int) := by omega
      have i3 : (0 : Int) ≤ (k : Int) + 1 := by omega
      have i4 : (k : Int) + 1 < (l.length : Int) := by omega
      have i5 := IntWalk.i64_in ((k : Int) + 1) (by omega)
      by_cases hy : 0 < farAt l k ∧ s' ≤ farAt l k
      · rw [atN_yes hy] at hT'
        unfold ptAt at hT'
        simp only [Prod.mk.injEq] at hT'
        obtain ⟨⟨u1, u2⟩, u3⟩ := hT'
        generalize farAt l k = D at *
        generalize l.getD k (0, 0) = P at *
        generalize l.getD (k + 1) (0, 0) = Q at *
        obtain ⟨s5, s6⟩ := s2
        obtain ⟨y1, y2⟩ := hy
        have UU := Lib.hid (And.intro u1 (And.intro u2 u3))
        clear u1 u2 u3
        replace HF := Lib.hid HF
        obtain ⟨m1, m2⟩ := Pl.mul_bd (a := Q.1 - P.1) (b := s') (A := 33554432) (B := 67108864) (by omega) (by omega) (by omega) (by omega)
        obtain ⟨m3, m4⟩ := Pl.mul_bd (a := Q.2 - P.2) (b := s') (A := 33554432) (B := 67108864) (by omega) (by omega) (by omega) (by omega)
        have n1 := Pl.near_bd (n := (Q.1 - P.1) * s') (d := D) (b := 33554432 * 67108864) (by omega) (by omega) m1 m2
        have n2 := Pl.near_bd (n := (Q.2 - P.2) * s') (d := D) (b := 33554432 * 67108864) (by omega) (by omega) m3 m4
        have e1 := IntWalk.i64_in (Q.1 - P.1) (by omega)
        have e2 := IntWalk.i64_in (Q.2 - P.2) (by omega)
        have e3 := IntWalk.i64_in ((Q.1 - P.1) * s') (by omega)
        have e4 := IntWalk.i64_in ((Q.2 - P.2) * s') (by omega)
        have e5 := IntWalk.i64_in (P.1 + Pl.near ((Q.1 - P.1) * s') D) (by omega)
        have e6 := IntWalk.i64_in (P.2 + Pl.near ((Q.2 - P.2) * s') D) (by omega)
        have q1 : -4000000000000000000 ≤ (Q.1 - P.1) * s' := by omega
        have q2 : (Q.1 - P.1) * s' ≤ 4000000000000000000 := by omega
        have q3 : -4000000000000000000 ≤ (Q.2 - P.2) * s' := by omega
        have q4 : (Q.2 - P.2) * s' ≤ 4000000000000000000 := by omega
        have q5 : 1 ≤ D := by omega
        have q6 : D ≤ 4000000000000000000 := by omega
        have QQ := Lib.hid (And.intro q1 (And.intro q2 (And.intro q3 (And.intro q4 (And.intro q5 q6)))))
        clear q1 q2 q3 q4 q5 q6
        have E := Lib.hid (And.intro e1 (And.intro e2 (And.intro e3 (And.intro e4 (And.intro e5 e6)))))
        clear e1 e2 e3 e4 e5 e6 m1 m2 m3 m4 n1 n2 HT
        go_wp2_with fail
        go_region_held3 (fun w' => w'.cell? ⟨b, off + k * 2, none⟩ = some (.int .i64 P.1) ∧ w'.cell? ⟨b, off + k * 2 + 1, none⟩ = some (.int .i64 P.2) ∧ w'.cell? ⟨b, off + (k + 1) * 2, none⟩ = some (.int .i64 Q.1) ∧ w'.cell? ⟨b, off + (k + 1) * 2 + 1, none⟩ = some (.int .i64 Q.2))
          (first | go_keep | (refine ⟨?_, ?_, ?_, ?_⟩ <;> exact Ext.cell hb2 (by go_simp)))
          (first | (go_at_call 93; refine (HF.out _).mono ?_; rintro e w' ⟨rfl, hb2⟩))
        rename_i hH
        obtain ⟨hh1, hh2, hh3, hh4⟩ := hH
        have hlt1 := Ext.sz hb2
        have r0' := Ext.cell hb2 (p := ⟨w.heap.size, 0, none⟩) (v := .int .i64 0) (by go_simp)
        have r1' := Ext.cell hb2 (p := ⟨w.heap.size, 1, none⟩) (v := .int .i64 0) (by go_simp)
        have r2' := Ext.frz' hb2 (p := ⟨w.heap.size, 0, none⟩) (by simpa using hlt0) (by go_simp)
        have r3' := Ext.frz' hb2 (p := ⟨w.heap.size, 1, none⟩) (by simpa using hlt0) (by go_simp)
        have hE : Ext w w' := by (repeat' (first | exact Ext.refl _ | assumption | refine Ext.alloc ?_ _ | refine Ext.drew ?_ | refine Ext.drewN ?_ _ | refine Ext.set ?_ (by first | exact Nat.le_refl _ | exact le1 _ | exact le2 _ | exact le3 _ | exact le4 _ | exact le5 _ | exact le6 _) _ | refine Ext.trans ?_ (by assumption)))
        obtain ⟨e1, e2, e3, e4, e5, e6⟩ := E.out
        have hbl := World.block_lt_of_cell? w _ (HC.out k (by omega)).1
        simp only at hbl
        have hbn : ¬ b = w.heap.size := by omega
        have hbm : ¬ w.heap.size = b := by omega
        clear HC HA hbl r0 r1 r2 r3 hb2 hb HF c1 c2 c3 c4 a1 a2 a3 a4 a5 a6 a7 a8 g1 g2 s5 s6
        go_wp2_with fail
        go_region_held3 (fun w2 => w2.cell? ⟨b, off + k * 2, none⟩ = some (.int .i64 P.1) ∧ w2.cell? ⟨b, off + k * 2 + 1, none⟩ = some (.int .i64 P.2) ∧ w2.cell? ⟨b, off + (k + 1) * 2, none⟩ = some (.int .i64 Q.1) ∧ w2.cell? ⟨b, off + (k + 1) * 2 + 1, none⟩ = some (.int .i64 Q.2))
          (first | go_keep | (refine ⟨?_, ?_, ?_, ?_⟩ <;> (simp only [World.cell?_drew]; exact cell_set_ne hbn (cell_set_ne hbn (by assumption)))))
          ((go_at_call 102; refine (Near_c _ _ _ (by first | exact QQ.out.1 | exact QQ.out.2.2.1) (by first | exact QQ.out.2.1 | exact QQ.out.2.2.2.1) QQ.out.2.2.2.2.1 QQ.out.2.2.2.2.2).mono ?_; rintro e w2 ⟨rfl, rfl⟩))
        rename_i hH2
        clear hH2 hh1 hh2 hh3 hh4 e1 e2 e3 e4 e5 e6
        go_wp2_with fail
        exact bodyPost_ret (v := .tuple #[.agg #[.int .i64 (P.1 + Pl.near ((Q.1 - P.1) * s') D), .int .i64 (P.2 + Pl.near ((Q.2 - P.2) * s') D)], .int .i64 k]) (by simp [results, Try.results94, go_sem, r0', r1']) rfl ⟨by rw [UU.out.1, UU.out.2.1, UU.out.2.2], by (repeat' (first | exact Ext.refl _ | assumption | refine Ext.alloc ?_ _ | refine Ext.drew ?_ | refine Ext.drewN ?_ _ | refine Ext.set ?_ (by first | exact Nat.le_refl _ | exact le1 _ | exact le2 _ | exact le3 _ | exact le4 _ | exact le5 _ | exact le6 _) _ | refine Ext.trans ?_ (by assumption)))⟩
      · rw [atN_no hy] at hT'
        generalize farAt l k = D at *
        generalize l.getD k (0, 0) = P at *
        generalize l.getD (k + 1) (0, 0) = Q at *
        obtain ⟨s5, s6⟩ := s2
        replace HF := Lib.hid HF
        have HT' := Lib.hid hT'
        have e1 := IntWalk.i64_in (s' - D) (by omega)
        have hge : 0 ≤ s' - D := by
          by_cases h0 : 0 < D
          · have : ¬ s' ≤ D := fun h => hy ⟨h0, h⟩
            omega
          · omega
        have hle : s' - D ≤ 17179869184 := by omega
        clear hT' HT HA HC a1 a2 a3 a4 a5 a6 a7 a8
        go_wp2_with fail
        go_region_held3 (fun w' => w'.cell? ⟨b, off + k * 2, none⟩ = some (.int .i64 P.1) ∧ w'.cell? ⟨b, off + k * 2 + 1, none⟩ = some (.int .i64 P.2) ∧ w'.cell? ⟨b, off + (k + 1) * 2, none⟩ = some (.int .i64 Q.1) ∧ w'.cell? ⟨b, off + (k + 1) * 2 + 1, none⟩ = some (.int .i64 Q.2))
          (first | go_keep | (refine ⟨?_, ?_, ?_, ?_⟩ <;> exact Ext.cell hb2 (by go_simp)))
          (first | (go_at_call 93; refine (HF.out _).mono ?_; rintro e w' ⟨rfl, hb2⟩))
        rename_i hH
        clear hH
        have hlt1 := Ext.sz hb2
        rw [size_drew] at hlt1
        have r0' := Ext.cell hb2 (p := ⟨w.heap.size, 0, none⟩) (v := .int .i64 0) (by go_simp)
        have r1' := Ext.cell hb2 (p := ⟨w.heap.size, 1, none⟩) (v := .int .i64 0) (by go_simp)
        have r2' := Ext.frz' hb2 (p := ⟨w.heap.size, 0, none⟩) (by simpa using hlt0) (by go_simp)
        have r3' := Ext.frz' hb2 (p := ⟨w.heap.size, 1, none⟩) (by simpa using hlt0) (by go_simp)
        have hE : Ext w w' := by (repeat' (first | exact Ext.refl _ | assumption | refine Ext.alloc ?_ _ | refine Ext.drew ?_ | refine Ext.drewN ?_ _ | refine Ext.set ?_ (by first | exact Nat.le_refl _ | exact le1 _ | exact le2 _ | exact le3 _ | exact le4 _ | exact le5 _ | exact le6 _) _ | refine Ext.trans ?_ (by assumption)))
        have hlt2 : w.heap.size < w'.heap.size := by omega
        clear hb2 hb HF r0 r1 r2 r3 hlt0 hlt1
        by_cases h0 : 0 < D
        · have h1 : ¬ s' ≤ D := fun h => hy ⟨h0, h⟩
          clear hy
          go_wp2_with fail
          go_roundw
          case rel => exact ⟨k + 1, s' - D, by omega, by go_num, rfl, hge, hle, HT'.out, hE, hlt2, r0', r1', r2', r3'⟩
          case measure => simp [intOf]; omega
        · clear hy
          go_wp2_with fail
          go_roundw
          case rel => exact ⟨k + 1, s' - D, by omega, by go_num, rfl, hge, hle, HT'.out, hE, hlt2, r0', r1', r2', r3'⟩
          case measure => simp [intOf]; omega
    · have hk' : k = l.length - 1 := by omega
      have i1 : ¬ (k : Int) + 1 < (l.length : Int) := by omega
      have i2 : (k : Int) ≤ 256 := by omega
      rw [show l.length - 1 - k = 0 by omega] at hT'
      simp only [atN] at hT'
      have u1 : (l.getD 0 (0, 0)).1 = t1 := congrArg (·.1.1) hT'
      have u2 : (l.getD 0 (0, 0)).2 = t2 := congrArg (·.1.2) hT'
      have u3 : (0 : Int) = t3 := congrArg (·.2) hT'
      have UU := Lib.hid (And.intro u1 (And.intro u2 u3))
      clear u1 u2 u3 hT'
      obtain ⟨h00a, h00b⟩ := h00
      have c1 := Ext.cell hb h00a
      have c2 := Ext.cell hb h00b
      rw [Nat.zero_mul, Nat.add_zero] at c1 c2
      generalize l.getD 0 (0, 0) = P at *
      clear HT HA HC h00a h00b
      go_wp2
      exact bodyPost_ret (v := .tuple #[.agg #[.int .i64 P.1, .int .i64 P.2], .int .i64 0]) (by simp [results, Try.results94, go_sem, r0, r1]) rfl ⟨by rw [UU.out.1, UU.out.2.1, ← UU.out.2.2], by (repeat' (first | exact Ext.refl _ | assumption | refine Ext.alloc ?_ _ | refine Ext.drew ?_ | refine Ext.drewN ?_ _ | refine Ext.set ?_ (by first | exact Nat.le_refl _ | exact le1 _ | exact le2 _ | exact le3 _ | exact le4 _ | exact le5 _ | exact le6 _) _ | refine Ext.trans ?_ (by assumption)))⟩
end Go.Proofs.Ytgikfliibimkdaa
/- Contracts: 'Along'. -/
namespace Go.Proofs.Ytgikfliibimkdaa
open Go.RowKit

theorem alongS_bad {l : List (Int × Int)} {s : Int} (h : ¬ (lenS l).2 = 0) : alongS l s = (((0, 0), 0), (lenS l).2) := by simp [alongS, h]
theorem alongS_out {l : List (Int × Int)} {s : Int} (h : (lenS l).2 = 0) (k : inB s 0 (lenS l).1 = false) : alongS l s = (((0, 0), 0), 3) := by simp [alongS, h, k]
theorem alongS_in {l : List (Int × Int)} {s : Int} (h : (lenS l).2 = 0) (k : inB s 0 (lenS l).1 = true) : alongS l s = (atS l s, 0) := by simp [alongS, h, k]
theorem lenS_0 {l : List (Int × Int)} (h : (lenS l).2 = 0) : errPts l = 0 ∧ ¬ l.length = 0 ∧ (lenS l).1 = longS l := by
  by_cases he : errPts l = 0
  · by_cases hz : l.length = 0
    · rw [lenS_none he hz] at h; cases h
    · rw [lenS_ok he hz]; exact ⟨he, hz, rfl⟩
  · rw [lenS_bad he] at h; exact absurd h he
theorem longS_le {l : List (Int × Int)} (h : errPts l = 0) (hz : ¬ l.length = 0) : 0 ≤ longS l ∧ longS l ≤ 17179869184 := by
  obtain ⟨hm, ha⟩ := errPts_0 h
  have := longN_bd ha (l.length - 1) (by omega)
  unfold longS
  omega

set_option maxRecDepth 100000 in
set_option maxHeartbeats 3200000 in
theorem Along_c (v : Value) (l : List (Int × Int)) (s : Int) (w : World) (hp : Pts w v l) :
    Calls Try.prog 36 #[v, .int .i64 s] w fun e w' => e = .returned (ptieV (alongS l s)) ∧ Ext w w' := by
  have P1 := fun w' (h : Ext w w') => Length_c v l w' (hp.ext h)
  obtain ⟨a, cap, hv, hl⟩ := hp.shape
  by_cases he : (lenS l).2 = 0
  · cases hi : inB s 0 (lenS l).1
    · rw [alongS_out he hi]
      unfold i2V at P1
      rw [he] at P1
      unfold ptieV
      simp only
      generalize (lenS l).1 = n at *
      have H1 := Lib.hid P1
      have HI := Lib.hid hi
      subst hv
      clear P1 hp he hi
      go_enter Try.func36, Try.ntmps36
      go_wp2_with fail
      refine (H1.out _ (by (repeat' (first | exact Ext.refl _ | assumption | refine Ext.alloc ?_ _ | refine Ext.drew ?_ | refine Ext.drewN ?_ _ | refine Ext.set ?_ (by first | exact Nat.le_refl _ | exact le1 _ | exact le2 _ | exact le3 _ | exact le4 _ | exact le5 _ | exact le6 _) _ | refine Ext.trans ?_ (by assumption))))).mono ?_
      rintro e w1 ⟨rfl, hb1⟩
      have d0 := Ext.cell hb1 (p := ⟨w.heap.size, 0, none⟩) (v := .int .i64 0) (by go_simp)
      have d1 := Ext.cell hb1 (p := ⟨w.heap.size, 1, none⟩) (v := .int .i64 0) (by go_simp)
      have d2 := Ext.frz' hb1 (p := ⟨w.heap.size, 0, none⟩) (by simp) (by go_simp)
      have d3 := Ext.frz' hb1 (p := ⟨w.heap.size, 1, none⟩) (by simp) (by go_simp)
      go_wp2_with (go_at_call 72; refine (within_c _ _ _ _).mono ?_; rintro e w' ⟨he, rfl⟩; rw [HI.out] at he; subst he)
      exact bodyPost_ret (v := .tuple #[.agg #[.int .i64 0, .int .i64 0], .int .i64 0, .int .i64 3]) (by simp [results, Try.results36, go_sem, d0, d1]) rfl ⟨rfl, by (repeat' (first | exact Ext.refl _ | assumption | refine Ext.alloc ?_ _ | refine Ext.drew ?_ | refine Ext.drewN ?_ _ | refine Ext.set ?_ (by first | exact Nat.le_refl _ | exact le1 _ | exact le2 _ | exact le3 _ | exact le4 _ | exact le5 _ | exact le6 _) _ | refine Ext.trans ?_ (by assumption)))⟩
    · rw [alongS_in he hi]
      obtain ⟨hep, hz, hn⟩ := lenS_0 he
      obtain ⟨hm, ha⟩ := errPts_0 hep
      have hle := longS_le hep hz
      rw [hn] at hi
      have hs := inB_iff.1 hi
      unfold i2V at P1
      rw [he, hn] at P1
      unfold ptieV
      simp only
      have hs2 : s ≤ 17179869184 := by omega
      unfold atS
      generalize longS l = n at *
      generalize hT : atN l (l.length - 1) 0 s = T at *
      obtain ⟨⟨t1, t2⟩, t3⟩ := T
      have HT := Lib.hid hT
      simp only
      have H1 := Lib.hid P1
      have HI := Lib.hid hi
      rcases hp with ⟨a0, c0, rfl, rfl⟩ | ⟨b, off, cap, rfl, hl, hcap, hc⟩
      · exact absurd rfl hz
      have HC : RowKit.Hid (PtCells w b off l) := hc
      have HA := Lib.hid ha
      have h00 := Lib.hid (hc 0 (by omega))
      have hz1 : (1 : Int) ≤ (l.length : Int) := by omega
      have hz2 : (l.length : Int) ≤ (cap : Int) := by omega
      have hz3 : (l.length : Int) ≤ 256 := by omega
      have hs1 := hs.1
      cases hv
      clear P1 he hi hn hep ha hle hc hT hs
      by_cases hc1 : cap = 1
      · have hl1 : l.length = 1 := by omega
        obtain ⟨p, rfl⟩ := List.length_eq_one_iff.1 hl1
        subst hc1
        clear hl1 hm hz hz1 hz2 hz3 HC HA hl hcap
        simp only [List.length_cons, List.length_nil, Nat.zero_add, atN, Nat.sub_self, List.getD_cons_zero, Nat.zero_mul, Nat.add_zero] at H1 HT h00 ⊢
        obtain ⟨⟨rfl, rfl⟩, rfl⟩ : (p.1 = t1 ∧ p.2 = t2) ∧ (0 : Int) = t3 := by
          have h := HT.out
          exact ⟨⟨congrArg (·.1.1) h, congrArg (·.1.2) h⟩, congrArg (·.2) h⟩
        clear HT
        go_enter Try.func36, Try.ntmps36
        go_wp2_with fail
        refine (H1.out _ (by (repeat' (first | exact Ext.refl _ | assumption | refine Ext.alloc ?_ _ | refine Ext.drew ?_ | refine Ext.drewN ?_ _ | refine Ext.set ?_ (by first | exact Nat.le_refl _ | exact le1 _ | exact le2 _ | exact le3 _ | exact le4 _ | exact le5 _ | exact le6 _) _ | refine Ext.trans ?_ (by assumption))))).mono ?_
        rintro e w1 ⟨rfl, hb1⟩
        have d0 := Ext.cell hb1 (p := ⟨w.heap.size, 0, none⟩) (v := .int .i64 0) (by go_simp)
        have d1 := Ext.cell hb1 (p := ⟨w.heap.size, 1, none⟩) (v := .int .i64 0) (by go_simp)
        have d2 := Ext.frz' hb1 (p := ⟨w.heap.size, 0, none⟩) (by simp) (by go_simp)
        have d3 := Ext.frz' hb1 (p := ⟨w.heap.size, 1, none⟩) (by simp) (by go_simp)
        have c1 := Ext.cell ((Ext.refl w).alloc (.cells #[.int .i64 0, .int .i64 0] 26)) h00.out.1
        have c2 := Ext.cell ((Ext.refl w).alloc (.cells #[.int .i64 0, .int .i64 0] 26)) h00.out.2
        replace c1 := Ext.cell hb1 c1
        replace c2 := Ext.cell hb1 c2
        go_wp2_with (go_at_call 72; refine (within_c _ _ _ _).mono ?_; rintro e w' ⟨he, rfl⟩; rw [HI.out] at he; subst he)
        go_loop [30] (fun i => i = .int .i64 0) (fun i => 0)
        case atStart => rfl
        case round =>
          subst hrel
          go_wp2
          exact bodyPost_ret (v := .tuple #[.agg #[.int .i64 p.1, .int .i64 p.2], .int .i64 0, .int .i64 0]) (by simp [results, Try.results36, go_sem, d0, d1]) rfl ⟨rfl, by (repeat' (first | exact Ext.refl _ | assumption | refine Ext.alloc ?_ _ | refine Ext.drew ?_ | refine Ext.drewN ?_ _ | refine Ext.set ?_ (by first | exact Nat.le_refl _ | exact le1 _ | exact le2 _ | exact le3 _ | exact le4 _ | exact le5 _ | exact le6 _) _ | refine Ext.trans ?_ (by assumption)))⟩
      obtain ⟨m, hmm'⟩ : ∃ m, l.length - 1 = m := ⟨_, rfl⟩
      rw [hmm'] at HT
      have hmm := Lib.hid hmm'
      clear hmm'
      go_enter Try.func36, Try.ntmps36
      go_wp2_with fail
      refine (H1.out _ (by (repeat' (first | exact Ext.refl _ | assumption | refine Ext.alloc ?_ _ | refine Ext.drew ?_ | refine Ext.drewN ?_ _ | refine Ext.set ?_ (by first | exact Nat.le_refl _ | exact le1 _ | exact le2 _ | exact le3 _ | exact le4 _ | exact le5 _ | exact le6 _) _ | refine Ext.trans ?_ (by assumption))))).mono ?_
      rintro e w1 ⟨rfl, hb1⟩
      have d0 := Ext.cell hb1 (p := ⟨w.heap.size, 0, none⟩) (v := .int .i64 0) (by go_simp)
      have d1 := Ext.cell hb1 (p := ⟨w.heap.size, 1, none⟩) (v := .int .i64 0) (by go_simp)
      have d2 := Ext.frz' hb1 (p := ⟨w.heap.size, 0, none⟩) (by simp) (by go_simp)
      have d3 := Ext.frz' hb1 (p := ⟨w.heap.size, 1, none⟩) (by simp) (by go_simp)
      go_wp2_with (go_at_call 72; refine (within_c _ _ _ _).mono ?_; rintro e w' ⟨he, rfl⟩; rw [HI.out] at he; subst he)
      have HE : Ext w w1 := by (repeat' (first | exact Ext.refl _ | assumption | refine Ext.alloc ?_ _ | refine Ext.drew ?_ | refine Ext.drewN ?_ _ | refine Ext.set ?_ (by first | exact Nat.le_refl _ | exact le1 _ | exact le2 _ | exact le3 _ | exact le4 _ | exact le5 _ | exact le6 _) _ | refine Ext.trans ?_ (by assumption)))
      have hlt1 := World.block_lt_of_cell? w1 _ d0
      simp only at hlt1
      clear hb1 H1
      rw [hmm.out]
      have hml : RowKit.Hid (l.length = m + 1) := by have := hmm.out; simp only [RowKit.Hid]; omega
      go_loopw [30, 1] (fun i t wr => ∃ (k : Nat) (s' : Int), k ≤ m ∧ i = .int .i64 k ∧ t = .int .i64 s' ∧ 0 ≤ s' ∧ s' ≤ 17179869184 ∧ atN l (m - k) k s' = ((t1, t2), t3) ∧ Ext w wr ∧ w.heap.size < wr.heap.size ∧ wr.cell? ⟨w.heap.size, 0, none⟩ = some (.int .i64 0) ∧ wr.cell? ⟨w.heap.size, 1, none⟩ = some (.int .i64 0) ∧ wr.frozen? ⟨w.heap.size, 0, none⟩ = false ∧ wr.frozen? ⟨w.heap.size, 1, none⟩ = false) (fun i _ _ => m - (intOf i).toNat)
      case atStart => exact ⟨0, s, by omega, rfl, rfl, hs1, hs2, HT.out, HE, hlt1, d0, d1, d2, d3⟩
      case round =>
        obtain ⟨k, s', hk, rfl, rfl, g1, g2, hT', hb, hlt0, r0, r1, r2, r3⟩ := hrel
        by_cases hlt : k < m
        · have hml' := hml.out
          have c1 := Ext.cell hb (HC.out k (by omega)).1
          have c2 := Ext.cell hb (HC.out k (by omega)).2
          have c3 := Ext.cell hb (HC.out (k + 1) (by omega)).1
          have c4 := Ext.cell hb (HC.out (k + 1) (by omega)).2
          rw [show off + (k + 1) * 2 = off + 2 + k * 2 by omega] at c3 c4
          have s2 := farAt_bd HA.out (k := k) (by omega)
          have HF := fun w => far_c (l.getD k (0, 0)).1 (l.getD k (0, 0)).2 (l.getD (k + 1) (0, 0)).1 (l.getD (k + 1) (0, 0)).2 w (okAt HA.out (by omega)) (okAt HA.out (by omega))
          have hf : farS ((l.getD k (0, 0)).1, (l.getD k (0, 0)).2) ((l.getD (k + 1) (0, 0)).1, (l.getD (k + 1) (0, 0)).2) = farAt l k := rfl
          rw [hf] at HF
          clear hf
          rw [show m - k = (m - (k + 1)) + 1 by omega] at hT'
          obtain ⟨a1, a2, a3, a4⟩ := okPt_bd (x := (l.getD k (0, 0)).1) (y := (l.getD k (0, 0)).2) (okAt HA.out (by omega))
          obtain ⟨a5, a6, a7, a8⟩ := okPt_bd (x := (l.getD (k + 1) (0, 0)).1) (y := (l.getD (k + 1) (0, 0)).2) (okAt HA.out (by omega))
          have i1 : (0 : Int) ≤ (k : Int) := by omega
          have i2 : (k : Int) < (l.length : Int) := by omega
          have i3 : (k : Int) < (m : Int) := by omega
          have i5 := IntWalk.i64_in ((k : Int) + 1) (by omega)
          clear hml'
          by_cases hy : 0 < farAt l k ∧ s' ≤ farAt l k
          · rw [atN_yes hy] at hT'
            unfold ptAt at hT'
            simp only [Prod.mk.injEq] at hT'
            obtain ⟨⟨u1, u2⟩, u3⟩ := hT'
            generalize farAt l k = D at *
            generalize l.getD k (0, 0) = P at *
            generalize l.getD (k + 1) (0, 0) = Q at *
            obtain ⟨s5, s6⟩ := s2
            obtain ⟨y1, y2⟩ := hy
            have UU := Lib.hid (And.intro u1 (And.intro u2 u3))
            clear u1 u2 u3
            replace HF := Lib.hid HF
            obtain ⟨m1, m2⟩ := Pl.mul_bd (a := Q.1 - P.1) (b := s') (A := 33554432) (B := 67108864) (by omega) (by omega) (by omega) (by omega)
            obtain ⟨m3, m4⟩ := Pl.mul_bd (a := Q.2 - P.2) (b := s') (A := 33554432) (B := 67108864) (by omega) (by omega) (by omega) (by omega)
            have n1 := Pl.near_bd (n := (Q.1 - P.1) * s') (d := D) (b := 33554432 * 67108864) (by omega) (by omega) m1 m2
            have n2 := Pl.near_bd (n := (Q.2 - P.2) * s') (d := D) (b := 33554432 * 67108864) (by omega) (by omega) m3 m4
            have e1 := IntWalk.i64_in (Q.1 - P.1) (by omega)
            have e2 := IntWalk.i64_in (Q.2 - P.2) (by omega)
            have e3 := IntWalk.i64_in ((Q.1 - P.1) * s') (by omega)
            have e4 := IntWalk.i64_in ((Q.2 - P.2) * s') (by omega)
            have e5 := IntWalk.i64_in (P.1 + Pl.near ((Q.1 - P.1) * s') D) (by omega)
            have e6 := IntWalk.i64_in (P.2 + Pl.near ((Q.2 - P.2) * s') D) (by omega)
            have q1 : -4000000000000000000 ≤ (Q.1 - P.1) * s' := by omega
            have q2 : (Q.1 - P.1) * s' ≤ 4000000000000000000 := by omega
            have q3 : -4000000000000000000 ≤ (Q.2 - P.2) * s' := by omega
            have q4 : (Q.2 - P.2) * s' ≤ 4000000000000000000 := by omega
            have q5 : 1 ≤ D := by omega
            have q6 : D ≤ 4000000000000000000 := by omega
            have QQ := Lib.hid (And.intro q1 (And.intro q2 (And.intro q3 (And.intro q4 (And.intro q5 q6)))))
            clear q1 q2 q3 q4 q5 q6
            have E := Lib.hid (And.intro e1 (And.intro e2 (And.intro e3 (And.intro e4 (And.intro e5 e6)))))
            have hbl := World.block_lt_of_cell? wr _ c1
            simp only at hbl
            have hne : ¬ w.heap.size = wr.heap.size := by omega
            have hne2 : ¬ w.heap.size = wr.heap.size + 1 := by omega
            clear e1 e2 e3 e4 e5 e6 m1 m2 m3 m4 n1 n2 HT HC HA g1 g2 a1 a2 a3 a4 a5 a6 a7 a8 s5 s6
            go_wp2_with (go_at_call 59; refine (HF.out _).mono ?_; rintro e w2 ⟨rfl, hb2⟩
                         have f0n := Ext.cell hb2 (p := ⟨wr.heap.size, 0, none⟩) (v := .int .i64 Q.1) (by go_simp); have f1n := Ext.cell hb2 (p := ⟨wr.heap.size, 1, none⟩) (v := .int .i64 Q.2) (by go_simp); have g0n := Ext.cell hb2 (p := ⟨wr.heap.size + 1, 0, none⟩) (v := .int .i64 P.1) (by go_simp); have g1n := Ext.cell hb2 (p := ⟨wr.heap.size + 1, 1, none⟩) (v := .int .i64 P.2) (by go_simp); have r0n := Ext.cell hb2 (p := ⟨w.heap.size, 0, none⟩) (v := .int .i64 0) (by go_simp); have r1n := Ext.cell hb2 (p := ⟨w.heap.size, 1, none⟩) (v := .int .i64 0) (by go_simp); have lfn := World.block_lt_of_cell? w2 _ f0n; simp only at lfn; have lgn := World.block_lt_of_cell? w2 _ g0n; simp only at lgn; have lrn := World.block_lt_of_cell? w2 _ r0n; simp only at lrn; replace f0 := f0n; clear f0n; replace f1 := f1n; clear f1n; replace lf := lfn; clear lfn; replace g0 := g0n; clear g0n; replace g1 := g1n; clear g1n; replace lg := lgn; clear lgn; replace r0 := r0n; clear r0n; replace r1 := r1n; clear r1n; replace lr := lrn; clear lrn)
            have r2' := Ext.frz' hb2 (p := ⟨w.heap.size, 0, none⟩) (by simp; omega) (by go_simp)
            have r3' := Ext.frz' hb2 (p := ⟨w.heap.size, 1, none⟩) (by simp; omega) (by go_simp)
            have hE : Ext w w2 := by (repeat' (first | exact Ext.refl _ | assumption | refine Ext.alloc ?_ _ | refine Ext.drew ?_ | refine Ext.drewN ?_ _ | refine Ext.set ?_ (by first | exact Nat.le_refl _ | exact le1 _ | exact le2 _ | exact le3 _ | exact le4 _ | exact le5 _ | exact le6 _) _ | refine Ext.trans ?_ (by assumption)))
            have hp1 : wr.heap.size ≠ w.heap.size := by omega
            have hp2 : wr.heap.size + 1 ≠ w.heap.size := by omega
            obtain ⟨e1, e2, e3, e4, e5, e6⟩ := E.out
            clear HF hb2 hb c1 c2 c3 c4 r2 r3
            go_region_held3 (fun w2 => w2.cell? ⟨wr.heap.size, 0, none⟩ = some (.int .i64 Q.1) ∧ w2.cell? ⟨wr.heap.size, 1, none⟩ = some (.int .i64 Q.2) ∧ w2.cell? ⟨wr.heap.size + 1, 0, none⟩ = some (.int .i64 P.1) ∧ w2.cell? ⟨wr.heap.size + 1, 1, none⟩ = some (.int .i64 P.2))
              (first | go_keep | (refine ⟨?_, ?_, ?_, ?_⟩ <;> (simp only [World.cell?_drew]; (first | exact cell_set_ne hp1 (cell_set_ne hp1 (by assumption)) | exact cell_set_ne hp2 (cell_set_ne hp2 (by assumption))))))
              ((go_at_call 73; refine (near_c _ _ _ (by first | exact QQ.out.1 | exact QQ.out.2.2.1) (by first | exact QQ.out.2.1 | exact QQ.out.2.2.2.1) QQ.out.2.2.2.2.1 QQ.out.2.2.2.2.2).mono ?_; rintro e w2 ⟨rfl, rfl⟩))
            rename_i hH2
            clear hH2 e1 e2 e3 e4 e5 e6
            go_wp2_with fail
            exact bodyPost_ret (v := .tuple #[.agg #[.int .i64 (P.1 + Pl.near ((Q.1 - P.1) * s') D), .int .i64 (P.2 + Pl.near ((Q.2 - P.2) * s') D)], .int .i64 k, .int .i64 0]) (by simp [results, Try.results36, go_sem, r0, r1]) rfl ⟨by rw [UU.out.1, UU.out.2.1, UU.out.2.2], by (repeat' (first | exact Ext.refl _ | assumption | refine Ext.alloc ?_ _ | refine Ext.drew ?_ | refine Ext.drewN ?_ _ | refine Ext.set ?_ (by first | exact Nat.le_refl _ | exact le1 _ | exact le2 _ | exact le3 _ | exact le4 _ | exact le5 _ | exact le6 _) _ | refine Ext.trans ?_ (by assumption)))⟩
          · rw [atN_no hy] at hT'
            generalize farAt l k = D at *
            generalize l.getD k (0, 0) = P at *
            generalize l.getD (k + 1) (0, 0) = Q at *
            obtain ⟨s5, s6⟩ := s2
            replace HF := Lib.hid HF
            have HT' := Lib.hid hT'
            have e1 := IntWalk.i64_in (s' - D) (by omega)
            have hge : 0 ≤ s' - D := by
              by_cases h0 : 0 < D
              · have : ¬ s' ≤ D := fun h => hy ⟨h0, h⟩
                omega
              · omega
            have hle : s' - D ≤ 17179869184 := by omega
            have hbl := World.block_lt_of_cell? wr _ c1
            simp only at hbl
            have hne : ¬ w.heap.size = wr.heap.size := by omega
            have hne2 : ¬ w.heap.size = wr.heap.size + 1 := by omega
            clear hT' HT HA HC a1 a2 a3 a4 a5 a6 a7 a8
            by_cases h0 : 0 < D
            · have h1 : ¬ s' ≤ D := fun h => hy ⟨h0, h⟩
              clear hy
              go_wp2_with (go_at_call 59; refine (HF.out _).mono ?_; rintro e w2 ⟨rfl, hb2⟩
                           have r0n := Ext.cell hb2 (p := ⟨w.heap.size, 0, none⟩) (v := .int .i64 0) (by go_simp); have r1n := Ext.cell hb2 (p := ⟨w.heap.size, 1, none⟩) (v := .int .i64 0) (by go_simp); have lrn := World.block_lt_of_cell? w2 _ r0n; simp only at lrn; replace r0 := r0n; clear r0n; replace r1 := r1n; clear r1n; replace lr := lrn; clear lrn)
              have r2' := Ext.frz' hb2 (p := ⟨w.heap.size, 0, none⟩) (by simp; omega) (by go_simp)
              have r3' := Ext.frz' hb2 (p := ⟨w.heap.size, 1, none⟩) (by simp; omega) (by go_simp)
              have hE : Ext w w2 := by (repeat' (first | exact Ext.refl _ | assumption | refine Ext.alloc ?_ _ | refine Ext.drew ?_ | refine Ext.drewN ?_ _ | refine Ext.set ?_ (by first | exact Nat.le_refl _ | exact le1 _ | exact le2 _ | exact le3 _ | exact le4 _ | exact le5 _ | exact le6 _) _ | refine Ext.trans ?_ (by assumption)))
              go_roundw
              case rel => exact ⟨k + 1, s' - D, by omega, by go_num, rfl, hge, hle, HT'.out, hE, lr, r0, r1, r2', r3'⟩
              case measure => simp [intOf]; omega
            · clear hy
              go_wp2_with (go_at_call 59; refine (HF.out _).mono ?_; rintro e w2 ⟨rfl, hb2⟩
                           have r0n := Ext.cell hb2 (p := ⟨w.heap.size, 0, none⟩) (v := .int .i64 0) (by go_simp); have r1n := Ext.cell hb2 (p := ⟨w.heap.size, 1, none⟩) (v := .int .i64 0) (by go_simp); have lrn := World.block_lt_of_cell? w2 _ r0n; simp only at lrn; replace r0 := r0n; clear r0n; replace r1 := r1n; clear r1n; replace lr := lrn; clear lrn)
              have r2' := Ext.frz' hb2 (p := ⟨w.heap.size, 0, none⟩) (by simp; omega) (by go_simp)
              have r3' := Ext.frz' hb2 (p := ⟨w.heap.size, 1, none⟩) (by simp; omega) (by go_simp)
              have hE : Ext w w2 := by (repeat' (first | exact Ext.refl _ | assumption | refine Ext.alloc ?_ _ | refine Ext.drew ?_ | refine Ext.drewN ?_ _ | refine Ext.set ?_ (by first | exact Nat.le_refl _ | exact le1 _ | exact le2 _ | exact le3 _ | exact le4 _ | exact le5 _ | exact le6 _) _ | refine Ext.trans ?_ (by assumption)))
              go_roundw
              case rel => exact ⟨k + 1, s' - D, by omega, by go_num, rfl, hge, hle, HT'.out, hE, lr, r0, r1, r2', r3'⟩
              case measure => simp [intOf]; omega
        · have hk' : k = m := by omega
          have i1 : ¬ (k : Int) < (m : Int) := by omega
          have i2 : (k : Int) ≤ 256 := by have hmo := hmm.out; omega
          rw [show m - k = 0 by omega] at hT'
          simp only [atN] at hT'
          have u1 : (l.getD 0 (0, 0)).1 = t1 := congrArg (·.1.1) hT'
          have u2 : (l.getD 0 (0, 0)).2 = t2 := congrArg (·.1.2) hT'
          have u3 : (0 : Int) = t3 := congrArg (·.2) hT'
          have UU := Lib.hid (And.intro u1 (And.intro u2 u3))
          obtain ⟨h00a, h00b⟩ := h00.out
          have c1 := Ext.cell hb h00a
          have c2 := Ext.cell hb h00b
          rw [Nat.zero_mul, Nat.add_zero] at c1 c2
          clear u1 u2 u3 hT' h00a h00b h00 HT HA HC
          generalize l.getD 0 (0, 0) = P at *
          go_wp2
          exact bodyPost_ret (v := .tuple #[.agg #[.int .i64 P.1, .int .i64 P.2], .int .i64 0, .int .i64 0]) (by simp [results, Try.results36, go_sem, r0, r1]) rfl ⟨by rw [UU.out.1, UU.out.2.1, ← UU.out.2.2], by (repeat' (first | exact Ext.refl _ | assumption | refine Ext.alloc ?_ _ | refine Ext.drew ?_ | refine Ext.drewN ?_ _ | refine Ext.set ?_ (by first | exact Nat.le_refl _ | exact le1 _ | exact le2 _ | exact le3 _ | exact le4 _ | exact le5 _ | exact le6 _) _ | refine Ext.trans ?_ (by assumption)))⟩
  · rw [alongS_bad he]
    unfold i2V at P1
    unfold ptieV
    simp only
    generalize (lenS l).1 = n at *
    generalize (lenS l).2 = E at *
    have H1 := Lib.hid P1
    subst hv
    clear P1 hp
    go_enter Try.func36, Try.ntmps36
    go_wp2_with fail
    refine (H1.out _ (by (repeat' (first | exact Ext.refl _ | assumption | refine Ext.alloc ?_ _ | refine Ext.drew ?_ | refine Ext.drewN ?_ _ | refine Ext.set ?_ (by first | exact Nat.le_refl _ | exact le1 _ | exact le2 _ | exact le3 _ | exact le4 _ | exact le5 _ | exact le6 _) _ | refine Ext.trans ?_ (by assumption))))).mono ?_
    rintro e w1 ⟨rfl, hb1⟩
    have d0 := Ext.cell hb1 (p := ⟨w.heap.size, 0, none⟩) (v := .int .i64 0) (by go_simp)
    have d1 := Ext.cell hb1 (p := ⟨w.heap.size, 1, none⟩) (v := .int .i64 0) (by go_simp)
    have d2 := Ext.frz' hb1 (p := ⟨w.heap.size, 0, none⟩) (by simp) (by go_simp)
    have d3 := Ext.frz' hb1 (p := ⟨w.heap.size, 1, none⟩) (by simp) (by go_simp)
    go_wp2_with fail
    exact bodyPost_ret (v := .tuple #[.agg #[.int .i64 0, .int .i64 0], .int .i64 0, .int .i64 E]) (by simp [results, Try.results36, go_sem, d0, d1]) rfl ⟨rfl, by (repeat' (first | exact Ext.refl _ | assumption | refine Ext.alloc ?_ _ | refine Ext.drew ?_ | refine Ext.drewN ?_ _ | refine Ext.set ?_ (by first | exact Nat.le_refl _ | exact le1 _ | exact le2 _ | exact le3 _ | exact le4 _ | exact le5 _ | exact le6 _) _ | refine Ext.trans ?_ (by assumption)))⟩
end Go.Proofs.Ytgikfliibimkdaa
/- What the points along a polyline are like. -/
namespace Go.Proofs.Ytgikfliibimkdaa

def restN (l : List (Int × Int)) : Nat → Nat → Int
  | 0, _ => 0
  | f + 1, k => farAt l k + restN l f (k + 1)
theorem restN_longN (l : List (Int × Int)) : ∀ (f k : Nat), longN l (k + f) = longN l k + restN l f k
  | 0, k => by simp [restN]
  | f + 1, k => by
    have := restN_longN l f (k + 1)
    rw [show k + (f + 1) = k + 1 + f by omega, this]
    simp only [restN, longN]; omega
theorem longS_rest (l : List (Int × Int)) : longS l = restN l (l.length - 1) 0 := by
  unfold longS
  have := restN_longN l (l.length - 1) 0
  rw [Nat.zero_add] at this
  rw [this]; simp [longN]
theorem farS_nonneg (a b : Int × Int) : 0 ≤ farS a b := Pl.isqrt_nonneg _
theorem farAt_nonneg (l : List (Int × Int)) (k : Nat) : 0 ≤ farAt l k := farS_nonneg _ _
theorem restN_nonneg (l : List (Int × Int)) : ∀ f k, 0 ≤ restN l f k
  | 0, _ => Int.le_refl _
  | f + 1, k => by have := farAt_nonneg l k; have := restN_nonneg l f (k + 1); simp only [restN]; omega
theorem sq_zero {u v : Int} (h : u * u + v * v < 1) : u = 0 ∧ v = 0 := by
  have h1 : 0 ≤ u * u := by rcases Int.le_total 0 u with h | h; exact Int.mul_nonneg h h; exact Int.mul_nonneg_of_nonpos_of_nonpos h h
  have h2 : 0 ≤ v * v := by rcases Int.le_total 0 v with h | h; exact Int.mul_nonneg h h; exact Int.mul_nonneg_of_nonpos_of_nonpos h h
  have e1 : u * u = 0 := by omega
  have e2 : v * v = 0 := by omega
  exact ⟨by rcases Int.mul_eq_zero.1 e1 with h | h <;> exact h, by rcases Int.mul_eq_zero.1 e2 with h | h <;> exact h⟩
theorem sq_nonneg (u : Int) : 0 ≤ u * u := by rcases Int.le_total 0 u with h | h; exact Int.mul_nonneg h h; exact Int.mul_nonneg_of_nonpos_of_nonpos h h
theorem farS_zero {a b : Int × Int} (h : farS a b = 0) : a = b := by
  unfold farS at h
  have h1 := sq_nonneg (b.1 - a.1)
  have h2 := sq_nonneg (b.2 - a.2)
  have h3 := Pl.lt_isqrt ((b.1 - a.1) * (b.1 - a.1) + (b.2 - a.2) * (b.2 - a.2)) (by omega)
  rw [h] at h3
  obtain ⟨h4, h5⟩ := sq_zero (u := b.1 - a.1) (v := b.2 - a.2) (by simpa using h3)
  exact Prod.ext (by omega) (by omega)
theorem farS_ge {a b : Int × Int} : b.1 - a.1 ≤ farS a b ∧ a.1 - b.1 ≤ farS a b ∧ b.2 - a.2 ≤ farS a b ∧ a.2 - b.2 ≤ farS a b := by
  have hn := farS_nonneg a b
  unfold farS at hn ⊢
  have h1 := sq_nonneg (b.1 - a.1)
  have h2 := sq_nonneg (b.2 - a.2)
  have h3 := Pl.lt_isqrt ((b.1 - a.1) * (b.1 - a.1) + (b.2 - a.2) * (b.2 - a.2)) (by omega)
  generalize Pl.isqrt ((b.1 - a.1) * (b.1 - a.1) + (b.2 - a.2) * (b.2 - a.2)) = D at *
  generalize hu : b.1 - a.1 = u at *
  generalize hv : b.2 - a.2 = v at *
  have key : ∀ x : Int, x * x < (D + 1) * (D + 1) → x ≤ D := fun x hx => by
    by_cases hc : x ≤ D
    · exact hc
    · exfalso
      have : (D + 1) * (D + 1) ≤ x * x := Int.mul_le_mul (by omega) (by omega) (by omega) (by omega)
      omega
  have e1 : -u * -u = u * u := by rw [Int.neg_mul_neg]
  have e2 : -v * -v = v * v := by rw [Int.neg_mul_neg]
  have k1 := key u (by omega)
  have k2 := key (-u) (by omega)
  have k3 := key v (by omega)
  have k4 := key (-v) (by omega)
  exact ⟨k1, by omega, k3, by omega⟩
theorem rest_zero {l : List (Int × Int)} : ∀ f k, restN l f k = 0 → l.getD (k + f) (0, 0) = l.getD k (0, 0)
  | 0, k, _ => rfl
  | f + 1, k, h => by
    have a := farAt_nonneg l k
    have b := restN_nonneg l f (k + 1)
    simp only [restN] at h
    have c := rest_zero (l := l) f (k + 1) (by omega)
    have d : farAt l k = 0 := by omega
    have e := farS_zero d
    rw [show k + (f + 1) = k + 1 + f by omega, c, ← e]
theorem near_zero {d : Int} (h : 1 ≤ d) : Pl.near 0 d = 0 := by
  have h1 := Pl.near_spec 0 d h
  have a := Pl.near_le (n := 0) (d := d) (k := 0) h (by omega)
  have b := h1.1
  by_cases hc : 0 ≤ Pl.near 0 d
  · omega
  · have : Pl.near 0 d * d ≤ (-1) * d := Int.mul_le_mul_of_nonneg_right (by omega) (by omega)
    omega
theorem near_mul {k d : Int} (h : 1 ≤ d) : Pl.near (k * d) d = k := by
  have h1 := Pl.near_spec (k * d) d h
  have a := Pl.near_le (n := k * d) (d := d) (k := k) h (Int.le_refl _)
  have b := h1.1
  by_cases hc : k ≤ Pl.near (k * d) d
  · omega
  · have : Pl.near (k * d) d * d ≤ (k - 1) * d := Int.mul_le_mul_of_nonneg_right (by omega) (by omega)
    rw [Int.sub_mul] at this
    omega
/-- the first point -/
theorem at_first (l : List (Int × Int)) : ∀ f k, l.getD k (0, 0) = l.getD 0 (0, 0) → (atN l f k 0).1 = l.getD 0 (0, 0)
  | 0, k, _ => rfl
  | f + 1, k, h => by
    have a := farAt_nonneg l k
    by_cases hd : 0 < farAt l k
    · rw [atN_yes ⟨hd, a⟩]
      simp only [ptAt, Int.mul_zero, near_zero (show 1 ≤ farAt l k by omega), Int.add_zero]
      exact h
    · have hd0 : farAt l k = 0 := by omega
      rw [atN_no (by omega), hd0, Int.sub_zero]
      exact at_first l f (k + 1) (by rw [← farS_zero hd0]; exact h)
/-- the last point -/
theorem at_last (l : List (Int × Int)) : ∀ f k, 0 < restN l f k → (atN l f k (restN l f k)).1 = l.getD (k + f) (0, 0)
  | 0, k, h => by simp [restN] at h
  | f + 1, k, h => by
    have a := farAt_nonneg l k
    have b := restN_nonneg l f (k + 1)
    have hr : restN l (f + 1) k = farAt l k + restN l f (k + 1) := rfl
    by_cases hz : restN l f (k + 1) = 0
    · have hd : 0 < farAt l k := by omega
      rw [atN_yes ⟨hd, by omega⟩, hr, hz, Int.add_zero]
      simp only [ptAt]
      rw [near_mul (by omega), near_mul (by omega)]
      have := rest_zero f (k + 1) hz
      rw [show k + (f + 1) = k + 1 + f by omega, this]
      exact Prod.ext (by simp only; omega) (by simp only; omega)
    · rw [atN_no (by omega), hr, show farAt l k + restN l f (k + 1) - farAt l k = restN l f (k + 1) by omega, at_last l f (k + 1) (by omega)]
      rw [show k + (f + 1) = k + 1 + f by omega]
/-- the piece -/
theorem at_piece (l : List (Int × Int)) : ∀ f k s, 0 ≤ s → s ≤ restN l f k → 1 ≤ restN l f k → (k : Int) ≤ (atN l f k s).2 ∧ (atN l f k s).2 < k + f
  | 0, k, s, _, _, h => by simp [restN] at h
  | f + 1, k, s, h0, h1, h2 => by
    have a := farAt_nonneg l k
    have hr : restN l (f + 1) k = farAt l k + restN l f (k + 1) := rfl
    by_cases hy : 0 < farAt l k ∧ s ≤ farAt l k
    · rw [atN_yes hy]; simp only; omega
    · rw [atN_no hy]
      have hs : 0 ≤ s - farAt l k := by
        by_cases h : 0 < farAt l k
        · have : ¬ s ≤ farAt l k := fun k => hy ⟨h, k⟩
          omega
        · omega
      have hr2 : 1 ≤ restN l f (k + 1) := by
        by_cases h : 0 < farAt l k
        · have : ¬ s ≤ farAt l k := fun k => hy ⟨h, k⟩
          omega
        · omega
      have := at_piece l f (k + 1) (s - farAt l k) hs (by omega) hr2
      omega
theorem near_step {u s d : Int} (hd : 1 ≤ d) (h1 : -d ≤ u) (h2 : u ≤ d) : -2 ≤ Pl.near (u * (s + 1)) d - Pl.near (u * s) d ∧ Pl.near (u * (s + 1)) d - Pl.near (u * s) d ≤ 2 := by
  have a := Pl.near_spec (u * (s + 1)) d hd
  have b := Pl.near_spec (u * s) d hd
  have e : u * (s + 1) = u * s + u := by rw [Int.mul_add, Int.mul_one]
  rw [e] at a ⊢
  generalize Pl.near (u * s + u) d = x at *
  generalize Pl.near (u * s) d = y at *
  generalize u * s = m at *
  have k1 : 2 * ((x - y) * d) ≤ 2 * u + 2 * d := by rw [Int.sub_mul]; omega
  have k2 : -(2 * d) + 2 * u ≤ 2 * ((x - y) * d) := by rw [Int.sub_mul]; omega
  generalize x - y = z at *
  constructor
  · by_cases hc : -2 ≤ z
    · exact hc
    · have : z * d ≤ (-3) * d := Int.mul_le_mul_of_nonneg_right (by omega) (by omega)
      omega
  · by_cases hc : z ≤ 2
    · exact hc
    · have : 3 * d ≤ z * d := Int.mul_le_mul_of_nonneg_right (by omega) (by omega)
      omega
/-- two points that are 1 apart -/
theorem at_step (l : List (Int × Int)) : ∀ f k s, 0 ≤ s → s + 1 ≤ restN l f k → (atN l f k s).2 ≤ (atN l f k (s + 1)).2 ∧
    ((atN l f k s).2 = (atN l f k (s + 1)).2 → (-2 ≤ (atN l f k s).1.1 - (atN l f k (s + 1)).1.1 ∧ (atN l f k s).1.1 - (atN l f k (s + 1)).1.1 ≤ 2 ∧ -2 ≤ (atN l f k s).1.2 - (atN l f k (s + 1)).1.2 ∧ (atN l f k s).1.2 - (atN l f k (s + 1)).1.2 ≤ 2))
  | 0, k, s, h, h' => by simp [restN] at h'; omega
  | f + 1, k, s, h0, h1 => by
    have a := farAt_nonneg l k
    have hr : restN l (f + 1) k = farAt l k + restN l f (k + 1) := rfl
    by_cases hy : 0 < farAt l k ∧ s + 1 ≤ farAt l k
    · rw [atN_yes hy, atN_yes ⟨hy.1, by omega⟩]
      refine ⟨Int.le_refl _, fun _ => ?_⟩
      have g := @farS_ge (l.getD k (0, 0)) (l.getD (k + 1) (0, 0))
      have hf : farS (l.getD k (0, 0)) (l.getD (k + 1) (0, 0)) = farAt l k := rfl
      rw [hf] at g
      have n1 := near_step (u := (l.getD (k + 1) (0, 0)).1 - (l.getD k (0, 0)).1) (s := s) (d := farAt l k) (by omega) (by omega) (by omega)
      have n2 := near_step (u := (l.getD (k + 1) (0, 0)).2 - (l.getD k (0, 0)).2) (s := s) (d := farAt l k) (by omega) (by omega) (by omega)
      simp only [ptAt]
      omega
    · by_cases hy2 : 0 < farAt l k ∧ s ≤ farAt l k
      · rw [atN_yes hy2, atN_no hy]
        have hs : s = farAt l k := by
          have : ¬ s + 1 ≤ farAt l k := fun h => hy ⟨hy2.1, h⟩
          omega
        have := at_piece l f (k + 1) (s + 1 - farAt l k) (by omega) (by omega) (by omega)
        exact ⟨by simp only; omega, fun h => by simp only at h; omega⟩
      · rw [atN_no hy, atN_no hy2]
        have hs : 0 ≤ s - farAt l k := by
          by_cases h : 0 < farAt l k
          · have : ¬ s ≤ farAt l k := fun k => hy2 ⟨h, k⟩
            omega
          · omega
        have := at_step l f (k + 1) (s - farAt l k) hs (by omega)
        rw [show s - farAt l k + 1 = s + 1 - farAt l k by omega] at this
        exact this
end Go.Proofs.Ytgikfliibimkdaa
