/- Contracts: the length of a polyline. -/
import Derived.Test.YtngmhmpejjcngaaPoints
import Derived.Test.YtngmhmpejjcngaaDist
import Derived.Test.YtngmhmpejjcngaaPullMath
import Derived.Deep.RegionHeld3
namespace Go.Proofs.Ytngmhmpejjcngaa
open Go.RowKit

/-- the distance of a point of a list and the next one; the length up to a point -/
def farAt (l : List (Int × Int)) (i : Nat) : Int := farS (l.getD i (0, 0)) (l.getD (i + 1) (0, 0))
def longN (l : List (Int × Int)) : Nat → Int
  | 0 => 0
  | k + 1 => longN l k + farAt l k
def longS (l : List (Int × Int)) : Int := longN l (l.length - 1)
theorem okAt {l : List (Int × Int)} (h : l.all okPt = true) {k : Nat} (hk : k < l.length) : okPt (l.getD k (0, 0)) = true := by
  rw [getD_lt hk]; exact List.all_eq_true.1 h _ (List.getElem_mem hk)
theorem farAt_bd {l : List (Int × Int)} (h : l.all okPt = true) {k : Nat} (hk : k + 1 < l.length) : 0 ≤ farAt l k ∧ farAt l k ≤ 67108864 := by
  obtain ⟨a1, a2, a3, a4⟩ := okPt_bd (x := (l.getD k (0, 0)).1) (y := (l.getD k (0, 0)).2) (okAt h (by omega))
  obtain ⟨a5, a6, a7, a8⟩ := okPt_bd (x := (l.getD (k + 1) (0, 0)).1) (y := (l.getD (k + 1) (0, 0)).2) (okAt h hk)
  unfold farAt farS
  generalize l.getD k (0, 0) = P at *
  generalize l.getD (k + 1) (0, 0) = Q at *
  obtain ⟨c1, c2, c3, c4⟩ := dist_bd (u := Q.1 - P.1) (v := Q.2 - P.2) (by omega) (by omega) (by omega) (by omega)
  exact ⟨Pl.isqrt_nonneg _, Pl.isqrt_le_of (by omega) (by omega) (by omega)⟩
theorem longN_bd {l : List (Int × Int)} (h : l.all okPt = true) : ∀ k : Nat, k < l.length → 0 ≤ longN l k ∧ longN l k ≤ 67108864 * k
  | 0, _ => ⟨Int.le_refl _, by simp [longN]⟩
  | k + 1, hk => by
    have a := longN_bd h k (by omega)
    have b := farAt_bd h hk
    simp only [longN]
    omega

set_option maxHeartbeats 1600000 in
theorem Long_c (v : Value) (l : List (Int × Int)) (w : World) (hp : Pts w v l) (hm : l.length ≤ 256) (ha : l.all okPt = true) :
    Calls Try.prog 90 #[v] w fun e w' => e = .returned (.int .i64 (longS l)) ∧ Ext w w' := by
  rcases hp with ⟨a0, c0, rfl, rfl⟩ | ⟨b, off, cap, rfl, hl, hcap, hc⟩
  · rw [show longS [] = 0 from rfl]
    go_enter Try.func90, Try.ntmps90
    go_wp2
    go_loop [3, 4] (fun s i => s = .int .i64 0 ∧ i = .int .i64 0) (fun _ i => 0)
    case atStart => exact ⟨rfl, rfl⟩
    case round =>
      obtain ⟨rfl, rfl⟩ := hrel
      go_wp2
      go_ret
      exact ⟨rfl, Ext.refl _⟩
  · have hm' : (l.length : Int) ≤ 256 := by omega
    have HC : RowKit.Hid (PtCells w b off l) := hc
    have HA := Lib.hid ha
    clear hc ha
    go_enter Try.func90, Try.ntmps90
    go_wp2
    go_loopw [3, 4] (fun s i wr => ∃ k : Nat, k ≤ l.length - 1 ∧ i = .int .i64 k ∧ s = .int .i64 (longN l k) ∧ Ext w wr) (fun _ i _ => l.length - (intOf i).toNat)
    case atStart => exact ⟨0, by omega, rfl, rfl, Ext.refl _⟩
    case round =>
      obtain ⟨k, hk, rfl, rfl, hb⟩ := hrel
      by_cases hlt : k + 1 < l.length
      · have c1 := Ext.cell hb (HC.out k (by omega)).1
        have c2 := Ext.cell hb (HC.out k (by omega)).2
        have c3 := Ext.cell hb (HC.out (k + 1) hlt).1
        have c4 := Ext.cell hb (HC.out (k + 1) hlt).2
        have s1 := longN_bd HA.out k (by omega)
        have s2 := farAt_bd HA.out hlt
        have HF := fun w => Far_c (l.getD k (0, 0)).1 (l.getD k (0, 0)).2 (l.getD (k + 1) (0, 0)).1 (l.getD (k + 1) (0, 0)).2 w (okAt HA.out (by omega)) (okAt HA.out hlt)
        have hf : farS ((l.getD k (0, 0)).1, (l.getD k (0, 0)).2) ((l.getD (k + 1) (0, 0)).1, (l.getD (k + 1) (0, 0)).2) = farAt l k := rfl
        rw [hf] at HF
        clear hf
        have hn : RowKit.Hid (longN l (k + 1) = longN l k + farAt l k) := rfl
        generalize longN l k = A at *
        generalize farAt l k = D at *
        generalize l.getD k (0, 0) = P at *
        generalize l.getD (k + 1) (0, 0) = Q at *
        obtain ⟨s3, s4⟩ := s1
        obtain ⟨s5, s6⟩ := s2
        replace HF := Lib.hid HF
        have i1 : (0 : Int) ≤ (k : Int) := by omega
        have i2 : (k : Int) < (l.length : Int) := by omega
        have i3 : (0 : Int) ≤ (k : Int) + 1 := by omega
        have i4 : (k : Int) + 1 < (l.length : Int) := by omega
        have i5 := IntWalk.i64_in ((k : Int) + 1) (by omega)
        have i6 := IntWalk.i64_in (A + D) (by omega)
        go_wp2_with fail
        go_region_held3 (fun w' => w'.cell? ⟨b, off + k * 2, none⟩ = some (.int .i64 P.1) ∧ w'.cell? ⟨b, off + k * 2 + 1, none⟩ = some (.int .i64 P.2) ∧ w'.cell? ⟨b, off + (k + 1) * 2, none⟩ = some (.int .i64 Q.1) ∧ w'.cell? ⟨b, off + (k + 1) * 2 + 1, none⟩ = some (.int .i64 Q.2))
          (first | go_keep | (refine ⟨?_, ?_, ?_, ?_⟩ <;> exact Ext.cell hb2 (by go_simp)))
          (first | (go_at_call 87; refine (HF.out _).mono ?_; rintro e w' ⟨rfl, hb2⟩))
        go_wp2_with fail
        go_roundw
        case rel => exact ⟨k + 1, by omega, by go_num, by rw [hn.out], by (repeat' (first | exact Ext.refl _ | assumption | refine Ext.alloc ?_ _ | refine Ext.drew ?_ | refine Ext.drewN ?_ _ | refine Ext.set ?_ (by first | exact Nat.le_refl _ | exact le1 _ | exact le2 _ | exact le3 _ | exact le4 _ | exact le5 _ | exact le6 _) _ | refine Ext.trans ?_ (by assumption)))⟩
        case measure => simp [intOf]; omega
      · have hk' : k = l.length - 1 := by omega
        have i1 : ¬ (k : Int) + 1 < (l.length : Int) := by omega
        have i2 : (k : Int) ≤ 256 := by omega
        go_wp2
        go_ret
        exact ⟨rfl, hb⟩
end Go.Proofs.Ytngmhmpejjcngaa
