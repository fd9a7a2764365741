
/- Contracts of the functions that look whether points are valid. -/
import Derived.Test.YtgikfliibimkdaaMem
namespace Go.Proofs.Ytgikfliibimkdaa
open Go.RowKit

def vPt (p : Int × Int) : Value := .agg #[.int .i64 p.1, .int .i64 p.2]
def okPt (p : Int × Int) : Bool := inB p.1 (-16777216) 16777216 && inB p.2 (-16777216) 16777216

set_option maxHeartbeats 400000 in
theorem Is_c (x y : Int) (w : World) :
    Calls Try.prog 47 #[.agg #[.int .i64 x, .int .i64 y]] w fun e w' => e = .returned (.bool (okPt (x, y))) ∧ Ext w w' := by
  cases hx : inB x (-16777216) 16777216
  · have h : okPt (x, y) = false := by simp [okPt, hx]
    rw [h]; clear h
    go_enter Try.func47, Try.ntmps47
    go_wp2_with (go_at_call 81; refine (In_c _ _ _ _).mono ?_; rintro e w' ⟨rfl, rfl⟩)
    go_ret
    exact ⟨rfl, (Below.refl _ _).alloc (Nat.le_refl _) _⟩
  · have h : okPt (x, y) = inB y (-16777216) 16777216 := by simp [okPt, hx]
    rw [h]; clear h
    go_enter Try.func47, Try.ntmps47
    go_wp2_with (go_at_call 81; refine (In_c _ _ _ _).mono ?_; rintro e w' ⟨rfl, rfl⟩)
    go_ret
    exact ⟨rfl, (Below.refl _ _).alloc (Nat.le_refl _) _⟩

theorem getD_lt {α : Type} {l : List α} {k : Nat} {d : α} (h : k < l.length) : l.getD k d = l[k] := by simp [List.getD, h]
theorem all_okPt_false {l : List (Int × Int)} {k : Nat} (hk : k < l.length) (h : okPt (l.getD k (0, 0)) = false) : l.all okPt = false := by
  rw [getD_lt hk] at h
  rw [List.all_eq_false]
  exact ⟨_, List.getElem_mem hk, by simp [h]⟩
theorem all_take_succ {l : List (Int × Int)} {k : Nat} (hk : k < l.length) (h0 : (l.take k).all okPt = true) (h : okPt (l.getD k (0, 0)) = true) : (l.take (k + 1)).all okPt = true := by
  rw [getD_lt hk] at h
  rw [List.take_succ_eq_append_getElem hk, List.all_append, h0]; simp [h]

set_option maxHeartbeats 800000 in
theorem valid_c (v : Value) (l : List (Int × Int)) (w : World) (hp : Pts w v l) :
    Calls Try.prog 58 #[v] w fun e w' => e = .returned (.bool (l.all okPt)) ∧ Ext w w' := by
  rcases hp with ⟨a0, c0, rfl, rfl⟩ | ⟨b, off, cap, rfl, hl, hcap, hc⟩
  · go_enter Try.func58, Try.ntmps58
    go_wp2
    go_loop [7] (fun i => i = .int .i64 0) (fun i => 0)
    case atStart => rfl
    case round =>
      subst hrel
      go_wp2
      go_ret
      exact ⟨rfl, Below.refl _ _⟩
  · have HC : RowKit.Hid (PtCells w b off l) := hc
    clear hc
    go_enter Try.func58, Try.ntmps58
    go_wp2
    go_loopw [7] (fun i wr => ∃ k : Nat, k ≤ l.length ∧ i = .int .i64 k ∧ (l.take k).all okPt = true ∧ Below w.heap.size w wr) (fun i _ => l.length - (intOf i).toNat)
    case atStart => exact ⟨0, by omega, rfl, by simp, Below.refl _ _⟩
    case round =>
      obtain ⟨k, hk, rfl, ha, hb⟩ := hrel
      by_cases hlt : k < l.length
      · have c1 := Ext.cell hb (HC.out k hlt).1
        have c2 := Ext.cell hb (HC.out k hlt).2
        generalize hP : l.getD k (0, 0) = P at c1 c2
        have HA := Lib.hid ha
        have HP := Lib.hid hP
        clear ha hP
        cases hx : inB P.1 (-16777216) 16777216
        · have HF : RowKit.Hid (okPt P = false) := by simp [RowKit.Hid, okPt, hx]
          go_wp2_with (go_at_call 72; refine (within_c _ _ _ _).mono ?_; rintro e w' ⟨rfl, rfl⟩)
          go_ret
          exact ⟨ret_bool (all_okPt_false hlt (by rw [HP.out]; exact HF.out)).symm, hb.alloc hb.size _⟩
        · cases hy : inB P.2 (-16777216) 16777216
          · have HF : RowKit.Hid (okPt P = false) := by simp [RowKit.Hid, okPt, hy]
            go_wp2_with (go_at_call 72; refine (within_c _ _ _ _).mono ?_; rintro e w' ⟨rfl, rfl⟩)
            go_ret
            exact ⟨ret_bool (all_okPt_false hlt (by rw [HP.out]; exact HF.out)).symm, hb.alloc hb.size _⟩
          · have HF : RowKit.Hid (okPt P = true) := by simp [RowKit.Hid, okPt, hx, hy]
            go_wp2_with (go_at_call 72; refine (within_c _ _ _ _).mono ?_; rintro e w' ⟨rfl, rfl⟩)
            go_roundw
            case rel => exact ⟨k + 1, by omega, by go_num, all_take_succ hlt HA.out (by rw [HP.out]; exact HF.out), hb.alloc hb.size _⟩
            case measure => simp [intOf]; omega
      · have HA := Lib.hid ha
        clear ha
        go_wp2
        go_ret
        exact ⟨ret_bool (by have := HA.out; rw [List.take_of_length_le (by omega)] at this; exact this.symm), hb⟩
end Go.Proofs.Ytgikfliibimkdaa
