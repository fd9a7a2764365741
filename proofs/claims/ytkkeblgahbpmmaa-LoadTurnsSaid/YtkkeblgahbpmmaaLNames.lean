
/- Names of loads: validName (a range over a string) and the reference's Named. -/
import Derived.Test.YtkkeblgahbpmmaaLSpec
import Derived.Laws.RangeAny
namespace Go.Proofs.Ytkkeblgahbpmmaa
open Go.RowKit

theorem decode_highL (s : ByteArray) (i : Nat) (h : 128 ≤ (s.get! (i + 0)).toNat) : 128 ≤ (Utf8.decode s i).1 := by
  unfold Utf8.decode
  simp only []
  rw [if_neg (by omega)]
  split
  · split
    · rename_i h2; exact h2
    · simp [Utf8.runeError]
  · split
    · split
      · rename_i h2; simp only [ge_iff_le, Bool.and_eq_true, decide_eq_true_eq] at h2; simp only; omega
      · simp [Utf8.runeError]
    · split
      · split
        · rename_i h2; simp only [ge_iff_le, Bool.and_eq_true, decide_eq_true_eq] at h2; simp only; omega
        · simp [Utf8.runeError]
      · simp [Utf8.runeError]
theorem get_bangL (s : ByteArray) (i : Nat) (h : i < s.size) : s.get! (i + 0) = s[i]'h := by
  rw [Nat.add_zero]
  simp [ByteArray.get!, ByteArray.getElem_eq_getElem_data, getElem!_pos, h]
theorem bytes_takeL {s : ByteArray} {k : Nat} (h : k < s.size) (h0 : (s.data.toList.take k).all alnumL = true) (hp : alnumL (s[k]'h) = true) : (s.data.toList.take (k + 1)).all alnumL = true := by
  have hk : k < s.data.toList.length := by simpa using h
  exact all_take (x := s[k]'h) (by rw [List.getElem?_eq_getElem hk]; simp [ByteArray.getElem_eq_getElem_data]) h0 hp
theorem bytes_noL {s : ByteArray} {k : Nat} (h : k < s.size) (hp : alnumL (s[k]'h) = false) : allL s = false := by
  unfold allL
  have hk : k < s.data.toList.length := by simpa using h
  exact all_no (k := k) (x := s[k]'h) (by rw [List.getElem?_eq_getElem hk]; simp [ByteArray.getElem_eq_getElem_data]) hp
theorem bytes_endL {s : ByteArray} {k : Nat} (h0 : (s.data.toList.take k).all alnumL = true) (hk : s.size ≤ k) : allL s = true := all_end h0 (by simpa using hk)
set_option maxRecDepth 100000 in
set_option maxHeartbeats 1600000 in
theorem validName_c (s : ByteArray) (w : World) :
    Calls Try.prog 45 #[.string s] w fun e w' => e = .returned (.bool (lnameB s)) ∧ Ext w w' := by
  unfold lnameB
  by_cases h1 : s.size < 1
  · have h12 : decide (1 ≤ s.size ∧ s.size ≤ 20) = false := by simp; omega
    rw [h12]
    have h1' : (s.size : Int) < 1 := by omega
    go_enter Try.func45, Try.ntmps45
    go_wp2
    go_ret
    exact ⟨rfl, Ext.refl _⟩
  · by_cases h2 : 20 < s.size
    · have h12 : decide (1 ≤ s.size ∧ s.size ≤ 20) = false := by simp; omega
      rw [h12]
      have h1' : ¬ (s.size : Int) < 1 := by omega
      have h2' : (20 : Int) < (s.size : Int) := by omega
      go_enter Try.func45, Try.ntmps45
      go_wp2
      go_ret
      exact ⟨rfl, Ext.refl _⟩
    · have h12 : decide (1 ≤ s.size ∧ s.size ≤ 20) = true := by simp; omega
      rw [h12, Bool.true_and]
      have h1' : ¬ (s.size : Int) < 1 := by omega
      have h2' : ¬ (20 : Int) < (s.size : Int) := by omega
      go_enter Try.func45, Try.ntmps45
      go_wp2
      go_loopw [] (fun w' => ∃ pos : Nat, pos ≤ s.size ∧ w' = w.iter s pos ∧ (s.data.toList.take pos).all alnumL = true) (fun w' => s.size - w'.iterPos w.heap.size)
      case atStart => exact ⟨0, by omega, rfl, by simp⟩
      case round =>
        obtain ⟨pos, hpos, rfl, ha⟩ := hrel
        have HA := Lib.hid ha
        have HE : Ext w (w.iter s pos) := (Ext.refl w).alloc _
        clear ha
        by_cases hp : pos < s.size
        · by_cases hasc : (s[pos]'hp).toNat < 128
          · have hnx : ∀ ty, (Instr.next (.pointer (some ⟨w.heap.size, 0, none⟩)) true ty).run Try.prog (w.iter s pos) = _ := fun ty => run_next_ascii w s pos ty hp hasc
            obtain ⟨c, hc⟩ : ∃ c : Nat, (s[pos]'hp).toNat = c := ⟨_, rfl⟩
            simp only [hc] at hnx
            rcases (show (97 ≤ c ∧ c ≤ 122) ∨ (¬ 97 ≤ c ∧ 48 ≤ c ∧ c ≤ 57) ∨ (¬ 97 ≤ c ∧ ¬ 48 ≤ c) ∨ (¬ 97 ≤ c ∧ 48 ≤ c ∧ ¬ c ≤ 57) ∨ (97 ≤ c ∧ ¬ c ≤ 122) by omega) with ⟨g1, g2⟩ | ⟨g1, g2, g3⟩ | ⟨g1, g2⟩ | ⟨g1, g2, g3⟩ | ⟨g1, g2⟩
            · have hg := Lib.hid (bytes_takeL hp HA.out (by unfold alnumL; rw [hc]; simp; omega))
              have z1 : ¬ (c : Int) < 97 := by omega
              have z2 : ¬ (122 : Int) < (c : Int) := by omega
              clear hc
              go_wp2
              go_roundw
              case rel => exact ⟨pos + 1, by omega, rfl, hg.out⟩
              case measure => simp; omega
            · have hg := Lib.hid (bytes_takeL hp HA.out (by unfold alnumL; rw [hc]; simp; omega))
              have z1 : (c : Int) < 97 := by omega
              have z2 : ¬ (c : Int) < 48 := by omega
              have z3 : ¬ (57 : Int) < (c : Int) := by omega
              clear hc
              go_wp2
              go_roundw
              case rel => exact ⟨pos + 1, by omega, rfl, hg.out⟩
              case measure => simp; omega
            · have hg := Lib.hid (bytes_noL hp (by unfold alnumL; rw [hc]; simp; omega))
              have z1 : (c : Int) < 97 := by omega
              have z2 : (c : Int) < 48 := by omega
              clear hc
              go_wp2
              go_ret
              exact ⟨ret_bool hg.out.symm, (Ext.refl w).alloc _⟩
            · have hg := Lib.hid (bytes_noL hp (by unfold alnumL; rw [hc]; simp; omega))
              have z1 : (c : Int) < 97 := by omega
              have z2 : ¬ (c : Int) < 48 := by omega
              have z3 : (57 : Int) < (c : Int) := by omega
              clear hc
              go_wp2
              go_ret
              exact ⟨ret_bool hg.out.symm, (Ext.refl w).alloc _⟩
            · have hg := Lib.hid (bytes_noL hp (by unfold alnumL; rw [hc]; simp; omega))
              have z1 : ¬ (c : Int) < 97 := by omega
              have z2 : (122 : Int) < (c : Int) := by omega
              have z3 : ¬ (c : Int) < 48 := by omega
              have z4 : (57 : Int) < (c : Int) := by omega
              clear hc
              go_wp2
              go_ret
              exact ⟨ret_bool hg.out.symm, (Ext.refl w).alloc _⟩
          · have hnx : ∀ ty, (Instr.next (.pointer (some ⟨w.heap.size, 0, none⟩)) true ty).run Try.prog (w.iter s pos) = _ := fun ty => run_next_any w s pos ty hp
            have hd := decode_highL s pos (by rw [get_bangL s pos hp]; omega)
            have hg := Lib.hid (bytes_noL hp (by unfold alnumL; simp; omega))
            generalize (Utf8.decode s pos).1 = c at *
            generalize (Utf8.decode s pos).2 = n at *
            have z1 : ¬ (c : Int) < 97 := by omega
            have z2 : (122 : Int) < (c : Int) := by omega
            have z3 : ¬ (c : Int) < 48 := by omega
            have z4 : (57 : Int) < (c : Int) := by omega
            go_wp2
            go_ret
            exact ⟨ret_bool hg.out.symm, (Ext.refl w).alloc _⟩
        · have hnx : ∀ ty, (Instr.next (.pointer (some ⟨w.heap.size, 0, none⟩)) true ty).run Try.prog (w.iter s pos) = _ := fun ty => run_next_end w s pos ty hp
          have hg := Lib.hid (bytes_endL HA.out (by omega))
          go_wp2
          go_ret
          exact ⟨ret_bool hg.out.symm, (Ext.refl w).alloc _⟩
end Go.Proofs.Ytkkeblgahbpmmaa
