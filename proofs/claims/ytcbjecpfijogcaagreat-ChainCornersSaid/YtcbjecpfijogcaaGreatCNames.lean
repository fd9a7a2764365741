
/- Names: isName and Name. -/
import Derived.Test.YtcbjecpfijogcaaGreatCBase
import Derived.Test.YtcbjecpfijogcaaGreatShelf
import Derived.Laws.RangeString
namespace Go.Proofs.YtcbjecpfijogcaaGreat
open Go.RowKit Go.Shelf

def alnum (c : UInt8) : Bool := (decide (97 ≤ c.toNat) && decide (c.toNat ≤ 122)) || (decide (48 ≤ c.toNat) && decide (c.toNat ≤ 57))
def badR (r : Nat) : Bool := (decide (r < 97) || decide (122 < r)) && (decide (r < 48) || decide (57 < r))
def allAl (s : ByteArray) : Bool := s.data.toList.all alnum
/-- a text is a name -/
def nameB (s : ByteArray) : Bool := decide (1 ≤ s.size ∧ s.size ≤ 20) && allAl s
theorem badR_of_alnum (c : UInt8) : badR c.toNat = !alnum c := by
  unfold badR alnum
  rw [Bool.eq_iff_iff]; simp
theorem decode_high (s : ByteArray) (i : Nat) (h : 128 ≤ (s.get! (i + 0)).toNat) : 128 ≤ (Utf8.decode s i).1 := by
  unfold Utf8.decode
  simp only []
  rw [if_neg (by omega)]
  split
  · split
    · rename_i h2; exact h2
    · simp [Utf8.runeError]
  · split
    · split
      · rename_i h2; simp only [ge_iff_le, Bool.and_eq_true, decide_eq_true_eq] at h2; simp only; omega
      · simp [Utf8.runeError]
    · split
      · split
        · rename_i h2; simp only [ge_iff_le, Bool.and_eq_true, decide_eq_true_eq] at h2; simp only; omega
        · simp [Utf8.runeError]
      · simp [Utf8.runeError]
theorem get_bang (s : ByteArray) (i : Nat) (h : i < s.size) : s.get! (i + 0) = s[i]'h := by
  rw [Nat.add_zero]
  simp [ByteArray.get!, ByteArray.getElem_eq_getElem_data, getElem!_pos, h]
theorem idx_bad (s : ByteArray) : ∀ (f pos : Nat), s.size ≤ pos + f → (0 ≤ Lib.idxFuncFrom badR true s f pos ↔ ∃ i, ∃ h : i < s.size, pos ≤ i ∧ alnum (s[i]'h) = false)
  | 0, pos, hf => by
    simp only [Lib.idxFuncFrom]
    constructor
    · intro h; omega
    · rintro ⟨i, h, hp, _⟩; omega
  | f + 1, pos, hf => by
    unfold Lib.idxFuncFrom
    by_cases hp : pos < s.size
    · rw [if_pos hp]
      by_cases ha : (s[pos]'hp).toNat < 128
      · rw [decode_ascii s pos hp ha]
        simp only
        cases hb : badR (s[pos]'hp).toNat
        · rw [if_neg (by simp)]
          rw [badR_of_alnum] at hb
          rw [idx_bad s f (pos + 1) (by omega)]
          constructor
          · rintro ⟨i, h, h1, h2⟩; exact ⟨i, h, by omega, h2⟩
          · rintro ⟨i, h, h1, h2⟩
            rcases Nat.eq_or_lt_of_le h1 with h3 | h3
            · subst h3; rw [h2] at hb; simp at hb
            · exact ⟨i, h, by omega, h2⟩
        · rw [if_pos rfl]
          rw [badR_of_alnum] at hb
          exact ⟨fun _ => ⟨pos, hp, Nat.le_refl _, by simpa using hb⟩, fun _ => by omega⟩
      · have hd := decode_high s pos (by rw [get_bang s pos hp]; omega)
        have hbad : badR (Utf8.decode s pos).1 = true := by unfold badR; simp; omega
        rw [if_pos hbad]
        exact ⟨fun _ => ⟨pos, hp, Nat.le_refl _, by unfold alnum; simp; omega⟩, fun _ => by omega⟩
    · rw [if_neg hp]
      constructor
      · intro h; omega
      · rintro ⟨i, h, h1, _⟩; omega
theorem idx_all (s : ByteArray) : decide (0 ≤ Lib.idxFunc badR true s) = !allAl s := by
  unfold allAl
  rw [Bool.eq_iff_iff]
  simp only [decide_eq_true_eq, Bool.not_eq_true']
  unfold Lib.idxFunc
  rw [idx_bad s s.size 0 (by omega), List.all_eq_false]
  constructor
  · rintro ⟨i, h, _, h2⟩
    exact ⟨s[i]'h, by simp [ByteArray.getElem_eq_getElem_data], by simp [h2]⟩
  · rintro ⟨x, hx, h2⟩
    obtain ⟨i, hi, rfl⟩ := List.mem_iff_getElem.1 hx
    exact ⟨i, by simpa using hi, Nat.zero_le _, by simpa [ByteArray.getElem_eq_getElem_data] using h2⟩

theorem badR_at (w : World) : PredAt Tryz.prog 85 #[] encR badR w := fun W r _ => by
  unfold FnGives badR
  by_cases h1 : r < 97 <;> by_cases h2 : 122 < r <;> by_cases h3 : r < 48 <;> by_cases h4 : 57 < r
  all_goals first
    | (exfalso; omega)
    | (have z1 : (r : Int) < 97 ↔ r < 97 := by omega
       have z2 : (122 : Int) < (r : Int) ↔ 122 < r := by omega
       have z3 : (r : Int) < 48 ↔ r < 48 := by omega
       have z4 : (57 : Int) < (r : Int) ↔ 57 < r := by omega
       go_enter Tryz.func85, Tryz.ntmps85
       go_wp2
       all_goals first | (exfalso; omega) | (go_ret; exact ⟨by simp [h1, h2, h3, h4], 0, rfl⟩))

set_option maxHeartbeats 800000 in
theorem isName_c (s : ByteArray) (w : World) :
    Calls Tryz.prog 62 #[.string s] w fun e w' => e = .returned (.bool (nameB s)) ∧ Ext w w' := by
  have hC := fun w => Tryz.strings_ContainsFunc 85 #[] (enters_of Tryz.func85 (by kernel_rfl) rfl) badR s w (badR_at w)
  rw [idx_all s] at hC
  have HC := Lib.hid hC
  clear hC
  unfold nameB
  by_cases h1 : 1 ≤ s.size
  · by_cases h2 : s.size ≤ 20
    · have h12 : decide (1 ≤ s.size ∧ s.size ≤ 20) = true := by simp [h1, h2]
      rw [h12]
      generalize allAl s = a at *
      have z0 : ((s.size : Int) == 0) = false := by rw [beq_eq_false_iff_ne]; omega
      have z1 : ¬ s = ByteArray.empty := by rintro rfl; exact absurd h1 (by decide)
      go_enter Tryz.func62, Tryz.ntmps62
      go_wp2_with (go_at_call 84; refine (HC.out _).mono ?_; rintro e w1 ⟨rfl, hb1⟩)
      go_ret
      exact ⟨by simp, hb1⟩
    · have h12 : decide (1 ≤ s.size ∧ s.size ≤ 20) = false := by simp [h2]
      rw [h12]
      have z0 : ((s.size : Int) == 0) = false := by rw [beq_eq_false_iff_ne]; omega
      have z1 : ¬ s = ByteArray.empty := by rintro rfl; exact absurd h1 (by decide)
      go_enter Tryz.func62, Tryz.ntmps62
      go_wp2
      go_ret
      exact ⟨rfl, Ext.refl _⟩
  · have h12 : decide (1 ≤ s.size ∧ s.size ≤ 20) = false := by simp [h1]
    rw [h12]
    have z1 : s = ByteArray.empty := by
      have : s.size = 0 := by omega
      exact ByteArray.size_eq_zero_iff.1 this
    subst z1
    go_enter Tryz.func62, Tryz.ntmps62
    go_wp2
    go_ret
    exact ⟨rfl, Ext.refl _⟩

theorem all_bytes_take {s : ByteArray} {k : Nat} (h : k < s.size) (h0 : (s.data.toList.take k).all alnum = true) (hp : alnum (s[k]'h) = true) : (s.data.toList.take (k + 1)).all alnum = true := by
  have hk : k < s.data.toList.length := by simpa using h
  exact all_take (x := s[k]'h) (by rw [List.getElem?_eq_getElem hk]; simp [ByteArray.getElem_eq_getElem_data]) h0 hp
theorem all_bytes_no {s : ByteArray} {k : Nat} (h : k < s.size) (hp : alnum (s[k]'h) = false) : allAl s = false := by
  unfold allAl
  have hk : k < s.data.toList.length := by simpa using h
  exact all_no (k := k) (x := s[k]'h) (by rw [List.getElem?_eq_getElem hk]; simp [ByteArray.getElem_eq_getElem_data]) hp

set_option maxHeartbeats 1600000 in
theorem Named_c (s : ByteArray) (w : World) :
    Calls Tryz.prog 58 #[.string s] w fun e w' => e = .returned (.bool (nameB s)) ∧ w = w' := by
  unfold nameB
  by_cases h1 : s.size < 1
  · have h12 : decide (1 ≤ s.size ∧ s.size ≤ 20) = false := by simp; omega
    rw [h12]
    go_enter Tryz.func58, Tryz.ntmps58
    go_wp2
    go_ret
    exact ⟨rfl, rfl⟩
  · by_cases h2 : 20 < s.size
    · have h12 : decide (1 ≤ s.size ∧ s.size ≤ 20) = false := by simp; omega
      rw [h12]
      go_enter Tryz.func58, Tryz.ntmps58
      go_wp2
      go_ret
      exact ⟨rfl, rfl⟩
    · have h12 : decide (1 ≤ s.size ∧ s.size ≤ 20) = true := by simp; omega
      rw [h12, Bool.true_and]
      go_enter Tryz.func58, Tryz.ntmps58
      go_wp2
      go_loop [3] (fun i => ∃ k : Nat, k ≤ s.size ∧ i = .int .i64 k ∧ (s.data.toList.take k).all alnum = true) (fun i => s.size - (intOf i).toNat)
      case atStart => exact ⟨0, by omega, rfl, by simp⟩
      case round =>
        obtain ⟨k, hk, rfl, ha⟩ := hrel
        have HA := Lib.hid ha
        clear ha
        by_cases hlt : k < s.size
        · by_cases c1 : (97 : Int) ≤ ((s[k]'hlt).toNat : Int)
          · by_cases c2 : ((s[k]'hlt).toNat : Int) ≤ 122
            · have hg : alnum (s[k]'hlt) = true := by unfold alnum; simp; omega
              have HG := Lib.hid hg
              clear hg
              go_wp2
              go_round
              case rel => exact ⟨k + 1, by omega, by go_num, all_bytes_take hlt HA.out HG.out⟩
              case measure => simp [intOf]; omega
            · have hg : alnum (s[k]'hlt) = false := by unfold alnum; simp; omega
              have HG := Lib.hid (all_bytes_no hlt hg)
              have c3 : (48 : Int) ≤ ((s[k]'hlt).toNat : Int) := by omega
              have c4 : ¬ ((s[k]'hlt).toNat : Int) ≤ 57 := by omega
              clear hg
              go_wp2
              go_ret
              exact ⟨ret_bool HG.out.symm, rfl⟩
          · by_cases c3 : (48 : Int) ≤ ((s[k]'hlt).toNat : Int)
            · by_cases c4 : ((s[k]'hlt).toNat : Int) ≤ 57
              · have hg : alnum (s[k]'hlt) = true := by unfold alnum; simp; omega
                have HG := Lib.hid hg
                clear hg
                go_wp2
                go_round
                case rel => exact ⟨k + 1, by omega, by go_num, all_bytes_take hlt HA.out HG.out⟩
                case measure => simp [intOf]; omega
              · have hg : alnum (s[k]'hlt) = false := by unfold alnum; simp; omega
                have HG := Lib.hid (all_bytes_no hlt hg)
                clear hg
                go_wp2
                go_ret
                exact ⟨ret_bool HG.out.symm, rfl⟩
            · have hg : alnum (s[k]'hlt) = false := by unfold alnum; simp; omega
              have HG := Lib.hid (all_bytes_no hlt hg)
              clear hg
              go_wp2
              go_ret
              exact ⟨ret_bool HG.out.symm, rfl⟩
        · have HG := Lib.hid (show allAl s = true from all_end (l := s.data.toList) HA.out (by simp; omega))
          go_wp2
          go_ret
          exact ⟨ret_bool HG.out.symm, rfl⟩
end Go.Proofs.YtcbjecpfijogcaaGreat
