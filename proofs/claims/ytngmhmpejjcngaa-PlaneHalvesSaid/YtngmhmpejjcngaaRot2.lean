/- Contracts on turns: the divisor of some numbers, Both, Rotate (both texts). -/
import Derived.Test.YtngmhmpejjcngaaRot
import Derived.Deep.DeepCutAuto
namespace Go.Proofs.Ytngmhmpejjcngaa
open Go.RowKit

theorem Ext.frz {w w' : World} (h : Ext w w') {p : Addr} (hp : p.block < w.heap.size) (hf : w.frozen? p = false) : w'.frozen? p = false := (Below.frozen h hp).trans hf

def gcdL (l : List Int) : Int := l.foldl (fun g x => gcdI g (max x (-x))) 0
theorem gcdL_snoc (l : List Int) (x : Int) : gcdL (l ++ [x]) = gcdI (gcdL l) (max x (-x)) := by simp [gcdL]
theorem gcdL_take {l : List Int} {k : Nat} (h : k < l.length) : gcdL (l.take (k + 1)) = gcdI (gcdL (l.take k)) (max (l.getD k 0) (-(l.getD k 0))) := by
  rw [List.take_succ_eq_append_getElem h, gcdL_snoc, getD_lt h]
theorem gcdI_zero_left (a : Int) (h : 0 ≤ a) : gcdI 0 a = a := by simp only [gcdI, Int.natAbs_zero, Nat.gcd_zero_left]; omega
theorem gcdI_le (a b B : Int) (ha : 0 ≤ a) (hb : 0 ≤ b) (h1 : a ≤ B) (h2 : b ≤ B) : gcdI a b ≤ B := by
  by_cases h0 : b = 0
  · subst h0; rw [gcdI_zero a ha]; exact h1
  · have := Nat.le_of_dvd (by omega) (Nat.gcd_dvd_right a.natAbs b.natAbs)
    unfold gcdI; omega
theorem gcdL_bd (l : List Int) (B : Int) (hB : 0 ≤ B) (h : ∀ x ∈ l, -B ≤ x ∧ x ≤ B) : 0 ≤ gcdL l ∧ gcdL l ≤ B := by
  have : ∀ (l : List Int) (g : Int), 0 ≤ g → g ≤ B → (∀ x ∈ l, -B ≤ x ∧ x ≤ B) → 0 ≤ l.foldl (fun g x => gcdI g (max x (-x))) g ∧ l.foldl (fun g x => gcdI g (max x (-x))) g ≤ B := by
    intro l
    induction l with
    | nil => intro g h1 h2 _; exact ⟨h1, h2⟩
    | cons x l ih =>
      intro g h1 h2 h3
      have hx := h3 x (by simp)
      exact ih _ (gcdI_nonneg _ _) (gcdI_le _ _ _ h1 (by omega) h2 (by omega)) (fun y hy => h3 y (by simp [hy]))
  exact this l 0 (by omega) hB h

set_option maxHeartbeats 800000 in
theorem divisor_c (b cap : Nat) (l : List Int) (w : World) (hl : l.length ≤ 1000) (hc : ∀ i, i < l.length → w.cell? ⟨b, i, none⟩ = some (.int .i64 (l.getD i 0))) (hb : ∀ x ∈ l, -4000000000000000000 ≤ x ∧ x ≤ 4000000000000000000) :
    Calls Try.prog 74 #[.slice (some ⟨b, 0, none⟩) l.length cap] w fun e w' => e = .returned (.int .i64 (gcdL l)) ∧ Ext w w' := by
  have HC := Lib.hid hc
  have HB := Lib.hid hb
  clear hc hb
  go_enter Try.func74, Try.ntmps74
  go_wp2
  go_loopw [3, 9] (fun g i wr => ∃ k : Nat, k ≤ l.length ∧ i = .int .i64 k ∧ g = .int .i64 (gcdL (l.take k)) ∧ Ext w wr) (fun _ i _ => l.length - (intOf i).toNat)
  case atStart => exact ⟨0, by omega, rfl, rfl, Ext.refl _⟩
  case round =>
    obtain ⟨k, hk, rfl, rfl, hE⟩ := hrel
    by_cases hlt : k < l.length
    · have c1 := hE.cell (HC.out k hlt)
      have hx := HB.out (l.getD k 0) (by rw [getD_lt hlt]; exact List.getElem_mem hlt)
      have hG := Lib.hid (gcdL_take hlt)
      obtain ⟨g1, g2⟩ := gcdL_bd (l.take k) 4000000000000000000 (by omega) (fun y hy => HB.out y (List.mem_of_mem_take hy))
      generalize l.getD k 0 = x at c1 hx hG
      generalize gcdL (l.take k) = g at g1 g2 hG ⊢
      obtain ⟨hx1, hx2⟩ := hx
      go_wp2
      obtain ⟨wo, rfl⟩ : ∃ wo : World, wo = wr := ⟨_, rfl⟩
      go_loopw [3, 6] (fun u v wr => ∃ p q : Int, u = .int .i64 p ∧ v = .int .i64 q ∧ 0 ≤ p ∧ p ≤ 4000000000000000000 ∧ 0 ≤ q ∧ q ≤ 4000000000000000000 ∧ gcdI p q = gcdI g (max x (-x)) ∧ Ext wo wr) (fun _ v _ => (intOf v).toNat)
      case atStart => exact ⟨_, _, rfl, rfl, by omega, by omega, by omega, by omega, rfl, Ext.refl _⟩
      case round =>
        obtain ⟨p, q, rfl, rfl, p1, p2, q1, q2, hg, hE2⟩ := hrel
        have HG := Lib.hid hg
        clear hg
        by_cases h0 : q = 0
        · subst h0
          go_wp2
          go_roundw
          case rel => exact ⟨k + 1, by omega, by go_num, by rw [hG.out, ← HG.out, gcdI_zero p p1], hE.trans hE2⟩
          case measure => simp [intOf]; omega
        · have h1 := Int.emod_nonneg p h0
          have h2 := Int.emod_lt_of_pos p (show 0 < q by omega)
          have h3 : (q == 0) = false := by simpa using h0
          have h4 : (q != 0) = true := by simpa using h0
          have hs := Lib.hid (gcdI_step p q p1 (by omega))
          go_wp2
          go_quiet (fail)
          go_wp2
          go_roundw
          case rel => exact ⟨q, p % q, rfl, rfl, by omega, by omega, by omega, by omega, by rw [hs.out]; exact HG.out, hE2.drewN _⟩
          case measure => simp [intOf]; omega
    · go_wp2
      go_ret
      exact ⟨ret_int (by rw [List.take_of_length_le (by omega)]), hE⟩
end Go.Proofs.Ytngmhmpejjcngaa
