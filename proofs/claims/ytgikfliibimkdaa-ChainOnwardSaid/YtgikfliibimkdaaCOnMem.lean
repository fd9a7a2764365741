/- For the walk of ChainOnward: slices cut short, memory in which one block alone is written, and what following answers there. -/
import Derived.Test.YtgikfliibimkdaaCOnMath
import Derived.Test.YtgikfliibimkdaaCRLeads
import Derived.Test.YtgikfliibimkdaaCFolI
namespace Go.Proofs.Ytgikfliibimkdaa
open Go.RowKit Go.Shelf

theorem Pts.take {w : World} {A : Option Addr} {c k : Nat} {l : List Pt} (h : Pts w (.slice A l.length c) l) (hk : k ≤ l.length) : Pts w (.slice A k c) (l.take k) := by
  have hlen : (l.take k).length = k := by rw [List.length_take]; omega
  rcases h with ⟨_, _, _, h2⟩ | ⟨b, off, cap, h1, h2, h3, hc⟩
  · subst h2
    have hk0 : k = 0 := by simpa using hk
    subst hk0
    exact .inl ⟨A, c, rfl, rfl⟩
  · simp only [Value.slice.injEq] at h1
    obtain ⟨rfl, _, rfl⟩ := h1
    refine .inr ⟨b, off, c, by rw [hlen], by omega, by omega, fun i hi => ?_⟩
    have hi2 : i < l.length := by omega
    have e : (l.take k).getD i (0, 0) = l.getD i (0, 0) := by
      simp only [List.getD_eq_getElem?_getD]
      rw [List.getElem?_take_of_lt (by omega)]
    rw [e]
    exact hc i hi2
theorem Sl.take {α : Type} {n : Nat} {R : World → List Value → α → Prop} {w : World} {A : Option Addr} {c k : Nat} {l : List α} (h : Sl n R w (.slice A l.length c) l) (hk : k ≤ l.length) : Sl n R w (.slice A k c) (l.take k) := by
  obtain ⟨A', cap', hv, hl, hc, hx⟩ := h
  simp only [Value.slice.injEq] at hv
  obtain ⟨rfl, _, rfl⟩ := hv
  have hlen : (l.take k).length = k := by rw [List.length_take]; omega
  refine ⟨A, c, by rw [hlen], by omega, by omega, fun i x hi => ?_⟩
  have hik : i < k := by have := lt_of_some hi; omega
  rw [List.getElem?_take_of_lt hik] at hi
  exact hx i x hi

/-! ### one block alone is written -/
section
variable {w w' w'' : World} {T : Nat}
theorem grown_refl (w : World) (T : Nat) : w.grownBy w (some T) := ⟨rfl, rfl, rfl, Nat.le_refl _, fun _ _ _ => rfl⟩
theorem grown_ext (h : w.grownBy w' (some T)) (he : Ext w' w'') : w.grownBy w'' (some T) :=
  ⟨he.os.trans h.os, he.tape.trans h.tape, he.output.trans h.output, Nat.le_trans h.size he.sz, fun k hk hne => (he.block k (Nat.lt_of_lt_of_le hk h.size)).trans (h.block k hk hne)⟩
theorem grown_set {o : Nat} {u : Value} (h : w.grownBy w' (some T)) : w.grownBy (w'.setCell ⟨T, o, none⟩ u) (some T) :=
  ⟨h.os, h.tape, h.output, by rw [size_setCell]; exact h.size, fun k hk hne => (heap_ne (fun e => hne (by rw [e]))).trans (h.block k hk hne)⟩
theorem grown_blk (h : w.grownBy w' (some T)) {b : Nat} {o : Obj} (hb : b ≠ T) (hc : w.heap[b]? = some o) : w'.heap[b]? = some o := (h.block b (fst_lt hc) (fun e => hb (Option.some.inj e))).trans hc
theorem grown_cell (h : w.grownBy w' (some T)) {b o : Nat} {v : Value} (hb : b ≠ T) (hc : w.cell? ⟨b, o, none⟩ = some v) : w'.cell? ⟨b, o, none⟩ = some v := by
  have hbl : w'.heap[b]? = w.heap[b]? := h.block b (lt_of_cell hc) (fun e => hb (Option.some.inj e))
  rw [World.cell?_of_block (w := w) hbl]; exact hc
theorem grown_pts (h : w.grownBy w' (some T)) {v : Value} {l : List Pt} (hp : Pts w v l) (hf : ∀ g, v.ownBlock = some g → g ≠ T) : Pts w' v l := by
  rcases hp with hp | ⟨b, off, cap, rfl, h1, h2, hc⟩
  · exact .inl hp
  · have hb : b ≠ T := hf b rfl
    exact .inr ⟨b, off, cap, rfl, h1, h2, fun i hi => ⟨grown_cell h hb (hc i hi).1, grown_cell h hb (hc i hi).2⟩⟩
theorem ext_grown {w0 : World} (he : Ext w0 w) (h : w.grownBy w' (some T)) (hT : w0.heap.size ≤ T) : Ext w0 w' := Ext.grown he h (fun k hk => by cases hk; exact hT)
end

/-! ### what following answers there -/
section
variable {v : CVeh} {old : CPos} {guide : List Pt} {step : Int}
theorem on_steps {n : Int} (h0 : 0 ≤ n) (hd1 : 1 ≤ step) (hq : n.tdiv step ≤ 60) : 1 ≤ stepsI n 0 step ∧ stepsI n 0 step ≤ 62 ∧ n ≤ (stepsI n 0 step - 1) * step := by
  rw [Int.tdiv_eq_ediv_of_nonneg h0] at hq
  have h1 := stepsI_bd (n := n) (s := 0) hd1 h0
  unfold stepsI at h1 ⊢
  have h2 : n < (n / step + 1) * step := Int.lt_ediv_add_one_mul_self n (by omega)
  have h3 : (n / step + 1) * step ≤ 61 * step := Int.mul_le_mul_of_nonneg_right (by omega) (by omega)
  have h4 : (n - 0 + step - 1) / step < 62 := Int.ediv_lt_of_lt_mul (by omega) (by omega)
  have h5 : n - 0 + step - 1 < ((n - 0 + step - 1) / step + 1) * step := Int.lt_ediv_add_one_mul_self _ (by omega)
  rw [Int.add_mul] at h5
  refine ⟨h1, by omega, ?_⟩
  rw [show (n - 0 + step - 1) / step + 1 - 1 = (n - 0 + step - 1) / step by omega]
  omega
theorem on_follow (h : poseE v old.1 old.2 = 0) (h2 : (lenS guide).2 = 0) (hd1 : 1 ≤ step) (hd2 : step ≤ 65536) (hq : (lenS guide).1.tdiv step ≤ 60) :
    followS v old guide 0 step [] = folR (folK v old (leadF guide 0 step (lenS guide).1) (zerosF v) (stepsI (lenS guide).1 0 step).toNat) := by
  obtain ⟨he, hz, hl⟩ := lenS_0 h2
  have hnb := longS_le he hz
  rw [← hl] at hnb
  have hs := on_steps hnb.1 hd1 hq
  have e : steerF v.units.length [] = zerosF v := by
    funext k
    unfold steerF zerosF
    rw [if_pos rfl]
  rw [followS_go h h2 (inB_iff.2 ⟨hd1, by omega⟩) (inB_iff.2 ⟨by omega, hnb.1⟩) (by omega) (fun hx => hx.1 rfl), e]
theorem on_leads (h2 : (lenS guide).2 = 0) (hd1 : 1 ≤ step) (i : Nat) : okPt (leadF guide 0 step (lenS guide).1 i) = true := by
  obtain ⟨he, hz, hl⟩ := lenS_0 h2
  obtain ⟨hm, ha⟩ := errPts_0 he
  have hnb := longS_le he hz
  rw [← hl] at hnb
  have : 0 ≤ (i : Int) * step := Int.mul_nonneg (by omega) (by omega)
  exact atS_ok ha hz (by omega)
/-- all that the law asks of following, at once -/
theorem on_all {k : Nat} {rows : List CPos} {fe : Int} (h : poseE v old.1 old.2 = 0) (h2 : (lenS guide).2 = 0) (hd1 : 1 ≤ step) (hd2 : step ≤ 65536) (hq : (lenS guide).1.tdiv step ≤ 60) (k1 : 1 ≤ k) (k2 : k ≤ v.units.length) (hf : followS v old guide 0 step [] = (rows, fe)) :
    (fe = 4 ∨ fe = 9) ∨ (fe = 0 ∧ followS (shortV v k) (old.1, old.2.take k) guide 0 step [] = (rows.map (fun q => (q.1, q.2.take k)), 0) ∧ 1 ≤ rows.length ∧ rows.length ≤ 62 ∧
      (∀ i, i < rows.length → ∃ p q, folK v old (leadF guide 0 step (lenS guide).1) (zerosF v) i = .inl (p, rows.take i) ∧ rows[i]? = some q ∧ stepS v p.1 p.2 (leadF guide 0 step (lenS guide).1 i) (zerosF v i) = (q.1, q.2, 0) ∧ folK v old (leadF guide 0 step (lenS guide).1) (zerosF v) (i + 1) = .inl (q, rows.take (i + 1))) ∧
      ∃ q, rows[rows.length - 1]? = some q ∧ q.1 = guide.getD (guide.length - 1) (0, 0)) := by
  obtain ⟨he, hz, hl⟩ := lenS_0 h2
  have hnb := longS_le he hz
  rw [← hl] at hnb
  have hs := on_steps hnb.1 hd1 hq
  rw [on_follow h h2 hd1 hd2 hq] at hf
  cases hk : folK v old (leadF guide 0 step (lenS guide).1) (zerosF v) (stepsI (lenS guide).1 0 step).toNat with
  | inr e =>
    rw [hk] at hf
    simp only [folR, Prod.mk.injEq] at hf
    rw [← hf.2]
    exact .inl (fol_err _ h (on_leads h2 hd1) hk)
  | inl s =>
    have hf' := hf
    rw [hk] at hf'
    simp only [folR, Prod.mk.injEq] at hf'
    obtain ⟨rfl, rfl⟩ := hf'
    have hlen := folK_len hk
    refine .inr ⟨rfl, ?_, by omega, by omega, fun i hi => fol_prefix _ hk i (by omega), ?_⟩
    · have hp := short_pose (k := k) h k1 k2
      rw [on_follow (v := shortV v k) (old := (old.1, old.2.take k)) hp h2 hd1 hd2 hq, fol_short k1 k2 _ h hk]
      rfl
    · obtain ⟨p, q, _, hq1, hq2, _⟩ := fol_prefix _ hk (s.2.length - 1) (by omega)
      refine ⟨q, hq1, ?_⟩
      obtain ⟨h5, _⟩ := stepS_ok hq2
      rw [h5, leadF_end (by
        have e : ((s.2.length - 1 : Nat) : Int) = stepsI (lenS guide).1 0 step - 1 := by omega
        rw [e]; omega), hl, atS_last]
theorem on_lens {i : Nat} {p q : CPos} {f : Nat → Pt} (hq : stepS v p.1 p.2 (f i) (zerosF v i) = (q.1, q.2, 0)) : q.2.length = v.units.length ∧ poseE v q.1 q.2 = 0 := by
  obtain ⟨h1, _, _, h2⟩ := stepS_ok hq
  rw [← h1] at h2
  exact ⟨(puts_len h2).2.2, h2⟩
end
end Go.Proofs.Ytgikfliibimkdaa
