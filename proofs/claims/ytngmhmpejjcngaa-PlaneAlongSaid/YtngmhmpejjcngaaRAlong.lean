/- Contracts: 'Along'. -/
import Derived.Test.YtngmhmpejjcngaaAlong
namespace Go.Proofs.Ytngmhmpejjcngaa
open Go.RowKit

theorem alongS_bad {l : List (Int × Int)} {s : Int} (h : ¬ (lenS l).2 = 0) : alongS l s = (((0, 0), 0), (lenS l).2) := by simp [alongS, h]
theorem alongS_out {l : List (Int × Int)} {s : Int} (h : (lenS l).2 = 0) (k : inB s 0 (lenS l).1 = false) : alongS l s = (((0, 0), 0), 3) := by simp [alongS, h, k]
theorem alongS_in {l : List (Int × Int)} {s : Int} (h : (lenS l).2 = 0) (k : inB s 0 (lenS l).1 = true) : alongS l s = (atS l s, 0) := by simp [alongS, h, k]
theorem lenS_0 {l : List (Int × Int)} (h : (lenS l).2 = 0) : errPts l = 0 ∧ ¬ l.length = 0 ∧ (lenS l).1 = longS l := by
  by_cases he : errPts l = 0
  · by_cases hz : l.length = 0
    · rw [lenS_none he hz] at h; cases h
    · rw [lenS_ok he hz]; exact ⟨he, hz, rfl⟩
  · rw [lenS_bad he] at h; exact absurd h he
theorem longS_le {l : List (Int × Int)} (h : errPts l = 0) (hz : ¬ l.length = 0) : 0 ≤ longS l ∧ longS l ≤ 17179869184 := by
  obtain ⟨hm, ha⟩ := errPts_0 h
  have := longN_bd ha (l.length - 1) (by omega)
  unfold longS
  omega

set_option maxRecDepth 100000 in
set_option maxHeartbeats 1600000 in
theorem RAlong_c (v : Value) (l : List (Int × Int)) (s : Int) (w : World) (hp : Pts w v l) :
    Calls Try.prog 44 #[v, .int .i64 s] w fun e w' => e = .returned (ptieV (alongS l s)) ∧ Ext w w' := by
  have P1 := fun w' (h : Ext w w') => RLength_c v l w' (hp.ext h)
  obtain ⟨a, cap, hv, hl⟩ := hp.shape
  by_cases he : (lenS l).2 = 0
  · cases hi : inB s 0 (lenS l).1
    · rw [alongS_out he hi]
      unfold i2V at P1
      rw [he] at P1
      unfold ptieV
      simp only
      generalize (lenS l).1 = n at *
      have H1 := Lib.hid P1
      have HI := Lib.hid hi
      subst hv
      clear P1 hp he hi
      go_enter Try.func44, Try.ntmps44
      go_wp2_with fail
      refine (H1.out _ (by (repeat' (first | exact Ext.refl _ | assumption | refine Ext.alloc ?_ _ | refine Ext.drew ?_ | refine Ext.drewN ?_ _ | refine Ext.set ?_ (by first | exact Nat.le_refl _ | exact le1 _ | exact le2 _ | exact le3 _ | exact le4 _ | exact le5 _ | exact le6 _) _ | refine Ext.trans ?_ (by assumption))))).mono ?_
      rintro e w1 ⟨rfl, hb1⟩
      have d0 := Ext.cell hb1 (p := ⟨w.heap.size, 0, none⟩) (v := .int .i64 0) (by go_simp)
      have d1 := Ext.cell hb1 (p := ⟨w.heap.size, 1, none⟩) (v := .int .i64 0) (by go_simp)
      have d2 := Ext.frz' hb1 (p := ⟨w.heap.size, 0, none⟩) (by simp) (by go_simp)
      have d3 := Ext.frz' hb1 (p := ⟨w.heap.size, 1, none⟩) (by simp) (by go_simp)
      go_wp2_with (go_at_call 70; refine (In_c _ _ _ _).mono ?_; rintro e w' ⟨he, rfl⟩; rw [HI.out] at he; subst he)
      exact bodyPost_ret (v := .tuple #[.agg #[.int .i64 0, .int .i64 0], .int .i64 0, .int .i64 3]) (by simp [results, Try.results44, go_sem, d0, d1]) rfl ⟨rfl, by (repeat' (first | exact Ext.refl _ | assumption | refine Ext.alloc ?_ _ | refine Ext.drew ?_ | refine Ext.drewN ?_ _ | refine Ext.set ?_ (by first | exact Nat.le_refl _ | exact le1 _ | exact le2 _ | exact le3 _ | exact le4 _ | exact le5 _ | exact le6 _) _ | refine Ext.trans ?_ (by assumption)))⟩
    · rw [alongS_in he hi]
      obtain ⟨hep, hz, hn⟩ := lenS_0 he
      obtain ⟨hm, ha⟩ := errPts_0 hep
      have hle := longS_le hep hz
      rw [hn] at hi
      have hs := inB_iff.1 hi
      unfold i2V at P1
      rw [he, hn] at P1
      have P2 := fun w' (h : Ext w w') => At_c v l s w' (hp.ext h) hm hz ha hs.1 (by omega)
      unfold ptieV
      unfold ptiV at P2
      simp only
      generalize longS l = n at *
      generalize atS l s = T at *
      obtain ⟨⟨t1, t2⟩, t3⟩ := T
      simp only at P2 ⊢
      have H1 := Lib.hid P1
      have H2 := Lib.hid P2
      have HI := Lib.hid hi
      subst hv
      clear P1 P2 hp he hi hn hz hep ha hs hle
      go_enter Try.func44, Try.ntmps44
      go_wp2_with fail
      refine (H1.out _ (by (repeat' (first | exact Ext.refl _ | assumption | refine Ext.alloc ?_ _ | refine Ext.drew ?_ | refine Ext.drewN ?_ _ | refine Ext.set ?_ (by first | exact Nat.le_refl _ | exact le1 _ | exact le2 _ | exact le3 _ | exact le4 _ | exact le5 _ | exact le6 _) _ | refine Ext.trans ?_ (by assumption))))).mono ?_
      rintro e w1 ⟨rfl, hb1⟩
      have d0 := Ext.cell hb1 (p := ⟨w.heap.size, 0, none⟩) (v := .int .i64 0) (by go_simp)
      have d1 := Ext.cell hb1 (p := ⟨w.heap.size, 1, none⟩) (v := .int .i64 0) (by go_simp)
      have d2 := Ext.frz' hb1 (p := ⟨w.heap.size, 0, none⟩) (by simp) (by go_simp)
      have d3 := Ext.frz' hb1 (p := ⟨w.heap.size, 1, none⟩) (by simp) (by go_simp)
      go_wp2_with (go_at_call 70; refine (In_c _ _ _ _).mono ?_; rintro e w' ⟨he, rfl⟩; rw [HI.out] at he; subst he)
      refine (H2.out _ (by (repeat' (first | exact Ext.refl _ | assumption | refine Ext.alloc ?_ _ | refine Ext.drew ?_ | refine Ext.drewN ?_ _ | refine Ext.set ?_ (by first | exact Nat.le_refl _ | exact le1 _ | exact le2 _ | exact le3 _ | exact le4 _ | exact le5 _ | exact le6 _) _ | refine Ext.trans ?_ (by assumption))))).mono ?_
      rintro e w2 ⟨rfl, hb2⟩
      have hlt := World.block_lt_of_cell? w1 _ d0
      simp only at hlt
      have k0 := Ext.cell hb2 (p := ⟨w.heap.size, 0, none⟩) (v := .int .i64 0) (by go_simp)
      have k1 := Ext.cell hb2 (p := ⟨w.heap.size, 1, none⟩) (v := .int .i64 0) (by go_simp)
      have k2 := Ext.frz' hb2 (p := ⟨w.heap.size, 0, none⟩) (by simpa using hlt) (by go_simp)
      have k3 := Ext.frz' hb2 (p := ⟨w.heap.size, 1, none⟩) (by simpa using hlt) (by go_simp)
      have hE : Ext w w2 := by (repeat' (first | exact Ext.refl _ | assumption | refine Ext.alloc ?_ _ | refine Ext.drew ?_ | refine Ext.drewN ?_ _ | refine Ext.set ?_ (by first | exact Nat.le_refl _ | exact le1 _ | exact le2 _ | exact le3 _ | exact le4 _ | exact le5 _ | exact le6 _) _ | refine Ext.trans ?_ (by assumption)))
      clear hb1 hb2 d0 d1 d2 d3
      have hlt2 := World.block_lt_of_cell? w2 _ k0
      simp only at hlt2
      go_wp2_with fail
      exact bodyPost_ret (v := .tuple #[.agg #[.int .i64 t1, .int .i64 t2], .int .i64 t3, .int .i64 0]) (by simp [results, Try.results44, go_sem, k0, k1, hlt2]) rfl ⟨rfl, by (repeat' (first | exact Ext.refl _ | assumption | refine Ext.alloc ?_ _ | refine Ext.drew ?_ | refine Ext.drewN ?_ _ | refine Ext.set ?_ (by first | exact Nat.le_refl _ | exact le1 _ | exact le2 _ | exact le3 _ | exact le4 _ | exact le5 _ | exact le6 _) _ | refine Ext.trans ?_ (by assumption)))⟩
  · rw [alongS_bad he]
    unfold i2V at P1
    unfold ptieV
    simp only
    generalize (lenS l).1 = n at *
    generalize (lenS l).2 = E at *
    have H1 := Lib.hid P1
    subst hv
    clear P1 hp
    go_enter Try.func44, Try.ntmps44
    go_wp2_with fail
    refine (H1.out _ (by (repeat' (first | exact Ext.refl _ | assumption | refine Ext.alloc ?_ _ | refine Ext.drew ?_ | refine Ext.drewN ?_ _ | refine Ext.set ?_ (by first | exact Nat.le_refl _ | exact le1 _ | exact le2 _ | exact le3 _ | exact le4 _ | exact le5 _ | exact le6 _) _ | refine Ext.trans ?_ (by assumption))))).mono ?_
    rintro e w1 ⟨rfl, hb1⟩
    have d0 := Ext.cell hb1 (p := ⟨w.heap.size, 0, none⟩) (v := .int .i64 0) (by go_simp)
    have d1 := Ext.cell hb1 (p := ⟨w.heap.size, 1, none⟩) (v := .int .i64 0) (by go_simp)
    have d2 := Ext.frz' hb1 (p := ⟨w.heap.size, 0, none⟩) (by simp) (by go_simp)
    have d3 := Ext.frz' hb1 (p := ⟨w.heap.size, 1, none⟩) (by simp) (by go_simp)
    go_wp2_with fail
    exact bodyPost_ret (v := .tuple #[.agg #[.int .i64 0, .int .i64 0], .int .i64 0, .int .i64 E]) (by simp [results, Try.results44, go_sem, d0, d1]) rfl ⟨rfl, by (repeat' (first | exact Ext.refl _ | assumption | refine Ext.alloc ?_ _ | refine Ext.drew ?_ | refine Ext.drewN ?_ _ | refine Ext.set ?_ (by first | exact Nat.le_refl _ | exact le1 _ | exact le2 _ | exact le3 _ | exact le4 _ | exact le5 _ | exact le6 _) _ | refine Ext.trans ?_ (by assumption)))⟩

set_option maxRecDepth 100000 in
set_option maxHeartbeats 3200000 in
theorem Along_c (v : Value) (l : List (Int × Int)) (s : Int) (w : World) (hp : Pts w v l) :
    Calls Try.prog 43 #[v, .int .i64 s] w fun e w' => e = .returned (ptieV (alongS l s)) ∧ Ext w w' := by
  have P1 := fun w' (h : Ext w w') => Length_c v l w' (hp.ext h)
  obtain ⟨a, cap, hv, hl⟩ := hp.shape
  by_cases he : (lenS l).2 = 0
  · cases hi : inB s 0 (lenS l).1
    · rw [alongS_out he hi]
      unfold i2V at P1
      rw [he] at P1
      unfold ptieV
      simp only
      generalize (lenS l).1 = n at *
      have H1 := Lib.hid P1
      have HI := Lib.hid hi
      subst hv
      clear P1 hp he hi
      go_enter Try.func43, Try.ntmps43
      go_wp2_with fail
      refine (H1.out _ (by (repeat' (first | exact Ext.refl _ | assumption | refine Ext.alloc ?_ _ | refine Ext.drew ?_ | refine Ext.drewN ?_ _ | refine Ext.set ?_ (by first | exact Nat.le_refl _ | exact le1 _ | exact le2 _ | exact le3 _ | exact le4 _ | exact le5 _ | exact le6 _) _ | refine Ext.trans ?_ (by assumption))))).mono ?_
      rintro e w1 ⟨rfl, hb1⟩
      have d0 := Ext.cell hb1 (p := ⟨w.heap.size, 0, none⟩) (v := .int .i64 0) (by go_simp)
      have d1 := Ext.cell hb1 (p := ⟨w.heap.size, 1, none⟩) (v := .int .i64 0) (by go_simp)
      have d2 := Ext.frz' hb1 (p := ⟨w.heap.size, 0, none⟩) (by simp) (by go_simp)
      have d3 := Ext.frz' hb1 (p := ⟨w.heap.size, 1, none⟩) (by simp) (by go_simp)
      go_wp2_with (go_at_call 67; refine (within_c _ _ _ _).mono ?_; rintro e w' ⟨he, rfl⟩; rw [HI.out] at he; subst he)
      exact bodyPost_ret (v := .tuple #[.agg #[.int .i64 0, .int .i64 0], .int .i64 0, .int .i64 3]) (by simp [results, Try.results43, go_sem, d0, d1]) rfl ⟨rfl, by (repeat' (first | exact Ext.refl _ | assumption | refine Ext.alloc ?_ _ | refine Ext.drew ?_ | refine Ext.drewN ?_ _ | refine Ext.set ?_ (by first | exact Nat.le_refl _ | exact le1 _ | exact le2 _ | exact le3 _ | exact le4 _ | exact le5 _ | exact le6 _) _ | refine Ext.trans ?_ (by assumption)))⟩
    · rw [alongS_in he hi]
      obtain ⟨hep, hz, hn⟩ := lenS_0 he
      obtain ⟨hm, ha⟩ := errPts_0 hep
      have hle := longS_le hep hz
      rw [hn] at hi
      have hs := inB_iff.1 hi
      unfold i2V at P1
      rw [he, hn] at P1
      unfold ptieV
      simp only
      have hs2 : s ≤ 17179869184 := by omega
      unfold atS
      generalize longS l = n at *
      generalize hT : atN l (l.length - 1) 0 s = T at *
      obtain ⟨⟨t1, t2⟩, t3⟩ := T
      have HT := Lib.hid hT
      simp only
      have H1 := Lib.hid P1
      have HI := Lib.hid hi
      rcases hp with ⟨a0, c0, rfl, rfl⟩ | ⟨b, off, cap, rfl, hl, hcap, hc⟩
      · exact absurd rfl hz
      have HC : RowKit.Hid (PtCells w b off l) := hc
      have HA := Lib.hid ha
      have h00 := Lib.hid (hc 0 (by omega))
      have hz1 : (1 : Int) ≤ (l.length : Int) := by omega
      have hz2 : (l.length : Int) ≤ (cap : Int) := by omega
      have hz3 : (l.length : Int) ≤ 256 := by omega
      have hs1 := hs.1
      cases hv
      clear P1 he hi hn hep ha hle hc hT hs
      by_cases hc1 : cap = 1
      · have hl1 : l.length = 1 := by omega
        obtain ⟨p, rfl⟩ := List.length_eq_one_iff.1 hl1
        subst hc1
        clear hl1 hm hz hz1 hz2 hz3 HC HA hl hcap
        simp only [List.length_cons, List.length_nil, Nat.zero_add, atN, Nat.sub_self, List.getD_cons_zero, Nat.zero_mul, Nat.add_zero] at H1 HT h00 ⊢
        obtain ⟨⟨rfl, rfl⟩, rfl⟩ : (p.1 = t1 ∧ p.2 = t2) ∧ (0 : Int) = t3 := by
          have h := HT.out
          exact ⟨⟨congrArg (·.1.1) h, congrArg (·.1.2) h⟩, congrArg (·.2) h⟩
        clear HT
        go_enter Try.func43, Try.ntmps43
        go_wp2_with fail
        refine (H1.out _ (by (repeat' (first | exact Ext.refl _ | assumption | refine Ext.alloc ?_ _ | refine Ext.drew ?_ | refine Ext.drewN ?_ _ | refine Ext.set ?_ (by first | exact Nat.le_refl _ | exact le1 _ | exact le2 _ | exact le3 _ | exact le4 _ | exact le5 _ | exact le6 _) _ | refine Ext.trans ?_ (by assumption))))).mono ?_
        rintro e w1 ⟨rfl, hb1⟩
        have d0 := Ext.cell hb1 (p := ⟨w.heap.size, 0, none⟩) (v := .int .i64 0) (by go_simp)
        have d1 := Ext.cell hb1 (p := ⟨w.heap.size, 1, none⟩) (v := .int .i64 0) (by go_simp)
        have d2 := Ext.frz' hb1 (p := ⟨w.heap.size, 0, none⟩) (by simp) (by go_simp)
        have d3 := Ext.frz' hb1 (p := ⟨w.heap.size, 1, none⟩) (by simp) (by go_simp)
        have c1 := Ext.cell ((Ext.refl w).alloc (.cells #[.int .i64 0, .int .i64 0] 23)) h00.out.1
        have c2 := Ext.cell ((Ext.refl w).alloc (.cells #[.int .i64 0, .int .i64 0] 23)) h00.out.2
        replace c1 := Ext.cell hb1 c1
        replace c2 := Ext.cell hb1 c2
        go_wp2_with (go_at_call 67; refine (within_c _ _ _ _).mono ?_; rintro e w' ⟨he, rfl⟩; rw [HI.out] at he; subst he)
        go_loop [30] (fun i => i = .int .i64 0) (fun i => 0)
        case atStart => rfl
        case round =>
          subst hrel
          go_wp2
          exact bodyPost_ret (v := .tuple #[.agg #[.int .i64 p.1, .int .i64 p.2], .int .i64 0, .int .i64 0]) (by simp [results, Try.results43, go_sem, d0, d1]) rfl ⟨rfl, by (repeat' (first | exact Ext.refl _ | assumption | refine Ext.alloc ?_ _ | refine Ext.drew ?_ | refine Ext.drewN ?_ _ | refine Ext.set ?_ (by first | exact Nat.le_refl _ | exact le1 _ | exact le2 _ | exact le3 _ | exact le4 _ | exact le5 _ | exact le6 _) _ | refine Ext.trans ?_ (by assumption)))⟩
      obtain ⟨m, hmm'⟩ : ∃ m, l.length - 1 = m := ⟨_, rfl⟩
      rw [hmm'] at HT
      have hmm := Lib.hid hmm'
      clear hmm'
      go_enter Try.func43, Try.ntmps43
      go_wp2_with fail
      refine (H1.out _ (by (repeat' (first | exact Ext.refl _ | assumption | refine Ext.alloc ?_ _ | refine Ext.drew ?_ | refine Ext.drewN ?_ _ | refine Ext.set ?_ (by first | exact Nat.le_refl _ | exact le1 _ | exact le2 _ | exact le3 _ | exact le4 _ | exact le5 _ | exact le6 _) _ | refine Ext.trans ?_ (by assumption))))).mono ?_
      rintro e w1 ⟨rfl, hb1⟩
      have d0 := Ext.cell hb1 (p := ⟨w.heap.size, 0, none⟩) (v := .int .i64 0) (by go_simp)
      have d1 := Ext.cell hb1 (p := ⟨w.heap.size, 1, none⟩) (v := .int .i64 0) (by go_simp)
      have d2 := Ext.frz' hb1 (p := ⟨w.heap.size, 0, none⟩) (by simp) (by go_simp)
      have d3 := Ext.frz' hb1 (p := ⟨w.heap.size, 1, none⟩) (by simp) (by go_simp)
      go_wp2_with (go_at_call 67; refine (within_c _ _ _ _).mono ?_; rintro e w' ⟨he, rfl⟩; rw [HI.out] at he; subst he)
      have HE : Ext w w1 := by (repeat' (first | exact Ext.refl _ | assumption | refine Ext.alloc ?_ _ | refine Ext.drew ?_ | refine Ext.drewN ?_ _ | refine Ext.set ?_ (by first | exact Nat.le_refl _ | exact le1 _ | exact le2 _ | exact le3 _ | exact le4 _ | exact le5 _ | exact le6 _) _ | refine Ext.trans ?_ (by assumption)))
      have hlt1 := World.block_lt_of_cell? w1 _ d0
      simp only at hlt1
      clear hb1 H1
      rw [hmm.out]
      have hml : RowKit.Hid (l.length = m + 1) := by have := hmm.out; simp only [RowKit.Hid]; omega
      go_loopw [30, 1] (fun i t wr => ∃ (k : Nat) (s' : Int), k ≤ m ∧ i = .int .i64 k ∧ t = .int .i64 s' ∧ 0 ≤ s' ∧ s' ≤ 17179869184 ∧ atN l (m - k) k s' = ((t1, t2), t3) ∧ Ext w wr ∧ w.heap.size < wr.heap.size ∧ wr.cell? ⟨w.heap.size, 0, none⟩ = some (.int .i64 0) ∧ wr.cell? ⟨w.heap.size, 1, none⟩ = some (.int .i64 0) ∧ wr.frozen? ⟨w.heap.size, 0, none⟩ = false ∧ wr.frozen? ⟨w.heap.size, 1, none⟩ = false) (fun i _ _ => m - (intOf i).toNat)
      case atStart => exact ⟨0, s, by omega, rfl, rfl, hs1, hs2, HT.out, HE, hlt1, d0, d1, d2, d3⟩
      case round =>
        obtain ⟨k, s', hk, rfl, rfl, g1, g2, hT', hb, hlt0, r0, r1, r2, r3⟩ := hrel
        by_cases hlt : k < m
        · have hml' := hml.out
          have c1 := Ext.cell hb (HC.out k (by omega)).1
          have c2 := Ext.cell hb (HC.out k (by omega)).2
          have c3 := Ext.cell hb (HC.out (k + 1) (by omega)).1
          have c4 := Ext.cell hb (HC.out (k + 1) (by omega)).2
          rw [show off + (k + 1) * 2 = off + 2 + k * 2 by omega] at c3 c4
          have s2 := farAt_bd HA.out (k := k) (by omega)
          have HF := fun w => far_c (l.getD k (0, 0)).1 (l.getD k (0, 0)).2 (l.getD (k + 1) (0, 0)).1 (l.getD (k + 1) (0, 0)).2 w (okAt HA.out (by omega)) (okAt HA.out (by omega))
          have hf : farS ((l.getD k (0, 0)).1, (l.getD k (0, 0)).2) ((l.getD (k + 1) (0, 0)).1, (l.getD (k + 1) (0, 0)).2) = farAt l k := rfl
          rw [hf] at HF
          clear hf
          rw [show m - k = (m - (k + 1)) + 1 by omega] at hT'
          obtain ⟨a1, a2, a3, a4⟩ := okPt_bd (x := (l.getD k (0, 0)).1) (y := (l.getD k (0, 0)).2) (okAt HA.out (by omega))
          obtain ⟨a5, a6, a7, a8⟩ := okPt_bd (x := (l.getD (k + 1) (0, 0)).1) (y := (l.getD (k + 1) (0, 0)).2) (okAt HA.out (by omega))
          have i1 : (0 : Int) ≤ (k : Int) := by omega
          have i2 : (k : Int) < (l.length : Int) := by omega
          have i3 : (k : Int) < (m : Int) := by omega
          have i5 := IntWalk.i64_in ((k : Int) + 1) (by omega)
          clear hml'
          by_cases hy : 0 < farAt l k ∧ s' ≤ farAt l k
          · rw [atN_yes hy] at hT'
            unfold ptAt at hT'
            simp only [Prod.mk.injEq] at hT'
            obtain ⟨⟨u1, u2⟩, u3⟩ := hT'
            generalize farAt l k = D at *
            generalize l.getD k (0, 0) = P at *
            generalize l.getD (k + 1) (0, 0) = Q at *
            obtain ⟨s5, s6⟩ := s2
            obtain ⟨y1, y2⟩ := hy
            have UU := Lib.hid (And.intro u1 (And.intro u2 u3))
            clear u1 u2 u3
            replace HF := Lib.hid HF
            obtain ⟨m1, m2⟩ := Pl.mul_bd (a := Q.1 - P.1) (b := s') (A := 33554432) (B := 67108864) (by omega) (by omega) (by omega) (by omega)
            obtain ⟨m3, m4⟩ := Pl.mul_bd (a := Q.2 - P.2) (b := s') (A := 33554432) (B := 67108864) (by omega) (by omega) (by omega) (by omega)
            have n1 := Pl.near_bd (n := (Q.1 - P.1) * s') (d := D) (b := 33554432 * 67108864) (by omega) (by omega) m1 m2
            have n2 := Pl.near_bd (n := (Q.2 - P.2) * s') (d := D) (b := 33554432 * 67108864) (by omega) (by omega) m3 m4
            have e1 := IntWalk.i64_in (Q.1 - P.1) (by omega)
            have e2 := IntWalk.i64_in (Q.2 - P.2) (by omega)
            have e3 := IntWalk.i64_in ((Q.1 - P.1) * s') (by omega)
            have e4 := IntWalk.i64_in ((Q.2 - P.2) * s') (by omega)
            have e5 := IntWalk.i64_in (P.1 + Pl.near ((Q.1 - P.1) * s') D) (by omega)
            have e6 := IntWalk.i64_in (P.2 + Pl.near ((Q.2 - P.2) * s') D) (by omega)
            have q1 : -4000000000000000000 ≤ (Q.1 - P.1) * s' := by omega
            have q2 : (Q.1 - P.1) * s' ≤ 4000000000000000000 := by omega
            have q3 : -4000000000000000000 ≤ (Q.2 - P.2) * s' := by omega
            have q4 : (Q.2 - P.2) * s' ≤ 4000000000000000000 := by omega
            have q5 : 1 ≤ D := by omega
            have q6 : D ≤ 4000000000000000000 := by omega
            have QQ := Lib.hid (And.intro q1 (And.intro q2 (And.intro q3 (And.intro q4 (And.intro q5 q6)))))
            clear q1 q2 q3 q4 q5 q6
            have E := Lib.hid (And.intro e1 (And.intro e2 (And.intro e3 (And.intro e4 (And.intro e5 e6)))))
            have hbl := World.block_lt_of_cell? wr _ c1
            simp only at hbl
            have hne : ¬ w.heap.size = wr.heap.size := by omega
            have hne2 : ¬ w.heap.size = wr.heap.size + 1 := by omega
            clear e1 e2 e3 e4 e5 e6 m1 m2 m3 m4 n1 n2 HT HC HA g1 g2 a1 a2 a3 a4 a5 a6 a7 a8 s5 s6
            go_wp2_with (go_at_call 73; refine (HF.out _).mono ?_; rintro e w2 ⟨rfl, hb2⟩
                         have f0n := Ext.cell hb2 (p := ⟨wr.heap.size, 0, none⟩) (v := .int .i64 Q.1) (by go_simp); have f1n := Ext.cell hb2 (p := ⟨wr.heap.size, 1, none⟩) (v := .int .i64 Q.2) (by go_simp); have g0n := Ext.cell hb2 (p := ⟨wr.heap.size + 1, 0, none⟩) (v := .int .i64 P.1) (by go_simp); have g1n := Ext.cell hb2 (p := ⟨wr.heap.size + 1, 1, none⟩) (v := .int .i64 P.2) (by go_simp); have r0n := Ext.cell hb2 (p := ⟨w.heap.size, 0, none⟩) (v := .int .i64 0) (by go_simp); have r1n := Ext.cell hb2 (p := ⟨w.heap.size, 1, none⟩) (v := .int .i64 0) (by go_simp); have lfn := World.block_lt_of_cell? w2 _ f0n; simp only at lfn; have lgn := World.block_lt_of_cell? w2 _ g0n; simp only at lgn; have lrn := World.block_lt_of_cell? w2 _ r0n; simp only at lrn; replace f0 := f0n; clear f0n; replace f1 := f1n; clear f1n; replace lf := lfn; clear lfn; replace g0 := g0n; clear g0n; replace g1 := g1n; clear g1n; replace lg := lgn; clear lgn; replace r0 := r0n; clear r0n; replace r1 := r1n; clear r1n; replace lr := lrn; clear lrn)
            have r2' := Ext.frz' hb2 (p := ⟨w.heap.size, 0, none⟩) (by simp; omega) (by go_simp)
            have r3' := Ext.frz' hb2 (p := ⟨w.heap.size, 1, none⟩) (by simp; omega) (by go_simp)
            have hE : Ext w w2 := by (repeat' (first | exact Ext.refl _ | assumption | refine Ext.alloc ?_ _ | refine Ext.drew ?_ | refine Ext.drewN ?_ _ | refine Ext.set ?_ (by first | exact Nat.le_refl _ | exact le1 _ | exact le2 _ | exact le3 _ | exact le4 _ | exact le5 _ | exact le6 _) _ | refine Ext.trans ?_ (by assumption)))
            have hp1 : wr.heap.size ≠ w.heap.size := by omega
            have hp2 : wr.heap.size + 1 ≠ w.heap.size := by omega
            obtain ⟨e1, e2, e3, e4, e5, e6⟩ := E.out
            clear HF hb2 hb c1 c2 c3 c4 r2 r3
            go_region_held3 (fun w2 => w2.cell? ⟨wr.heap.size, 0, none⟩ = some (.int .i64 Q.1) ∧ w2.cell? ⟨wr.heap.size, 1, none⟩ = some (.int .i64 Q.2) ∧ w2.cell? ⟨wr.heap.size + 1, 0, none⟩ = some (.int .i64 P.1) ∧ w2.cell? ⟨wr.heap.size + 1, 1, none⟩ = some (.int .i64 P.2))
              (first | go_keep | (refine ⟨?_, ?_, ?_, ?_⟩ <;> (simp only [World.cell?_drew]; (first | exact cell_set_ne hp1 (cell_set_ne hp1 (by assumption)) | exact cell_set_ne hp2 (cell_set_ne hp2 (by assumption))))))
              ((go_at_call 77; refine (near_c _ _ _ (by first | exact QQ.out.1 | exact QQ.out.2.2.1) (by first | exact QQ.out.2.1 | exact QQ.out.2.2.2.1) QQ.out.2.2.2.2.1 QQ.out.2.2.2.2.2).mono ?_; rintro e w2 ⟨rfl, rfl⟩))
            rename_i hH2
            clear hH2 e1 e2 e3 e4 e5 e6
            go_wp2_with fail
            exact bodyPost_ret (v := .tuple #[.agg #[.int .i64 (P.1 + Pl.near ((Q.1 - P.1) * s') D), .int .i64 (P.2 + Pl.near ((Q.2 - P.2) * s') D)], .int .i64 k, .int .i64 0]) (by simp [results, Try.results43, go_sem, r0, r1]) rfl ⟨by rw [UU.out.1, UU.out.2.1, UU.out.2.2], by (repeat' (first | exact Ext.refl _ | assumption | refine Ext.alloc ?_ _ | refine Ext.drew ?_ | refine Ext.drewN ?_ _ | refine Ext.set ?_ (by first | exact Nat.le_refl _ | exact le1 _ | exact le2 _ | exact le3 _ | exact le4 _ | exact le5 _ | exact le6 _) _ | refine Ext.trans ?_ (by assumption)))⟩
          · rw [atN_no hy] at hT'
            generalize farAt l k = D at *
            generalize l.getD k (0, 0) = P at *
            generalize l.getD (k + 1) (0, 0) = Q at *
            obtain ⟨s5, s6⟩ := s2
            replace HF := Lib.hid HF
            have HT' := Lib.hid hT'
            have e1 := IntWalk.i64_in (s' - D) (by omega)
            have hge : 0 ≤ s' - D := by
              by_cases h0 : 0 < D
              · have : ¬ s' ≤ D := fun h => hy ⟨h0, h⟩
                omega
              · omega
            have hle : s' - D ≤ 17179869184 := by omega
            have hbl := World.block_lt_of_cell? wr _ c1
            simp only at hbl
            have hne : ¬ w.heap.size = wr.heap.size := by omega
            have hne2 : ¬ w.heap.size = wr.heap.size + 1 := by omega
            clear hT' HT HA HC a1 a2 a3 a4 a5 a6 a7 a8
            by_cases h0 : 0 < D
            · have h1 : ¬ s' ≤ D := fun h => hy ⟨h0, h⟩
              clear hy
              go_wp2_with (go_at_call 73; refine (HF.out _).mono ?_; rintro e w2 ⟨rfl, hb2⟩
                           have r0n := Ext.cell hb2 (p := ⟨w.heap.size, 0, none⟩) (v := .int .i64 0) (by go_simp); have r1n := Ext.cell hb2 (p := ⟨w.heap.size, 1, none⟩) (v := .int .i64 0) (by go_simp); have lrn := World.block_lt_of_cell? w2 _ r0n; simp only at lrn; replace r0 := r0n; clear r0n; replace r1 := r1n; clear r1n; replace lr := lrn; clear lrn)
              have r2' := Ext.frz' hb2 (p := ⟨w.heap.size, 0, none⟩) (by simp; omega) (by go_simp)
              have r3' := Ext.frz' hb2 (p := ⟨w.heap.size, 1, none⟩) (by simp; omega) (by go_simp)
              have hE : Ext w w2 := by (repeat' (first | exact Ext.refl _ | assumption | refine Ext.alloc ?_ _ | refine Ext.drew ?_ | refine Ext.drewN ?_ _ | refine Ext.set ?_ (by first | exact Nat.le_refl _ | exact le1 _ | exact le2 _ | exact le3 _ | exact le4 _ | exact le5 _ | exact le6 _) _ | refine Ext.trans ?_ (by assumption)))
              go_roundw
              case rel => exact ⟨k + 1, s' - D, by omega, by go_num, rfl, hge, hle, HT'.out, hE, lr, r0, r1, r2', r3'⟩
              case measure => simp [intOf]; omega
            · clear hy
              go_wp2_with (go_at_call 73; refine (HF.out _).mono ?_; rintro e w2 ⟨rfl, hb2⟩
                           have r0n := Ext.cell hb2 (p := ⟨w.heap.size, 0, none⟩) (v := .int .i64 0) (by go_simp); have r1n := Ext.cell hb2 (p := ⟨w.heap.size, 1, none⟩) (v := .int .i64 0) (by go_simp); have lrn := World.block_lt_of_cell? w2 _ r0n; simp only at lrn; replace r0 := r0n; clear r0n; replace r1 := r1n; clear r1n; replace lr := lrn; clear lrn)
              have r2' := Ext.frz' hb2 (p := ⟨w.heap.size, 0, none⟩) (by simp; omega) (by go_simp)
              have r3' := Ext.frz' hb2 (p := ⟨w.heap.size, 1, none⟩) (by simp; omega) (by go_simp)
              have hE : Ext w w2 := by (repeat' (first | exact Ext.refl _ | assumption | refine Ext.alloc ?_ _ | refine Ext.drew ?_ | refine Ext.drewN ?_ _ | refine Ext.set ?_ (by first | exact Nat.le_refl _ | exact le1 _ | exact le2 _ | exact le3 _ | exact le4 _ | exact le5 _ | exact le6 _) _ | refine Ext.trans ?_ (by assumption)))
              go_roundw
              case rel => exact ⟨k + 1, s' - D, by omega, by go_num, rfl, hge, hle, HT'.out, hE, lr, r0, r1, r2', r3'⟩
              case measure => simp [intOf]; omega
        · have hk' : k = m := by omega
          have i1 : ¬ (k : Int) < (m : Int) := by omega
          have i2 : (k : Int) ≤ 256 := by have hmo := hmm.out; omega
          rw [show m - k = 0 by omega] at hT'
          simp only [atN] at hT'
          have u1 : (l.getD 0 (0, 0)).1 = t1 := congrArg (·.1.1) hT'
          have u2 : (l.getD 0 (0, 0)).2 = t2 := congrArg (·.1.2) hT'
          have u3 : (0 : Int) = t3 := congrArg (·.2) hT'
          have UU := Lib.hid (And.intro u1 (And.intro u2 u3))
          obtain ⟨h00a, h00b⟩ := h00.out
          have c1 := Ext.cell hb h00a
          have c2 := Ext.cell hb h00b
          rw [Nat.zero_mul, Nat.add_zero] at c1 c2
          clear u1 u2 u3 hT' h00a h00b h00 HT HA HC
          generalize l.getD 0 (0, 0) = P at *
          go_wp2
          exact bodyPost_ret (v := .tuple #[.agg #[.int .i64 P.1, .int .i64 P.2], .int .i64 0, .int .i64 0]) (by simp [results, Try.results43, go_sem, r0, r1]) rfl ⟨by rw [UU.out.1, UU.out.2.1, ← UU.out.2.2], by (repeat' (first | exact Ext.refl _ | assumption | refine Ext.alloc ?_ _ | refine Ext.drew ?_ | refine Ext.drewN ?_ _ | refine Ext.set ?_ (by first | exact Nat.le_refl _ | exact le1 _ | exact le2 _ | exact le3 _ | exact le4 _ | exact le5 _ | exact le6 _) _ | refine Ext.trans ?_ (by assumption)))⟩
  · rw [alongS_bad he]
    unfold i2V at P1
    unfold ptieV
    simp only
    generalize (lenS l).1 = n at *
    generalize (lenS l).2 = E at *
    have H1 := Lib.hid P1
    subst hv
    clear P1 hp
    go_enter Try.func43, Try.ntmps43
    go_wp2_with fail
    refine (H1.out _ (by (repeat' (first | exact Ext.refl _ | assumption | refine Ext.alloc ?_ _ | refine Ext.drew ?_ | refine Ext.drewN ?_ _ | refine Ext.set ?_ (by first | exact Nat.le_refl _ | exact le1 _ | exact le2 _ | exact le3 _ | exact le4 _ | exact le5 _ | exact le6 _) _ | refine Ext.trans ?_ (by assumption))))).mono ?_
    rintro e w1 ⟨rfl, hb1⟩
    have d0 := Ext.cell hb1 (p := ⟨w.heap.size, 0, none⟩) (v := .int .i64 0) (by go_simp)
    have d1 := Ext.cell hb1 (p := ⟨w.heap.size, 1, none⟩) (v := .int .i64 0) (by go_simp)
    have d2 := Ext.frz' hb1 (p := ⟨w.heap.size, 0, none⟩) (by simp) (by go_simp)
    have d3 := Ext.frz' hb1 (p := ⟨w.heap.size, 1, none⟩) (by simp) (by go_simp)
    go_wp2_with fail
    exact bodyPost_ret (v := .tuple #[.agg #[.int .i64 0, .int .i64 0], .int .i64 0, .int .i64 E]) (by simp [results, Try.results43, go_sem, d0, d1]) rfl ⟨rfl, by (repeat' (first | exact Ext.refl _ | assumption | refine Ext.alloc ?_ _ | refine Ext.drew ?_ | refine Ext.drewN ?_ _ | refine Ext.set ?_ (by first | exact Nat.le_refl _ | exact le1 _ | exact le2 _ | exact le3 _ | exact le4 _ | exact le5 _ | exact le6 _) _ | refine Ext.trans ?_ (by assumption)))⟩
end Go.Proofs.Ytngmhmpejjcngaa
