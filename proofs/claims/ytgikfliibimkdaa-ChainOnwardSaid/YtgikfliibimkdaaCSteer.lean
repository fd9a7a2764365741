/- Contracts: steering, and a point that is pulled and turned. -/
import Derived.Test.YtgikfliibimkdaaCStr2
import Derived.Test.YtgikfliibimkdaaPlaneA
namespace Go.Proofs.Ytgikfliibimkdaa
open Go.RowKit Go.Shelf

def RNum (_ : World) (cs : List Value) (n : Int) : Prop := cs = [.int .i64 n] ∧ -9223372036854775808 ≤ n ∧ n ≤ 9223372036854775807
theorem RNum.stable : Stable RNum := fun _ _ _ _ _ h => h
def steerB : List CUnit → List Int → Bool
  | u :: us, n :: l => inB n (-u.most) u.most && steerB us l
  | _, _ => true
def steerE (v : CVeh) (l : List Int) : Int := if l.length = v.units.length then (if steerB v.units l then 0 else 3) else 17
theorem steerE_len {v : CVeh} {l : List Int} (h : ¬ l.length = v.units.length) : steerE v l = 17 := by unfold steerE; rw [if_neg h]
theorem steerE_eq {v : CVeh} {l : List Int} (h : l.length = v.units.length) : steerE v l = if steerB v.units l then 0 else 3 := by unfold steerE; rw [if_pos h]
theorem steerB_step {us : List CUnit} {l : List Int} {k : Nat} {u : CUnit} {n : Int} (hu : us[k]? = some u) (hn : l[k]? = some n) : steerB (us.drop k) (l.drop k) = (inB n (-u.most) u.most && steerB (us.drop (k + 1)) (l.drop (k + 1))) := by
  rw [drop_some hu, drop_some hn]; rfl
theorem steerB_end {us : List CUnit} {l : List Int} : steerB (us.drop us.length) l = true := by rw [List.drop_eq_nil_of_le (Nat.le_refl _)]; cases l <;> rfl
theorem steerB_at : ∀ {us : List CUnit} {l : List Int}, steerB us l = true → ∀ {k : Nat} {u : CUnit} {n : Int}, us[k]? = some u → l[k]? = some n → -u.most ≤ n ∧ n ≤ u.most
  | [], _, _, k, u, n, hu, _ => by simp at hu
  | _ :: _, [], _, k, u, n, _, hn => by simp at hn
  | a :: us, m :: l, h, 0, u, n, hu, hn => by
    simp only [List.getElem?_cons_zero, Option.some.injEq] at hu hn
    subst hu hn
    simp only [steerB, Bool.and_eq_true, inB_iff] at h
    exact h.1
  | a :: us, m :: l, h, k + 1, u, n, hu, hn => by
    simp only [steerB, Bool.and_eq_true] at h
    exact steerB_at h.2 (by simpa using hu) (by simpa using hn)
/-- a point that is pulled to a joint, and turned about it -/
def pullTS (h a : Pt) (len steer : Int) : Pt × Int :=
  if (pullS h a len).2 = 0 ∧ ¬ steer = 0 then rotateS (pullS h a len).1 h (400 * 400 - steer * steer) (2 * steer * 400) (400 * 400 + steer * steer) else pullS h a len
theorem half_400 {s : Int} (h1 : -40 ≤ s) (h2 : s ≤ 40) : halfS s 400 = ((400 * 400 - s * s, 2 * s * 400, 400 * 400 + s * s), 0) := by
  unfold halfS
  rw [if_pos (by simp only [Bool.and_eq_true, inB_iff]; omega)]
set_option maxRecDepth 100000 in
set_option maxHeartbeats 1600000 in
theorem pullT_c (h1 h2 a1 a2 len s : Int) (w : World) (hs1 : -40 ≤ s) (hs2 : s ≤ 40) :
    Calls Try.prog 56 #[.agg #[.int .i64 h1, .int .i64 h2], .agg #[.int .i64 a1, .int .i64 a2], .int .i64 len, .int .i64 s] w fun e w' => e = .returned (ptV (pullTS (h1, h2) (a1, a2) len s)) ∧ Ext w w' := by
  have CQ := fun w => Pull_c h1 h2 a1 a2 len w
  have CH := fun w => Half_c s 400 w
  rw [half_400 hs1 hs2] at CH
  unfold pullTS
  obtain ⟨q, hq⟩ : ∃ q, pullS (h1, h2) (a1, a2) len = q := ⟨_, rfl⟩
  rw [hq] at CQ ⊢
  have CT := fun w => Rotate_c q.1.1 q.1.2 h1 h2 (400 * 400 - s * s) (2 * s * 400) (400 * 400 + s * s) w
  generalize (400 * 400 - s * s) = C at *
  generalize (2 * s * 400) = S at *
  generalize (400 * 400 + s * s) = N at *
  have hqq : ((q.1.1, q.1.2) : Pt) = q.1 := rfl
  rw [hqq] at CT
  obtain ⟨r, hr⟩ : ∃ r, rotateS q.1 (h1, h2) C S N = r := ⟨_, rfl⟩
  rw [hr] at CT ⊢
  unfold ptV rotV at *
  simp only at CH
  replace CQ := Lib.hid CQ
  replace CH := Lib.hid CH
  replace CT := Lib.hid CT
  clear hq hr hqq
  by_cases h0 : q.2 = 0
  case neg =>
    rw [if_neg (by simp [h0])]
    clear CH CT
    go_enter Try.func56, Try.ntmps56
    go_wp2_with (go_at_call 41; refine (CQ.out _).mono ?_; rintro e w1 ⟨rfl, hb⟩; have L0 := Ext.cell hb (p := ⟨w.heap.size, 0, none⟩) (v := .int .i64 h1) (by go_simp); have L1 := Ext.cell hb (p := ⟨w.heap.size, 1, none⟩) (v := .int .i64 h2) (by go_simp); have hR : w1.heap[w.heap.size + 1 + 1]? = some (.cells #[.int .i64 0, .int .i64 0] 26 (0, 0)) := (hb.block _ (by simp)).trans (new_at (by simp)); have E1 : Ext w w1 := ((((Ext.refl w).alloc _).alloc _).alloc _).trans hb; have hlR := fst_lt hR; have r0 : w1.cell? ⟨w.heap.size + 1 + 1, 0, none⟩ = some (.int .i64 0) := World.news_of_block hR 0 _ rfl; have r1 : w1.cell? ⟨w.heap.size + 1 + 1, 1, none⟩ = some (.int .i64 0) := World.news_of_block hR 1 _ rfl; have f0 := blk_frz hR 0; have f1 := blk_frz hR 1; clear hb)
    have hF := ((Ext.refl _).alloc (.cells #[.int .i64 q.1.1, .int .i64 q.1.2] 26)).blk (two1 (.int .i64 q.1.2) (two0 (.int .i64 q.1.1) hR))
    have EF := ((E1.set (p := ⟨w.heap.size + 1 + 1, 0, none⟩) (le2 _) (.int .i64 q.1.1)).set (p := ⟨w.heap.size + 1 + 1, 1, none⟩) (le2 _) (.int .i64 q.1.2)).alloc (.cells #[.int .i64 q.1.1, .int .i64 q.1.2] 26)
    generalize (((w1.setCell ⟨w.heap.size + 1 + 1, 0, none⟩ (.int .i64 q.1.1)).setCell ⟨w.heap.size + 1 + 1, 1, none⟩ (.int .i64 q.1.2)).alloc (.cells #[.int .i64 q.1.1, .int .i64 q.1.2] 26)) = WF at *
    have n0 : WF.cell? ⟨w.heap.size + 1 + 1, 0, none⟩ = some (.int .i64 q.1.1) := World.news_of_block hF 0 _ rfl
    have n1 : WF.cell? ⟨w.heap.size + 1 + 1, 1, none⟩ = some (.int .i64 q.1.2) := World.news_of_block hF 1 _ rfl
    exact bodyPost_ret (v := .tuple #[.agg #[.int .i64 q.1.1, .int .i64 q.1.2], .int .i64 q.2]) (by simp [results, Try.results56, go_sem, n0, n1]) rfl ⟨rfl, EF⟩
  case pos =>
    by_cases hs0 : s = 0
    case pos =>
      rw [if_neg (by simp [hs0])]
      clear CH CT
      go_enter Try.func56, Try.ntmps56
      go_wp2_with (go_at_call 41; refine (CQ.out _).mono ?_; rintro e w1 ⟨rfl, hb⟩; have L0 := Ext.cell hb (p := ⟨w.heap.size, 0, none⟩) (v := .int .i64 h1) (by go_simp); have L1 := Ext.cell hb (p := ⟨w.heap.size, 1, none⟩) (v := .int .i64 h2) (by go_simp); have hR : w1.heap[w.heap.size + 1 + 1]? = some (.cells #[.int .i64 0, .int .i64 0] 26 (0, 0)) := (hb.block _ (by simp)).trans (new_at (by simp)); have E1 : Ext w w1 := ((((Ext.refl w).alloc _).alloc _).alloc _).trans hb; have hlR := fst_lt hR; have r0 : w1.cell? ⟨w.heap.size + 1 + 1, 0, none⟩ = some (.int .i64 0) := World.news_of_block hR 0 _ rfl; have r1 : w1.cell? ⟨w.heap.size + 1 + 1, 1, none⟩ = some (.int .i64 0) := World.news_of_block hR 1 _ rfl; have f0 := blk_frz hR 0; have f1 := blk_frz hR 1; clear hb)
      have hF := ((Ext.refl _).alloc (.cells #[.int .i64 q.1.1, .int .i64 q.1.2] 26)).blk (two1 (.int .i64 q.1.2) (two0 (.int .i64 q.1.1) hR))
      have EF := ((E1.set (p := ⟨w.heap.size + 1 + 1, 0, none⟩) (le2 _) (.int .i64 q.1.1)).set (p := ⟨w.heap.size + 1 + 1, 1, none⟩) (le2 _) (.int .i64 q.1.2)).alloc (.cells #[.int .i64 q.1.1, .int .i64 q.1.2] 26)
      generalize (((w1.setCell ⟨w.heap.size + 1 + 1, 0, none⟩ (.int .i64 q.1.1)).setCell ⟨w.heap.size + 1 + 1, 1, none⟩ (.int .i64 q.1.2)).alloc (.cells #[.int .i64 q.1.1, .int .i64 q.1.2] 26)) = WF at *
      have n0 : WF.cell? ⟨w.heap.size + 1 + 1, 0, none⟩ = some (.int .i64 q.1.1) := World.news_of_block hF 0 _ rfl
      have n1 : WF.cell? ⟨w.heap.size + 1 + 1, 1, none⟩ = some (.int .i64 q.1.2) := World.news_of_block hF 1 _ rfl
      exact bodyPost_ret (v := .tuple #[.agg #[.int .i64 q.1.1, .int .i64 q.1.2], .int .i64 q.2]) (by simp [results, Try.results56, go_sem, n0, n1, h0]) rfl ⟨rfl, EF⟩
    case neg =>
      rw [if_pos ⟨h0, hs0⟩]
      go_enter Try.func56, Try.ntmps56
      go_wp2_with (first | (go_at_call 41; refine (CQ.out _).mono ?_; rintro e w1 ⟨rfl, hb⟩; have L0 := Ext.cell hb (p := ⟨w.heap.size, 0, none⟩) (v := .int .i64 h1) (by go_simp); have L1 := Ext.cell hb (p := ⟨w.heap.size, 1, none⟩) (v := .int .i64 h2) (by go_simp); have hR : w1.heap[w.heap.size + 1 + 1]? = some (.cells #[.int .i64 0, .int .i64 0] 26 (0, 0)) := (hb.block _ (by simp)).trans (new_at (by simp)); have E1 : Ext w w1 := ((((Ext.refl w).alloc _).alloc _).alloc _).trans hb; have hlR := fst_lt hR; have r0 : w1.cell? ⟨w.heap.size + 1 + 1, 0, none⟩ = some (.int .i64 0) := World.news_of_block hR 0 _ rfl; have r1 : w1.cell? ⟨w.heap.size + 1 + 1, 1, none⟩ = some (.int .i64 0) := World.news_of_block hR 1 _ rfl; have f0 := blk_frz hR 0; have f1 := blk_frz hR 1; clear hb) | (go_at_call 86; refine (CH.out _).mono ?_; rintro e w2 ⟨rfl, hb⟩; have hb2 := ((Ext.refl w1).alloc _).trans hb; replace L0 := Ext.cell hb2 L0; replace L1 := Ext.cell hb2 L1; have c0 : w2.cell? ⟨w1.heap.size, 0, none⟩ = some (.int .i64 q.1.1) := Ext.cell hb (World.news_of_block (new_at (W := w1) rfl) 0 _ rfl); have c1 : w2.cell? ⟨w1.heap.size, 1, none⟩ = some (.int .i64 q.1.2) := Ext.cell hb (World.news_of_block (new_at (W := w1) rfl) 1 _ rfl); replace hR := hb2.blk hR; replace E1 := E1.trans hb2; have hl0 := lt_of_cell L0; have hlc := lt_of_cell c0; clear hb) | (go_at_call 87; refine (CT.out _).mono ?_; rintro e w3 ⟨rfl, hb⟩; have hb3 := ((Ext.refl w2).alloc _).trans hb; replace hR := hb3.blk hR; replace E1 := E1.trans hb3; have s0 : w3.cell? ⟨w.heap.size + 1 + 1, 0, none⟩ = some (.int .i64 0) := World.news_of_block hR 0 _ rfl; have s1 : w3.cell? ⟨w.heap.size + 1 + 1, 1, none⟩ = some (.int .i64 0) := World.news_of_block hR 1 _ rfl; have g0 := blk_frz hR 0; have g1 := blk_frz hR 1; clear hb))
      have hF := two1 (.int .i64 r.1.2) (two0 (.int .i64 r.1.1) hR)
      have EF := (E1.set (p := ⟨w.heap.size + 1 + 1, 0, none⟩) (le2 _) (.int .i64 r.1.1)).set (p := ⟨w.heap.size + 1 + 1, 1, none⟩) (le2 _) (.int .i64 r.1.2)
      generalize ((w3.setCell ⟨w.heap.size + 1 + 1, 0, none⟩ (.int .i64 r.1.1)).setCell ⟨w.heap.size + 1 + 1, 1, none⟩ (.int .i64 r.1.2)) = WF at *
      have n0 : WF.cell? ⟨w.heap.size + 1 + 1, 0, none⟩ = some (.int .i64 r.1.1) := World.news_of_block hF 0 _ rfl
      have n1 : WF.cell? ⟨w.heap.size + 1 + 1, 1, none⟩ = some (.int .i64 r.1.2) := World.news_of_block hF 1 _ rfl
      exact bodyPost_ret (v := .tuple #[.agg #[.int .i64 r.1.1, .int .i64 r.1.2], .int .i64 r.2]) (by simp [results, Try.results56, go_sem, n0, n1]) rfl ⟨rfl, EF⟩
set_option maxRecDepth 100000 in
set_option maxHeartbeats 1600000 in
theorem RpullT_c (h1 h2 a1 a2 len s : Int) (w : World) (hs1 : -40 ≤ s) (hs2 : s ≤ 40) :
    Calls Try.prog 61 #[.agg #[.int .i64 h1, .int .i64 h2], .agg #[.int .i64 a1, .int .i64 a2], .int .i64 len, .int .i64 s] w fun e w' => e = .returned (ptV (pullTS (h1, h2) (a1, a2) len s)) ∧ Ext w w' := by
  have CQ := fun w => RPull_c h1 h2 a1 a2 len w
  have CH := fun w => RHalf_c s 400 w
  rw [half_400 hs1 hs2] at CH
  unfold pullTS
  obtain ⟨q, hq⟩ : ∃ q, pullS (h1, h2) (a1, a2) len = q := ⟨_, rfl⟩
  rw [hq] at CQ ⊢
  have CT := fun w => RRotate_c q.1.1 q.1.2 h1 h2 (400 * 400 - s * s) (2 * s * 400) (400 * 400 + s * s) w
  generalize (400 * 400 - s * s) = C at *
  generalize (2 * s * 400) = S at *
  generalize (400 * 400 + s * s) = N at *
  have hqq : ((q.1.1, q.1.2) : Pt) = q.1 := rfl
  rw [hqq] at CT
  obtain ⟨r, hr⟩ : ∃ r, rotateS q.1 (h1, h2) C S N = r := ⟨_, rfl⟩
  rw [hr] at CT ⊢
  unfold ptV rotV at *
  simp only at CH
  replace CQ := Lib.hid CQ
  replace CH := Lib.hid CH
  replace CT := Lib.hid CT
  clear hq hr hqq
  by_cases h0 : q.2 = 0
  case neg =>
    rw [if_neg (by simp [h0])]
    clear CH CT
    go_enter Try.func61, Try.ntmps61
    go_wp2_with (go_at_call 48; refine (CQ.out _).mono ?_; rintro e w1 ⟨rfl, hb⟩; have L0 := Ext.cell hb (p := ⟨w.heap.size, 0, none⟩) (v := .int .i64 h1) (by go_simp); have L1 := Ext.cell hb (p := ⟨w.heap.size, 1, none⟩) (v := .int .i64 h2) (by go_simp); have hR : w1.heap[w.heap.size + 1 + 1]? = some (.cells #[.int .i64 0, .int .i64 0] 26 (0, 0)) := (hb.block _ (by simp)).trans (new_at (by simp)); have E1 : Ext w w1 := ((((Ext.refl w).alloc _).alloc _).alloc _).trans hb; have hlR := fst_lt hR; have r0 : w1.cell? ⟨w.heap.size + 1 + 1, 0, none⟩ = some (.int .i64 0) := World.news_of_block hR 0 _ rfl; have r1 : w1.cell? ⟨w.heap.size + 1 + 1, 1, none⟩ = some (.int .i64 0) := World.news_of_block hR 1 _ rfl; have f0 := blk_frz hR 0; have f1 := blk_frz hR 1; clear hb)
    have hF := ((Ext.refl _).alloc (.cells #[.int .i64 q.1.1, .int .i64 q.1.2] 26)).blk (two1 (.int .i64 q.1.2) (two0 (.int .i64 q.1.1) hR))
    have EF := ((E1.set (p := ⟨w.heap.size + 1 + 1, 0, none⟩) (le2 _) (.int .i64 q.1.1)).set (p := ⟨w.heap.size + 1 + 1, 1, none⟩) (le2 _) (.int .i64 q.1.2)).alloc (.cells #[.int .i64 q.1.1, .int .i64 q.1.2] 26)
    generalize (((w1.setCell ⟨w.heap.size + 1 + 1, 0, none⟩ (.int .i64 q.1.1)).setCell ⟨w.heap.size + 1 + 1, 1, none⟩ (.int .i64 q.1.2)).alloc (.cells #[.int .i64 q.1.1, .int .i64 q.1.2] 26)) = WF at *
    have n0 : WF.cell? ⟨w.heap.size + 1 + 1, 0, none⟩ = some (.int .i64 q.1.1) := World.news_of_block hF 0 _ rfl
    have n1 : WF.cell? ⟨w.heap.size + 1 + 1, 1, none⟩ = some (.int .i64 q.1.2) := World.news_of_block hF 1 _ rfl
    exact bodyPost_ret (v := .tuple #[.agg #[.int .i64 q.1.1, .int .i64 q.1.2], .int .i64 q.2]) (by simp [results, Try.results61, go_sem, n0, n1]) rfl ⟨rfl, EF⟩
  case pos =>
    by_cases hs0 : s = 0
    case pos =>
      rw [if_neg (by simp [hs0])]
      clear CH CT
      go_enter Try.func61, Try.ntmps61
      go_wp2_with (go_at_call 48; refine (CQ.out _).mono ?_; rintro e w1 ⟨rfl, hb⟩; have L0 := Ext.cell hb (p := ⟨w.heap.size, 0, none⟩) (v := .int .i64 h1) (by go_simp); have L1 := Ext.cell hb (p := ⟨w.heap.size, 1, none⟩) (v := .int .i64 h2) (by go_simp); have hR : w1.heap[w.heap.size + 1 + 1]? = some (.cells #[.int .i64 0, .int .i64 0] 26 (0, 0)) := (hb.block _ (by simp)).trans (new_at (by simp)); have E1 : Ext w w1 := ((((Ext.refl w).alloc _).alloc _).alloc _).trans hb; have hlR := fst_lt hR; have r0 : w1.cell? ⟨w.heap.size + 1 + 1, 0, none⟩ = some (.int .i64 0) := World.news_of_block hR 0 _ rfl; have r1 : w1.cell? ⟨w.heap.size + 1 + 1, 1, none⟩ = some (.int .i64 0) := World.news_of_block hR 1 _ rfl; have f0 := blk_frz hR 0; have f1 := blk_frz hR 1; clear hb)
      have hF := ((Ext.refl _).alloc (.cells #[.int .i64 q.1.1, .int .i64 q.1.2] 26)).blk (two1 (.int .i64 q.1.2) (two0 (.int .i64 q.1.1) hR))
      have EF := ((E1.set (p := ⟨w.heap.size + 1 + 1, 0, none⟩) (le2 _) (.int .i64 q.1.1)).set (p := ⟨w.heap.size + 1 + 1, 1, none⟩) (le2 _) (.int .i64 q.1.2)).alloc (.cells #[.int .i64 q.1.1, .int .i64 q.1.2] 26)
      generalize (((w1.setCell ⟨w.heap.size + 1 + 1, 0, none⟩ (.int .i64 q.1.1)).setCell ⟨w.heap.size + 1 + 1, 1, none⟩ (.int .i64 q.1.2)).alloc (.cells #[.int .i64 q.1.1, .int .i64 q.1.2] 26)) = WF at *
      have n0 : WF.cell? ⟨w.heap.size + 1 + 1, 0, none⟩ = some (.int .i64 q.1.1) := World.news_of_block hF 0 _ rfl
      have n1 : WF.cell? ⟨w.heap.size + 1 + 1, 1, none⟩ = some (.int .i64 q.1.2) := World.news_of_block hF 1 _ rfl
      exact bodyPost_ret (v := .tuple #[.agg #[.int .i64 q.1.1, .int .i64 q.1.2], .int .i64 q.2]) (by simp [results, Try.results61, go_sem, n0, n1, h0]) rfl ⟨rfl, EF⟩
    case neg =>
      rw [if_pos ⟨h0, hs0⟩]
      go_enter Try.func61, Try.ntmps61
      go_wp2_with (first | (go_at_call 48; refine (CQ.out _).mono ?_; rintro e w1 ⟨rfl, hb⟩; have L0 := Ext.cell hb (p := ⟨w.heap.size, 0, none⟩) (v := .int .i64 h1) (by go_simp); have L1 := Ext.cell hb (p := ⟨w.heap.size, 1, none⟩) (v := .int .i64 h2) (by go_simp); have hR : w1.heap[w.heap.size + 1 + 1]? = some (.cells #[.int .i64 0, .int .i64 0] 26 (0, 0)) := (hb.block _ (by simp)).trans (new_at (by simp)); have E1 : Ext w w1 := ((((Ext.refl w).alloc _).alloc _).alloc _).trans hb; have hlR := fst_lt hR; have r0 : w1.cell? ⟨w.heap.size + 1 + 1, 0, none⟩ = some (.int .i64 0) := World.news_of_block hR 0 _ rfl; have r1 : w1.cell? ⟨w.heap.size + 1 + 1, 1, none⟩ = some (.int .i64 0) := World.news_of_block hR 1 _ rfl; have f0 := blk_frz hR 0; have f1 := blk_frz hR 1; clear hb) | (go_at_call 89; refine (CH.out _).mono ?_; rintro e w2 ⟨rfl, hb⟩; have hb2 := ((Ext.refl w1).alloc _).trans hb; replace L0 := Ext.cell hb2 L0; replace L1 := Ext.cell hb2 L1; have c0 : w2.cell? ⟨w1.heap.size, 0, none⟩ = some (.int .i64 q.1.1) := Ext.cell hb (World.news_of_block (new_at (W := w1) rfl) 0 _ rfl); have c1 : w2.cell? ⟨w1.heap.size, 1, none⟩ = some (.int .i64 q.1.2) := Ext.cell hb (World.news_of_block (new_at (W := w1) rfl) 1 _ rfl); replace hR := hb2.blk hR; replace E1 := E1.trans hb2; have hl0 := lt_of_cell L0; have hlc := lt_of_cell c0; clear hb) | (go_at_call 90; refine (CT.out _).mono ?_; rintro e w3 ⟨rfl, hb⟩; have hb3 := ((Ext.refl w2).alloc _).trans hb; replace hR := hb3.blk hR; replace E1 := E1.trans hb3; have s0 : w3.cell? ⟨w.heap.size + 1 + 1, 0, none⟩ = some (.int .i64 0) := World.news_of_block hR 0 _ rfl; have s1 : w3.cell? ⟨w.heap.size + 1 + 1, 1, none⟩ = some (.int .i64 0) := World.news_of_block hR 1 _ rfl; have g0 := blk_frz hR 0; have g1 := blk_frz hR 1; clear hb))
      have hF := two1 (.int .i64 r.1.2) (two0 (.int .i64 r.1.1) hR)
      have EF := (E1.set (p := ⟨w.heap.size + 1 + 1, 0, none⟩) (le2 _) (.int .i64 r.1.1)).set (p := ⟨w.heap.size + 1 + 1, 1, none⟩) (le2 _) (.int .i64 r.1.2)
      generalize ((w3.setCell ⟨w.heap.size + 1 + 1, 0, none⟩ (.int .i64 r.1.1)).setCell ⟨w.heap.size + 1 + 1, 1, none⟩ (.int .i64 r.1.2)) = WF at *
      have n0 : WF.cell? ⟨w.heap.size + 1 + 1, 0, none⟩ = some (.int .i64 r.1.1) := World.news_of_block hF 0 _ rfl
      have n1 : WF.cell? ⟨w.heap.size + 1 + 1, 1, none⟩ = some (.int .i64 r.1.2) := World.news_of_block hF 1 _ rfl
      exact bodyPost_ret (v := .tuple #[.agg #[.int .i64 r.1.1, .int .i64 r.1.2], .int .i64 r.2]) (by simp [results, Try.results61, go_sem, n0, n1]) rfl ⟨rfl, EF⟩
end Go.Proofs.Ytgikfliibimkdaa
