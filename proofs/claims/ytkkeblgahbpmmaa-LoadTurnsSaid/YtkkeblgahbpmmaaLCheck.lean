
/- Contracts: total, Check. -/
import Derived.Test.YtkkeblgahbpmmaaLBox
import Derived.Test.YtkkeblgahbpmmaaLPiece
namespace Go.Proofs.Ytkkeblgahbpmmaa
open Go.RowKit

theorem take_bds {l : List LPiece} (hv : ∀ p ∈ l, pieceB p = true) (hn : l.length ≤ 40) (k : Nat) :
    (0 ≤ massN (l.take k) ∧ massN (l.take k) ≤ 1000000000) ∧ (-1000000000000000 ≤ momX (l.take k) ∧ momX (l.take k) ≤ 1000000000000000) ∧
    (-1000000000000000 ≤ momY (l.take k) ∧ momY (l.take k) ≤ 1000000000000000) ∧ (-1000000000000000 ≤ momZ (l.take k) ∧ momZ (l.take k) ≤ 1000000000000000) := by
  have hm : ∀ p ∈ l.take k, pieceB p = true := fun p hp => hv p (List.mem_of_mem_take hp)
  have hl : (l.take k).length ≤ 40 := by rw [List.length_take]; omega
  generalize l.take k = t at *
  have s0 := sum_bds (f := fun p : LPiece => p.mass) (lo := 0) (hi := 16777216) t (fun p hp => (piece_bds (hm p hp)).2.2.2.2.2.2)
  have key : ∀ (f : LPiece → Int), (∀ p ∈ t, -4398046511104 ≤ f p ∧ f p ≤ 4398046511104) → -1000000000000000 ≤ (t.map f).sum ∧ (t.map f).sum ≤ 1000000000000000 := by
    intro f hf
    have := sum_bds (f := f) (lo := -4398046511104) (hi := 4398046511104) t hf
    omega
  refine ⟨by unfold massN; omega, key _ ?_, key _ ?_, key _ ?_⟩
  · intro p hp
    obtain ⟨ha, hb, hc, hl, hw, hh, hs⟩ := piece_bds (hm p hp)
    have := mom_bd hs ha hl
    rwa [mom_eq] at this
  · intro p hp
    obtain ⟨ha, hb, hc, hl, hw, hh, hs⟩ := piece_bds (hm p hp)
    have := mom_bd hs hb hw
    rwa [mom_eq] at this
  · intro p hp
    obtain ⟨ha, hb, hc, hl, hw, hh, hs⟩ := piece_bds (hm p hp)
    have := mom_bd hs ⟨by omega, hc.2⟩ hh
    rwa [mom_eq] at this
def totalV (l : List LPiece) : Value := .agg (weightCs (massN l) (momX l) (momY l) (momZ l))
set_option maxRecDepth 100000 in
set_option maxHeartbeats 3200000 in
theorem total_c (l : List LPiece) (v : Value) (w : World) (hs : Sl 7 RPiece w v l) (hv : ∀ p ∈ l, pieceB p = true) (hn : l.length ≤ 40) :
    Calls Try.prog 42 #[v] w fun e w' => e = .returned (totalV l) ∧ Ext w w' := by
  obtain ⟨A, cap, rfl, hl1, hl2⟩ := hs.shape
  have HS := Lib.hid hs
  have HV := Lib.hid hv
  have HT := Lib.hid (take_bds hv hn)
  clear hs hv
  unfold totalV
  go_enter Try.func42, Try.ntmps42
  go_wp2
  have hT := lb_new w (.cells #[.int .i64 0, .int .i64 0, .int .i64 0, .int .i64 0] 79)
  have E1 : Ext w (w.alloc (.cells #[.int .i64 0, .int .i64 0, .int .i64 0, .int .i64 0] 79)) := (Ext.refl w).alloc _
  generalize (w.alloc (.cells #[.int .i64 0, .int .i64 0, .int .i64 0, .int .i64 0] 79)) = W1 at *
  have H1 := Lib.hid (And.intro E1 hT)
  clear E1 hT
  go_loopw [7] (fun i wr => ∃ k : Nat, k ≤ l.length ∧ i = .int .i64 k ∧ Ext w wr ∧ wr.heap[w.heap.size]? = some (.cells (weightCs (massN (l.take k)) (momX (l.take k)) (momY (l.take k)) (momZ (l.take k))) 79 (0, 0))) (fun i _ => l.length - (intOf i).toNat)
  case atStart => exact ⟨0, by omega, rfl, H1.out.1, H1.out.2⟩
  case round =>
    obtain ⟨k, hk, rfl, hE, hB⟩ := hrel
    have HR := Lib.hid (And.intro hE hB)
    clear hE hB
    by_cases hlt : k < l.length
    · obtain ⟨x, hx⟩ := some_of_lt hlt
      obtain ⟨b, off, cs, rfl, _, hr, hc⟩ := (HS.out.ext RPiece.stable HR.out.1).at hx
      obtain rfl : cs = [.int .i64 x.x, .int .i64 x.y, .int .i64 x.z, .int .i64 x.l, .int .i64 x.w, .int .i64 x.h, .int .i64 x.mass] := hr
      have c0 := hc 0 _ rfl
      have c1 := hc 1 _ rfl
      have c2 := hc 2 _ rfl
      have c3 := hc 3 _ rfl
      have c4 := hc 4 _ rfl
      have c5 := hc 5 _ rfl
      have c6 := hc 6 _ rfl
      simp only [Nat.add_zero] at c0
      have hbl := lt_of_cell c0
      have hpx := HV.out x (mem_of_some hx)
      have s0 := sum_snoc (fun p : LPiece => p.mass) hx
      have s1 := sum_snoc (fun p : LPiece => p.mass * (2 * p.x + p.l)) hx
      have s2 := sum_snoc (fun p : LPiece => p.mass * (2 * p.y + p.w)) hx
      have s3 := sum_snoc (fun p : LPiece => p.mass * (2 * p.z + p.h)) hx
      have HN := Lib.hid (show massN (l.take (k + 1)) = massN (l.take k) + x.mass ∧ momX (l.take (k + 1)) = momX (l.take k) + x.mass * (2 * x.x + x.l) ∧ momY (l.take (k + 1)) = momY (l.take k) + x.mass * (2 * x.y + x.w) ∧ momZ (l.take (k + 1)) = momZ (l.take k) + x.mass * (2 * x.z + x.h) from ⟨s0, s1, s2, s3⟩)
      clear s0 s1 s2 s3
      obtain ⟨t0, t1, t2, t3⟩ := HT.out k
      have AC := Lib.hid (fun W hE hB => add_c x w W w.heap.size (massN (l.take k)) (momX (l.take k)) (momY (l.take k)) (momZ (l.take k)) hE (Nat.le_refl _) hB hpx t0 t1 t2 t3)
      clear t0 t1 t2 t3 hpx hc hx
      go_wp2_with (go_at_call 70; refine (AC.out _ (Ext.alloc HR.out.1 _) (lb_alloc HR.out.2 _)).mono ?_; rintro e w1 ⟨rfl, h1, h2⟩)
      go_roundw
      case rel => exact ⟨k + 1, by omega, by go_num, h1, by rw [HN.out.1, HN.out.2.1, HN.out.2.2.1, HN.out.2.2.2]; exact h2⟩
      case measure => simp [intOf]; omega
    · have hkl : k = l.length := by omega
      have hB := HR.out.2
      rw [List.take_of_length_le (by omega)] at hB
      have y0 : wr.cell? ⟨w.heap.size, 0, none⟩ = some (.int .i64 (massN l)) := World.news_of_block hB 0 _ rfl
      have y1 : wr.cell? ⟨w.heap.size, 1, none⟩ = some (.int .i64 (momX l)) := World.news_of_block hB 1 _ rfl
      have y2 : wr.cell? ⟨w.heap.size, 2, none⟩ = some (.int .i64 (momY l)) := World.news_of_block hB 2 _ rfl
      have y3 : wr.cell? ⟨w.heap.size, 3, none⟩ = some (.int .i64 (momZ l)) := World.news_of_block hB 3 _ rfl
      have f0 := lb_frz hB 0
      have f1 := lb_frz hB 1
      have f2 := lb_frz hB 2
      have f3 := lb_frz hB 3
      clear hB hkl
      go_wp2
      refine bodyPost_ret (v := .agg #[.int .i64 (massN l), .int .i64 (momX l), .int .i64 (momY l), .int .i64 (momZ l)]) (by simp [results, Try.results42, go_sem, y0, y1, y2, y3]) rfl ⟨rfl, ?_⟩
      exact (((((HR.out.1.set (by simp) _).set (by simp) _).set (by simp) _).set (by simp) _))

set_option maxRecDepth 100000 in
theorem field_mass (a b c d : Int) (w : World) : (Instr.field 79 (.agg #[.int .i64 a, .int .i64 b, .int .i64 c, .int .i64 d]) 0).run Try.prog w = .ok (.int .i64 a) w := by kernel_rfl
set_option maxRecDepth 100000 in
theorem field_mom (a b c d : Int) (w : World) : (Instr.field 79 (.agg #[.int .i64 a, .int .i64 b, .int .i64 c, .int .i64 d]) 1).run Try.prog w = .ok (.agg #[.int .i64 b, .int .i64 c, .int .i64 d]) w := by kernel_rfl
theorem loadE_many {l : LLoad} (h : l.pieces.length < 1 ∨ 32 < l.pieces.length ∨ 32 < l.eyes.length) : loadE l = 6 := by unfold loadE; rw [if_pos h]
theorem loadE_bad {l : LLoad} (h : ¬ (l.pieces.length < 1 ∨ 32 < l.pieces.length ∨ 32 < l.eyes.length)) (h2 : (lnameB l.name && (inB l.friction 0 1000 && (l.pieces.all pieceB && (l.eyes.all eyeB && inB (massN l.pieces) 1 16777216)))) = false) : loadE l = 2 := by
  unfold loadE; rw [if_neg h, h2]; rfl
theorem loadE_ok {l : LLoad} (h : ¬ (l.pieces.length < 1 ∨ 32 < l.pieces.length ∨ 32 < l.eyes.length)) (h1 : lnameB l.name = true) (h2 : inB l.friction 0 1000 = true) (h3 : l.pieces.all pieceB = true) (h4 : l.eyes.all eyeB = true) (h5 : inB (massN l.pieces) 1 16777216 = true) : loadE l = 0 := by
  unfold loadE; rw [if_neg h, h1, h2, h3, h4, h5]; rfl
set_option maxRecDepth 100000 in
set_option maxHeartbeats 6400000 in
theorem LCheck_c (l : LLoad) (vp ve : Value) (w : World) (hl : IsLoad w l vp ve) :
    Calls Try.prog 21 #[loadV l vp ve] w fun e w' => e = .returned (.int .i64 (loadE l)) ∧ Ext w w' := by
  unfold loadV
  have N := fun w => validName_c l.name w
  have F := Lib.hid (fun w => between_c l.friction 0 1000 w)
  have hs := hl.pieces
  have he := hl.eyes
  obtain ⟨A, cap, rfl, hl1, hl2⟩ := hs.shape
  obtain ⟨B, cbp, rfl, hm1, hm2⟩ := he.shape
  have HS := Lib.hid hs
  have HG := Lib.hid he
  have HL := Lib.hid hl
  clear hs he hl
  obtain ⟨E, hE⟩ : ∃ E, loadE l = E := ⟨_, rfl⟩
  rw [hE]
  by_cases hmany : l.pieces.length < 1 ∨ 32 < l.pieces.length ∨ 32 < l.eyes.length
  · have HE := Lib.hid (hE.symm.trans (loadE_many hmany))
    clear hE N F
    rcases (show (l.pieces.length : Int) < 1 ∨ (¬ (l.pieces.length : Int) < 1 ∧ (32 : Int) < l.pieces.length) ∨ (¬ (l.pieces.length : Int) < 1 ∧ ¬ (32 : Int) < l.pieces.length ∧ (32 : Int) < l.eyes.length) by omega) with g1 | ⟨g1, g2⟩ | ⟨g1, g2, g3⟩
    all_goals
      clear hmany
      go_enter Try.func21, Try.ntmps21
      go_wp2
      go_ret
      exact ⟨ret_int HE.out.symm, by (repeat' (first | exact Ext.refl _ | assumption | refine Ext.alloc ?_ _ | refine Ext.drew ?_ | refine Ext.drewN ?_ _ | refine Ext.set ?_ (by first | exact Nat.le_refl _ | exact le1 _ | exact le2 _ | exact le3 _ | exact le4 _ | exact le5 _ | exact le6 _) _ | refine Ext.trans ?_ (by assumption)))⟩
  have HB := Lib.hid (fun h2 => hE.symm.trans (loadE_bad hmany h2))
  have HO := Lib.hid (fun h1 h2 h3 h4 h5 => hE.symm.trans (loadE_ok hmany h1 h2 h3 h4 h5))
  clear hE
  have g1 : ¬ (l.pieces.length : Int) < 1 := by omega
  have g2 : ¬ (32 : Int) < l.pieces.length := by omega
  have g3 : ¬ (32 : Int) < l.eyes.length := by omega
  have HM := Lib.hid hmany
  clear hmany
  obtain ⟨nm, hnm⟩ : ∃ nm, lnameB l.name = nm := ⟨_, rfl⟩
  obtain ⟨fr, hfr⟩ : ∃ fr, inB l.friction 0 1000 = fr := ⟨_, rfl⟩
  rw [hnm] at N
  simp only [hfr] at F
  replace N := Lib.hid N
  have HN := Lib.hid hnm
  have HF := Lib.hid hfr
  clear hnm hfr
  cases nm
  · have HE := Lib.hid (HB.out (by rw [HN.out]; rfl))
    clear HB HO HF F
    go_enter Try.func21, Try.ntmps21
    go_wp2_with (go_at_call 45; refine (N.out _).mono ?_; rintro e w2 ⟨rfl, h2⟩)
    go_ret
    exact ⟨ret_int HE.out.symm, by (repeat' (first | exact Ext.refl _ | assumption | refine Ext.alloc ?_ _ | refine Ext.drew ?_ | refine Ext.drewN ?_ _ | refine Ext.set ?_ (by first | exact Nat.le_refl _ | exact le1 _ | exact le2 _ | exact le3 _ | exact le4 _ | exact le5 _ | exact le6 _) _ | refine Ext.trans ?_ (by assumption)))⟩
  cases fr
  · have HE := Lib.hid (HB.out (by rw [HN.out, HF.out]; rfl))
    clear HB HO
    go_enter Try.func21, Try.ntmps21
    go_wp2_with (first | (go_at_call 45; refine (N.out _).mono ?_; rintro e w2 ⟨rfl, h2⟩; have d1 := lb_cell (lb_ext (lb_new w _) h2) 1 _ rfl; have d2 := lb_cell (lb_ext (lb_new w _) h2) 2 _ rfl; have d3 := lb_cell (lb_ext (lb_new w _) h2) 3 _ rfl; have e2 := Ext.trans ((Ext.refl w).alloc _) h2; clear h2) | (go_at_call 34; refine (F.out _).mono ?_; rintro e w3 ⟨rfl, rfl⟩))
    go_ret
    exact ⟨ret_int HE.out.symm, by (repeat' (first | exact Ext.refl _ | assumption | refine Ext.alloc ?_ _ | refine Ext.drew ?_ | refine Ext.drewN ?_ _ | refine Ext.set ?_ (by first | exact Nat.le_refl _ | exact le1 _ | exact le2 _ | exact le3 _ | exact le4 _ | exact le5 _ | exact le6 _) _ | refine Ext.trans ?_ (by assumption)))⟩
  go_enter Try.func21, Try.ntmps21
  go_wp2_with (first | (go_at_call 45; refine (N.out _).mono ?_; rintro e w2 ⟨rfl, h2⟩; have d1 := lb_cell (lb_ext (lb_new w _) h2) 1 _ rfl; have d2 := lb_cell (lb_ext (lb_new w _) h2) 2 _ rfl; have d3 := lb_cell (lb_ext (lb_new w _) h2) 3 _ rfl; have e2 := Ext.trans ((Ext.refl w).alloc _) h2; clear h2) | (go_at_call 34; refine (F.out _).mono ?_; rintro e w3 ⟨rfl, rfl⟩))
  clear N F
  have HD := Lib.hid (And.intro e2 (And.intro d1 (And.intro d2 d3)))
  clear e2 d1 d2 d3
  go_loopw [36] (fun i wr => ∃ k : Nat, k ≤ l.pieces.length ∧ i = .int .i64 k ∧ (l.pieces.take k).all pieceB = true ∧ Ext w2 wr) (fun i _ => l.pieces.length - (intOf i).toNat)
  case atStart => exact ⟨0, by omega, rfl, by simp, Ext.refl _⟩
  case round =>
    obtain ⟨k, hk, rfl, ha, hE⟩ := hrel
    have HA := Lib.hid ha
    have HR := Lib.hid (And.intro hE (Ext.trans HD.out.1 hE))
    clear ha hE
    by_cases hlt : k < l.pieces.length
    · obtain ⟨x, hx⟩ := some_of_lt hlt
      obtain ⟨b, off, cs, rfl, _, hr, hc⟩ := (HS.out.ext RPiece.stable HR.out.2).at hx
      obtain rfl : cs = [.int .i64 x.x, .int .i64 x.y, .int .i64 x.z, .int .i64 x.l, .int .i64 x.w, .int .i64 x.h, .int .i64 x.mass] := hr
      have c0 := hc 0 _ rfl
      have c1 := hc 1 _ rfl
      have c2 := hc 2 _ rfl
      have c3 := hc 3 _ rfl
      have c4 := hc 4 _ rfl
      have c5 := hc 5 _ rfl
      have c6 := hc 6 _ rfl
      simp only [Nat.add_zero] at c0
      have hbl := lt_of_cell c0
      have V := fun w => validPiece_c x w
      obtain ⟨z, hz⟩ : ∃ z, pieceB x = z := ⟨_, rfl⟩
      rw [hz] at V
      replace V := Lib.hid V
      cases z
      · have HE := Lib.hid (HB.out (by rw [all_no hx hz]; simp))
        clear hc hx hz HB HO
        go_wp2_with (go_at_call 46; refine (V.out _).mono ?_; rintro e w3 ⟨rfl, h3⟩)
        go_ret
        exact ⟨ret_int HE.out.symm, Ext.trans (Ext.alloc HR.out.2 _) h3⟩
      · have HT := Lib.hid (all_take hx HA.out hz)
        clear hc hx hz
        go_wp2_with (go_at_call 46; refine (V.out _).mono ?_; rintro e w3 ⟨rfl, h3⟩)
        go_roundw
        case rel => exact ⟨k + 1, by omega, by go_num, HT.out, Ext.trans (Ext.alloc HR.out.1 _) h3⟩
        case measure => simp [intOf]; omega
    · have hall := all_end HA.out (show l.pieces.length ≤ k by omega)
      have HP := Lib.hid hall
      have d1 := HR.out.1.cell HD.out.2.1
      have d2 := HR.out.1.cell HD.out.2.2.1
      clear hall
      have HW := Lib.hid (And.intro d1 HR.out.2)
      clear HA HD HR
      go_wp2
      have HD := Lib.hid (And.intro HW.out.2 (And.intro HW.out.1 d2))
      clear HW d1 d2
      generalize wr = W2 at *
      go_loopw [47] (fun i wr => ∃ k : Nat, k ≤ l.eyes.length ∧ i = .int .i64 k ∧ (l.eyes.take k).all eyeB = true ∧ Ext W2 wr) (fun i _ => l.eyes.length - (intOf i).toNat)
      case atStart => exact ⟨0, by omega, rfl, by simp, Ext.refl _⟩
      case round =>
        obtain ⟨k, hk, rfl, ha, hE⟩ := hrel
        have HA := Lib.hid ha
        have HR := Lib.hid (And.intro hE (Ext.trans HD.out.1 hE))
        clear ha hE
        by_cases hlt : k < l.eyes.length
        · obtain ⟨x, hx⟩ := some_of_lt hlt
          obtain ⟨b, off, cs, rfl, _, hr, hc⟩ := (HG.out.ext REye.stable HR.out.2).at hx
          obtain rfl : cs = [.int .i64 x.x, .int .i64 x.y, .int .i64 x.z, .int .i64 x.strength] := hr
          have c0 := hc 0 _ rfl
          have c1 := hc 1 _ rfl
          have c2 := hc 2 _ rfl
          have c3 := hc 3 _ rfl
          simp only [Nat.add_zero] at c0
          have hbl := lt_of_cell c0
          have V := fun w => validEye_c x w
          obtain ⟨z, hz⟩ : ∃ z, eyeB x = z := ⟨_, rfl⟩
          rw [hz] at V
          replace V := Lib.hid V
          cases z
          · have HE := Lib.hid (HB.out (by rw [all_no hx hz]; simp))
            clear hc hx hz HB HO
            go_wp2_with (go_at_call 47; refine (V.out _).mono ?_; rintro e w3 ⟨rfl, h3⟩)
            go_ret
            exact ⟨ret_int HE.out.symm, Ext.trans (Ext.alloc HR.out.2 _) h3⟩
          · have HT := Lib.hid (all_take hx HA.out hz)
            clear hc hx hz
            go_wp2_with (go_at_call 47; refine (V.out _).mono ?_; rintro e w3 ⟨rfl, h3⟩)
            go_roundw
            case rel => exact ⟨k + 1, by omega, by go_num, HT.out, Ext.trans (Ext.alloc HR.out.1 _) h3⟩
            case measure => simp [intOf]; omega
        · have HY := Lib.hid (all_end HA.out (show l.eyes.length ≤ k by omega))
          have d1 := HR.out.1.cell HD.out.2.1
          have hv : ∀ p ∈ l.pieces, pieceB p = true := fun p hp => List.all_eq_true.1 HP.out p hp
          have hn : l.pieces.length ≤ 40 := by have := HM.out; omega
          have T := Lib.hid (fun W (h : Ext w W) => total_c l.pieces _ W (HS.out.ext RPiece.stable h) hv hn)
          have M := fun W => between_c (massN l.pieces) 1 16777216 W
          obtain ⟨z, hz⟩ : ∃ z, inB (massN l.pieces) 1 16777216 = z := ⟨_, rfl⟩
          simp only [hz] at M
          replace M := Lib.hid M
          have HZ := Lib.hid hz
          clear hz hv hn HA
          unfold totalV weightCs at T
          have hfm := fun W => field_mass (massN l.pieces) (momX l.pieces) (momY l.pieces) (momZ l.pieces) W
          cases z
          · have HE := Lib.hid (HB.out (by rw [HZ.out]; simp))
            clear HB HO
            go_wp2_with (first | (go_at_call 42; refine (T.out _ HR.out.2).mono ?_; rintro e w3 ⟨rfl, h3⟩) | (go_at_call 34; refine (M.out _).mono ?_; rintro e w4 ⟨rfl, rfl⟩))
            go_ret
            exact ⟨ret_int HE.out.symm, Ext.trans HR.out.2 h3⟩
          · have HE := Lib.hid (HO.out HN.out HF.out HP.out HY.out HZ.out)
            clear HB HO
            go_wp2_with (first | (go_at_call 42; refine (T.out _ HR.out.2).mono ?_; rintro e w3 ⟨rfl, h3⟩) | (go_at_call 34; refine (M.out _).mono ?_; rintro e w4 ⟨rfl, rfl⟩))
            go_ret
            exact ⟨ret_int HE.out.symm, Ext.trans HR.out.2 h3⟩
end Go.Proofs.Ytkkeblgahbpmmaa
