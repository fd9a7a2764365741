
/- Contract: Joined. -/
import Derived.Test.YtkkeblgahbpmmaaLShift
import Derived.Test.YtkkeblgahbpmmaaLConcat
import Derived.Test.YtkkeblgahbpmmaaUntil2
namespace Go.Proofs.Ytkkeblgahbpmmaa
open Go.RowKit

def joinedL (a b : LLoad) : LLoad := ⟨a.name, a.pieces ++ b.pieces, a.eyes ++ b.eyes, min a.friction b.friction⟩
def joinMany (a b : LLoad) : Prop := 32 < a.pieces.length + b.pieces.length ∨ 32 < a.eyes.length + b.eyes.length
/-- what Joined answers -/
def JoinR (a b : LLoad) (base : Nat) (w : World) (e : Ending) (w' : World) : Prop :=
  (¬ loadE a = 0 ∧ e = .returned (.tuple #[zeroV, .int .i64 (loadE a)]) ∧ Ext w w') ∨ (loadE a = 0 ∧ ¬ loadE b = 0 ∧ e = .returned (.tuple #[zeroV, .int .i64 (loadE b)]) ∧ Ext w w') ∨
    (loadE a = 0 ∧ loadE b = 0 ∧ joinMany a b ∧ e = .returned (.tuple #[zeroV, .int .i64 6]) ∧ Ext w w') ∨ (loadE a = 0 ∧ loadE b = 0 ∧ ¬ joinMany a b ∧ ChgR (joinedL a b) base w e w')
theorem mapL_id (l : LLoad) : mapL (fun x => x) (fun x => x) l = l := by
  unfold mapL
  simp
set_option maxRecDepth 100000 in
set_option maxHeartbeats 12800000 in
theorem Joined_c (a b : LLoad) (va wa vb wb : Value) (w : World) (ha : IsLoad w a va wa) (hb : IsLoad w b vb wb) :
    Calls Try.prog 13 #[loadV a va wa, loadV b vb wb] w (JoinR a b w.heap.size w) := by
  have CA := fun W (h : Ext w W) => LCheck_c a va wa W (ha.ext h)
  have CB := fun W (h : Ext w W) => LCheck_c b vb wb W (hb.ext h)
  have hoa := @load_ok a
  have hob := @load_ok b
  have HA := Lib.hid ha
  have HB := Lib.hid hb
  obtain ⟨A1, c1, rfl, _, hc1⟩ := ha.pieces.shape
  obtain ⟨A2, c2, rfl, _, hc2⟩ := ha.eyes.shape
  obtain ⟨B1, d1, rfl, _, hd1⟩ := hb.pieces.shape
  obtain ⟨B2, d2, rfl, _, hd2⟩ := hb.eyes.shape
  clear ha hb
  unfold loadV at *
  generalize hEa : loadE a = Ea at *
  generalize hEb : loadE b = Eb at *
  have HE := Lib.hid (And.intro hEa hEb)
  clear hEa hEb
  replace CA := Lib.hid CA
  replace CB := Lib.hid CB
  have ix0 : ∀ W, (Instr.index 75 (.agg #[.string a.name, .slice A1 a.pieces.length c1, .slice A2 a.eyes.length c2, .int .i64 a.friction, .string b.name, .slice B1 b.pieces.length d1, .slice B2 b.eyes.length d2, .int .i64 b.friction]) (.int .i64 0)).run Try.prog W = .ok (.agg #[.string a.name, .slice A1 a.pieces.length c1, .slice A2 a.eyes.length c2, .int .i64 a.friction]) W := fun _ => by rfl
  have ix1 : ∀ W, (Instr.index 75 (.agg #[.string a.name, .slice A1 a.pieces.length c1, .slice A2 a.eyes.length c2, .int .i64 a.friction, .string b.name, .slice B1 b.pieces.length d1, .slice B2 b.eyes.length d2, .int .i64 b.friction]) (.int .i64 1)).run Try.prog W = .ok (.agg #[.string b.name, .slice B1 b.pieces.length d1, .slice B2 b.eyes.length d2, .int .i64 b.friction]) W := fun _ => by rfl
  go_enter Try.func13, Try.ntmps13
  go_wp2
  have ba := lb_alloc (lb_alloc (lb_new w (.cells #[.string a.name, .slice A1 a.pieces.length c1, .slice A2 a.eyes.length c2, .int .i64 a.friction] 25)) (.cells #[.string b.name, .slice B1 b.pieces.length d1, .slice B2 b.eyes.length d2, .int .i64 b.friction] 25)) (.cells #[.string ⟨#[]⟩, .slice none 0 0, .slice none 0 0, .int .i64 0] 25)
  have bb := lb_alloc (lb_new (w.alloc (.cells #[.string a.name, .slice A1 a.pieces.length c1, .slice A2 a.eyes.length c2, .int .i64 a.friction] 25)) (.cells #[.string b.name, .slice B1 b.pieces.length d1, .slice B2 b.eyes.length d2, .int .i64 b.friction] 25)) (.cells #[.string ⟨#[]⟩, .slice none 0 0, .slice none 0 0, .int .i64 0] 25)
  have br := lb_new ((w.alloc (.cells #[.string a.name, .slice A1 a.pieces.length c1, .slice A2 a.eyes.length c2, .int .i64 a.friction] 25)).alloc (.cells #[.string b.name, .slice B1 b.pieces.length d1, .slice B2 b.eyes.length d2, .int .i64 b.friction] 25)) (.cells #[.string ⟨#[]⟩, .slice none 0 0, .slice none 0 0, .int .i64 0] 25)
  simp only [size_alloc] at bb br
  have e0 : Ext w (((w.alloc (.cells #[.string a.name, .slice A1 a.pieces.length c1, .slice A2 a.eyes.length c2, .int .i64 a.friction] 25)).alloc (.cells #[.string b.name, .slice B1 b.pieces.length d1, .slice B2 b.eyes.length d2, .int .i64 b.friction] 25)).alloc (.cells #[.string ⟨#[]⟩, .slice none 0 0, .slice none 0 0, .int .i64 0] 25)) := (((Ext.refl w).alloc _).alloc _).alloc _
  generalize (((w.alloc (.cells #[.string a.name, .slice A1 a.pieces.length c1, .slice A2 a.eyes.length c2, .int .i64 a.friction] 25)).alloc (.cells #[.string b.name, .slice B1 b.pieces.length d1, .slice B2 b.eyes.length d2, .int .i64 b.friction] 25)).alloc (.cells #[.string ⟨#[]⟩, .slice none 0 0, .slice none 0 0, .int .i64 0] 25)) = W0 at *
  have H0 := Lib.hid (And.intro e0 (And.intro ba (And.intro bb br)))
  clear e0 ba bb br
  go_loopw [12] (fun i wr => ∃ k : Nat, k ≤ 2 ∧ i = .int .i64 k ∧ Ext W0 wr ∧ (1 ≤ k → Ea = 0) ∧ (2 ≤ k → Eb = 0)) (fun i _ => 2 - (intOf i).toNat)
  case atStart => exact ⟨0, by omega, rfl, Ext.refl _, fun h => by omega, fun h => by omega⟩
  case round =>
    obtain ⟨k, hk, rfl, hE0, k1, k2⟩ := hrel
    have R := Lib.hid (And.intro hE0 (Ext.trans H0.out.1 hE0))
    have HK := Lib.hid (And.intro k1 k2)
    clear hE0 k1 k2
    rcases (show k = 0 ∨ k = 1 ∨ k = 2 by omega) with rfl | rfl | rfl
    · clear CB ix1
      by_cases hx : Ea = 0
      · subst hx
        go_wp2_with (go_at_call 21; refine (CA.out _ (Ext.alloc R.out.2 _)).mono ?_; rintro e w5 ⟨rfl, h5⟩)
        exact ⟨⟨1, by omega, by go_num, Ext.trans (Ext.alloc R.out.1 _) h5, (by first | trivial | (intro h; omega) | exact fun _ => HK.out.1 (by omega) | exact HK.out.1 (by omega)), (by first | trivial | (intro h; omega))⟩, by simp [intOf]⟩
      · have HX := Lib.hid hx
        have R3 := lb_ext H0.out.2.2.2 R.out.1; have y0 := lb_cell R3 0 _ rfl; have y1 := lb_cell R3 1 _ rfl; have y2 := lb_cell R3 2 _ rfl; have y3 := lb_cell R3 3 _ rfl; have f0 := lb_frz R3 0; have f1 := lb_frz R3 1; have f2 := lb_frz R3 2; have f3 := lb_frz R3 3
        have hzl := lb_lt R3
        clear R3
        go_wp2_with (go_at_call 21; refine (CA.out _ (Ext.alloc R.out.2 _)).mono ?_; rintro e w5 ⟨rfl, h5⟩; have h6 := Ext.trans ((Ext.refl wr).alloc _) h5; clear f0 f1 f2 f3 y0 y1 y2 y3; have R3 := lb_ext (lb_ext H0.out.2.2.2 R.out.1) h6; have y0 := lb_cell R3 0 _ rfl; have y1 := lb_cell R3 1 _ rfl; have y2 := lb_cell R3 2 _ rfl; have y3 := lb_cell R3 3 _ rfl; have f0 := lb_frz R3 0; have f1 := lb_frz R3 1; have f2 := lb_frz R3 2; have f3 := lb_frz R3 3)
        have e6 := Ext.trans R.out.2 h6
        refine bodyPost_ret (v := .tuple #[zeroV, .int .i64 Ea]) (by simp [results, Try.results13, go_sem, y0, y1, y2, y3, zeroV]) rfl ?_
        exact Or.inl ⟨by rw [HE.out.1]; exact HX.out, by rw [HE.out.1], (((e6.set (by simp; try omega) _).set (by simp; try omega) _).set (by simp; try omega) _).set (by simp; try omega) _⟩
    · clear CA ix0
      by_cases hx : Eb = 0
      · subst hx
        go_wp2_with (go_at_call 21; refine (CB.out _ (Ext.alloc R.out.2 _)).mono ?_; rintro e w5 ⟨rfl, h5⟩)
        exact ⟨⟨2, by omega, by go_num, Ext.trans (Ext.alloc R.out.1 _) h5, (by first | trivial | (intro h; omega) | exact fun _ => HK.out.1 (by omega) | exact HK.out.1 (by omega)), (by first | trivial | (intro h; omega))⟩, by simp [intOf]⟩
      · have HX := Lib.hid hx
        have R3 := lb_ext H0.out.2.2.2 R.out.1; have y0 := lb_cell R3 0 _ rfl; have y1 := lb_cell R3 1 _ rfl; have y2 := lb_cell R3 2 _ rfl; have y3 := lb_cell R3 3 _ rfl; have f0 := lb_frz R3 0; have f1 := lb_frz R3 1; have f2 := lb_frz R3 2; have f3 := lb_frz R3 3
        have hzl := lb_lt R3
        clear R3
        go_wp2_with (go_at_call 21; refine (CB.out _ (Ext.alloc R.out.2 _)).mono ?_; rintro e w5 ⟨rfl, h5⟩; have h6 := Ext.trans ((Ext.refl wr).alloc _) h5; clear f0 f1 f2 f3 y0 y1 y2 y3; have R3 := lb_ext (lb_ext H0.out.2.2.2 R.out.1) h6; have y0 := lb_cell R3 0 _ rfl; have y1 := lb_cell R3 1 _ rfl; have y2 := lb_cell R3 2 _ rfl; have y3 := lb_cell R3 3 _ rfl; have f0 := lb_frz R3 0; have f1 := lb_frz R3 1; have f2 := lb_frz R3 2; have f3 := lb_frz R3 3)
        have e6 := Ext.trans R.out.2 h6
        refine bodyPost_ret (v := .tuple #[zeroV, .int .i64 Eb]) (by simp [results, Try.results13, go_sem, y0, y1, y2, y3, zeroV]) rfl ?_
        exact Or.inr (Or.inl ⟨HE.out.1.trans (HK.out.1 (by omega)), by rw [HE.out.2]; exact HX.out, by rw [HE.out.2], (((e6.set (by simp; try omega) _).set (by simp; try omega) _).set (by simp; try omega) _).set (by simp; try omega) _⟩)
    · obtain rfl := HK.out.1 (by omega)
      obtain rfl := HK.out.2 (by omega)
      clear ix0 ix1 CA CB
      have KA := Lib.hid (hoa rfl)
      have KB := Lib.hid (hob rfl)
      have na := KA.out.n2
      have nb := KB.out.n2
      have ma := KA.out.m2
      have mb := KB.out.m2
      clear hoa hob
      have ba := lb_ext H0.out.2.1 R.out.1
      have bb := lb_ext H0.out.2.2.1 R.out.1
      have br := lb_ext H0.out.2.2.2 R.out.1
      have EW := Lib.hid R.out.2
      clear R H0
      obtain ⟨W3, hW3⟩ : ∃ z : World, z = wr := ⟨_, rfl⟩
      subst hW3
      have a1 := lb_cell ba 1 _ rfl
      have a2 := lb_cell ba 2 _ rfl
      have b1 := lb_cell bb 1 _ rfl
      have b2 := lb_cell bb 2 _ rfl
      have H := Lib.hid (And.intro ba (And.intro bb br))
      have w1 := IntWalk.i64_in ((a.pieces.length : Int) + b.pieces.length) (by omega)
      have w2 := IntWalk.i64_in ((a.eyes.length : Int) + b.eyes.length) (by omega)
      by_cases hm : joinMany a b
      · have HM := Lib.hid hm
        have R3 := br; have y0 := lb_cell R3 0 _ rfl; have y1 := lb_cell R3 1 _ rfl; have y2 := lb_cell R3 2 _ rfl; have y3 := lb_cell R3 3 _ rfl; have f0 := lb_frz R3 0; have f1 := lb_frz R3 1; have f2 := lb_frz R3 2; have f3 := lb_frz R3 3
        clear ba bb br R3
        unfold joinMany at hm
        rcases (show (32 : Int) < (a.pieces.length : Int) + b.pieces.length ∨ (¬ (32 : Int) < (a.pieces.length : Int) + b.pieces.length ∧ (32 : Int) < (a.eyes.length : Int) + b.eyes.length) by omega) with g1 | ⟨g1, g2⟩
        all_goals
          clear hm
          go_wp2
          refine bodyPost_ret (v := .tuple #[zeroV, .int .i64 6]) (by simp [results, Try.results13, go_sem, y0, y1, y2, y3, zeroV]) rfl ?_
          have e6 := EW.out
          exact Or.inr (Or.inr (Or.inl ⟨HE.out.1, HE.out.2, HM.out, rfl, (((e6.set (by simp; try omega) _).set (by simp; try omega) _).set (by simp; try omega) _).set (by simp; try omega) _⟩))
      · have HM := Lib.hid hm
        unfold joinMany at hm
        have g1 : ¬ (32 : Int) < (a.pieces.length : Int) + b.pieces.length := by omega
        have g2 : ¬ (32 : Int) < (a.eyes.length : Int) + b.eyes.length := by omega
        clear ba bb br hm
        go_upto_region 10 with fail
        have CP := Lib.hid (fun W (p : Nat) (h : Ext W3 W) h1 h2 => concatPiece_c p (.slice A1 a.pieces.length c1) (.slice B1 b.pieces.length d1) a.pieces b.pieces W (HA.out.ext (EW.out.trans h)).pieces (HB.out.ext (EW.out.trans h)).pieces h1 h2 (by omega) (by omega))
        have CE := Lib.hid (fun W (p : Nat) (h : Ext W3 W) h1 h2 => concatEye_c p (.slice A2 a.eyes.length c2) (.slice B2 b.eyes.length d2) a.eyes b.eyes W (HA.out.ext (EW.out.trans h)).eyes (HB.out.ext (EW.out.trans h)).eyes h1 h2 (by omega) (by omega))
        have f1 := lb_frz H.out.1 1
        have f2 := lb_frz H.out.1 2
        have hlt := lb_lt H.out.2.2
        have hltA := lb_lt H.out.1
        have hltB := lb_lt H.out.2.1
        go_cut [] from 41 to 54 (fun wc => ∃ (X1 X2 : Option Addr) (x1 x2 : Nat), wc.heap[w.heap.size]? = some (.cells #[.string a.name, .slice X1 (a.pieces.length + b.pieces.length) x1, .slice X2 (a.eyes.length + b.eyes.length) x2, .int .i64 a.friction] 25 (0, 0)) ∧ wc.heap[w.heap.size + 1]? = some (.cells #[.string b.name, .slice B1 b.pieces.length d1, .slice B2 b.eyes.length d2, .int .i64 b.friction] 25 (0, 0)) ∧ wc.heap[w.heap.size + 1 + 1]? = some (.cells #[.string ⟨#[]⟩, .slice none 0 0, .slice none 0 0, .int .i64 0] 25 (0, 0)) ∧ Ext w wc ∧ OwnLoad (w.heap.size + 3) wc ⟨a.name, a.pieces ++ b.pieces, a.eyes ++ b.eyes, a.friction⟩ (.slice X1 (a.pieces.length + b.pieces.length) x1) (.slice X2 (a.eyes.length + b.eyes.length) x2))
        case first =>
          have ED : Ext W3 W3.drew := (Ext.refl W3).drew
          refine end_region (fun i => i == 13) (S := (fun w' => w'.cell? ⟨w.heap.size, 1, none⟩ = some (.slice A1 a.pieces.length c1) ∧ w'.cell? ⟨w.heap.size, 2, none⟩ = some (.slice A2 a.eyes.length c2) ∧ w'.cell? ⟨w.heap.size + 1, 1, none⟩ = some (.slice B1 b.pieces.length d1) ∧ w'.cell? ⟨w.heap.size + 1, 2, none⟩ = some (.slice B2 b.eyes.length d2))) (by kernel_rfl) ⟨a1, a2, b1, b2⟩ (fun hS => ?_)
          have HSE : RowKit.Hid (∀ W W' : World, Ext W W' → (W.cell? ⟨w.heap.size, 1, none⟩ = some (.slice A1 a.pieces.length c1) ∧ W.cell? ⟨w.heap.size, 2, none⟩ = some (.slice A2 a.eyes.length c2) ∧ W.cell? ⟨w.heap.size + 1, 1, none⟩ = some (.slice B1 b.pieces.length d1) ∧ W.cell? ⟨w.heap.size + 1, 2, none⟩ = some (.slice B2 b.eyes.length d2)) → (W'.cell? ⟨w.heap.size, 1, none⟩ = some (.slice A1 a.pieces.length c1) ∧ W'.cell? ⟨w.heap.size, 2, none⟩ = some (.slice A2 a.eyes.length c2) ∧ W'.cell? ⟨w.heap.size + 1, 1, none⟩ = some (.slice B1 b.pieces.length d1) ∧ W'.cell? ⟨w.heap.size + 1, 2, none⟩ = some (.slice B2 b.eyes.length d2))) := Lib.hid (fun W W' he ⟨s0, s1, s2, s3⟩ => ⟨he.cell s0, he.cell s1, he.cell s2, he.cell s3⟩)
          generalize W3.drew = wd at *
          clear a1 a2 b1 b2 f1 f2
          refine end_take (i := 0) (v := ?_) rfl (by kernel_rfl) (by kernel_rfl) (by kernel_rfl) (by kernel_rfl) (by kernel_rfl) (fun _ _ _ h => h) (Or.inl ⟨by rfl, ?_⟩) (by assumption) ?_
          rotate_left
          · (intro w hSw; (try dsimp only at hSw); go_simp; (first | done | with_reducible rfl))
          simp only [Act.put, List.setIfInBounds_toArray, List.set_cons_zero, List.set_cons_succ]
          refine end_take (i := 1) (v := ?_) rfl (by kernel_rfl) (by kernel_rfl) (by kernel_rfl) (by kernel_rfl) (by kernel_rfl) (fun _ _ _ h => h) (Or.inl ⟨by rfl, ?_⟩) (by assumption) ?_
          rotate_left
          · (intro w hSw; (try dsimp only at hSw); go_simp; (first | done | with_reducible rfl))
          simp only [Act.put, List.setIfInBounds_toArray, List.set_cons_zero, List.set_cons_succ]
          refine end_take (i := 2) (v := ?_) rfl (by kernel_rfl) (by kernel_rfl) (by kernel_rfl) (by kernel_rfl) (by kernel_rfl) (fun _ _ _ h => h) (Or.inl ⟨by rfl, ?_⟩) (by assumption) ?_
          rotate_left
          · (intro w hSw; (try dsimp only at hSw); go_simp; (first | done | with_reducible rfl))
          simp only [Act.put, List.setIfInBounds_toArray, List.set_cons_zero, List.set_cons_succ]
          refine end_take (i := 3) (v := ?_) rfl (by kernel_rfl) (by kernel_rfl) (by kernel_rfl) (by kernel_rfl) (by kernel_rfl) (fun _ _ _ h => h) (Or.inl ⟨by rfl, ?_⟩) (by assumption) ?_
          rotate_left
          · (intro w hSw; (try dsimp only at hSw); go_simp; (first | done | with_reducible rfl))
          simp only [Act.put, List.setIfInBounds_toArray, List.set_cons_zero, List.set_cons_succ]
          refine end_take (i := 6) (v := ?_) rfl (by kernel_rfl) (by kernel_rfl) (by kernel_rfl) (by kernel_rfl) (by kernel_rfl) (fun _ _ _ h => h) (Or.inl ⟨by rfl, ?_⟩) (by assumption) ?_
          rotate_left
          · (intro w hSw; (try dsimp only at hSw); go_simp; (first | done | with_reducible rfl))
          simp only [Act.put, List.setIfInBounds_toArray, List.set_cons_zero, List.set_cons_succ]
          refine end_take (i := 7) (v := ?_) rfl (by kernel_rfl) (by kernel_rfl) (by kernel_rfl) (by kernel_rfl) (by kernel_rfl) (fun _ _ _ h => h) (Or.inl ⟨by rfl, ?_⟩) (by assumption) ?_
          rotate_left
          · (intro w hSw; (try dsimp only at hSw); go_simp; (first | done | with_reducible rfl))
          simp only [Act.put, List.setIfInBounds_toArray, List.set_cons_zero, List.set_cons_succ]
          refine end_take (i := 8) (v := ?_) rfl (by kernel_rfl) (by kernel_rfl) (by kernel_rfl) (by kernel_rfl) (by kernel_rfl) (fun _ _ _ h => h) (Or.inl ⟨by rfl, ?_⟩) (by assumption) ?_
          rotate_left
          · (intro w hSw; (try dsimp only at hSw); go_simp; (first | done | with_reducible rfl))
          simp only [Act.put, List.setIfInBounds_toArray, List.set_cons_zero, List.set_cons_succ]
          refine end_take (i := 9) (v := ?_) rfl (by kernel_rfl) (by kernel_rfl) (by kernel_rfl) (by kernel_rfl) (by kernel_rfl) (fun _ _ _ h => h) (Or.inl ⟨by rfl, ?_⟩) (by assumption) ?_
          rotate_left
          · (intro w hSw; (try dsimp only at hSw); go_simp; (first | done | with_reducible rfl))
          simp only [Act.put, List.setIfInBounds_toArray, List.set_cons_zero, List.set_cons_succ]
          have EC := ED
          refine end_two (i := 4) (k := 10) rfl rfl (by kernel_rfl) (by rfl) (by rfl) (fun K hK => ?_) (fun K hK => ?_)
          · go_simp
            have x4 : Ext wd (wd.alloc (.cells #[.slice A1 a.pieces.length c1, .slice B1 b.pieces.length d1] 22)) := (Ext.refl _).alloc _
            have N4 := lb_new wd (.cells #[.slice A1 a.pieces.length c1, .slice B1 b.pieces.length d1] 22)
            refine hK.out _ _ (HSE.out _ _ x4 hS) (fun hS => ?_)
            replace EC := EC.trans x4
            generalize wd.alloc (.cells #[.slice A1 a.pieces.length c1, .slice B1 b.pieces.length d1] 22) = wv4 at *
            refine end_two (i := 5) (k := 10) rfl rfl (by kernel_rfl) (by rfl) (by rfl) (fun K hK => ?_) (fun K hK => ?_)
            · go_simp
              go_at_call 38
              refine (CP.out _ _ EC (lb_cell N4 0 _ rfl) (lb_cell N4 1 _ rfl)).mono ?_
              rintro e wv5 ⟨v1, rfl, o1, h5⟩
              obtain ⟨X1, x1, rfl, _, _⟩ := o1.shape
              simp only [List.length_append] at o1
              replace o1 := o1.down EC.size
              go_simp
              refine hK.out _ _ (HSE.out _ _ h5 hS) (fun hS => ?_)
              replace N4 := lb_ext N4 h5
              replace EC := EC.trans h5
              refine end_takeY (i := 12) (v := ?_) rfl (by kernel_rfl) (by kernel_rfl) (by kernel_rfl) (by rfl) (fun _ _ _ h => h) (Or.inl ⟨by rfl, ?_⟩) (by assumption) ?_
              rotate_left
              · (intro w; go_simp; (first | done | with_reducible rfl))
              simp only [Act.put, List.setIfInBounds_toArray, List.set_cons_zero, List.set_cons_succ]
              refine end_one (i := 10) rfl (by kernel_rfl) (by rfl) (fun K hK => ?_)
              go_simp
              have x10 : Ext wv5 (wv5.alloc (.cells #[.slice A2 a.eyes.length c2, .slice B2 b.eyes.length d2] 23)) := (Ext.refl _).alloc _
              have N10 := lb_new wv5 (.cells #[.slice A2 a.eyes.length c2, .slice B2 b.eyes.length d2] 23)
              refine hK.out _ _ (HSE.out _ _ x10 hS) (fun hS => ?_)
              replace N4 := lb_ext N4 x10
              replace o1 := o1.ext x10
              replace EC := EC.trans x10
              generalize wv5.alloc (.cells #[.slice A2 a.eyes.length c2, .slice B2 b.eyes.length d2] 23) = wv10 at *
              refine end_one (i := 11) rfl (by kernel_rfl) (by rfl) (fun K hK => ?_)
              go_simp
              go_at_call 39
              refine (CE.out _ _ EC (lb_cell N10 0 _ rfl) (lb_cell N10 1 _ rfl)).mono ?_
              rintro e wv11 ⟨v2, rfl, o2, h11⟩
              obtain ⟨X2, x2, rfl, _, _⟩ := o2.shape
              simp only [List.length_append] at o2
              have hne : ∀ g, (Value.slice X1 (a.pieces.length + b.pieces.length) x1).ownBlock = some g → (Value.slice X2 (a.eyes.length + b.eyes.length) x2).ownBlock ≠ some g := fun g hg hg2 => by have := own_lt o1 hg; have := own_lt o2 hg2; omega
              replace o2 := o2.down EC.size
              go_simp
              refine hK.out _ _ (HSE.out _ _ h11 hS) (fun hS => ?_)
              replace o1 := o1.ext h11
              replace EC := EC.trans h11
              have f1 := lb_frz (lb_ext H.out.1 EC) 1
              have f2 := lb_frz (lb_ext H.out.1 EC) 2
              have g1 := hS.1
              have g2 := hS.2.1
              refine end_only (i := 13) rfl (by kernel_rfl) (by rfl) (fun K hK => ?_)
              go_simp
              refine hK.out _ _ ?_
              refine eany_one (i := 14) rfl (by kernel_rfl) (fun K hK => ?_)
              go_simp
              refine hK.out _ _ ?_
              refine eany_one (i := 15) rfl (by kernel_rfl) (fun K hK => ?_)
              go_simp
              refine hK.out _ _ ?_
              refine eany_done (by kernel_rfl) ?_ _
              have B3 := lb_set 2 (.slice X2 (a.eyes.length + b.eyes.length) x2) (lb_set 1 (.slice X1 (a.pieces.length + b.pieces.length) x1) (lb_ext H.out.1 EC))
              simp only [List.setIfInBounds_toArray, List.set_cons_zero, List.set_cons_succ] at B3
              have hz3 : w.heap.size + 3 ≤ W3.heap.size := by omega
              go_wp2_with fail
              go_meet
              exact ⟨X1, X2, x1, x2, B3, lb_old (lb_old (lb_ext H.out.2.1 EC) (by omega)) (by omega), lb_old (lb_old (lb_ext H.out.2.2 EC) (by omega)) (by omega), ((EW.out.trans EC).set (Nat.le_refl _) _).set (Nat.le_refl _) _, ((o1.down hz3).other (by omega) _).other (by omega) _, ((o2.down hz3).other (by omega) _).other (by omega) _, hne⟩
            · go_simp
              have x10 : Ext wv4 (wv4.alloc (.cells #[.slice A2 a.eyes.length c2, .slice B2 b.eyes.length d2] 23)) := (Ext.refl _).alloc _
              have N10 := lb_new wv4 (.cells #[.slice A2 a.eyes.length c2, .slice B2 b.eyes.length d2] 23)
              refine hK.out _ _ (HSE.out _ _ x10 hS) (fun hS => ?_)
              replace N4 := lb_ext N4 x10
              replace EC := EC.trans x10
              generalize wv4.alloc (.cells #[.slice A2 a.eyes.length c2, .slice B2 b.eyes.length d2] 23) = wv10 at *
              refine end_one (i := 5) rfl (by kernel_rfl) (by rfl) (fun K hK => ?_)
              go_simp
              go_at_call 38
              refine (CP.out _ _ EC (lb_cell N4 0 _ rfl) (lb_cell N4 1 _ rfl)).mono ?_
              rintro e wv5 ⟨v1, rfl, o1, h5⟩
              obtain ⟨X1, x1, rfl, _, _⟩ := o1.shape
              simp only [List.length_append] at o1
              replace o1 := o1.down EC.size
              go_simp
              refine hK.out _ _ (HSE.out _ _ h5 hS) (fun hS => ?_)
              replace N4 := lb_ext N4 h5
              replace N10 := lb_ext N10 h5
              replace EC := EC.trans h5
              refine end_takeY (i := 12) (v := ?_) rfl (by kernel_rfl) (by kernel_rfl) (by kernel_rfl) (by rfl) (fun _ _ _ h => h) (Or.inl ⟨by rfl, ?_⟩) (by assumption) ?_
              rotate_left
              · (intro w; go_simp; (first | done | with_reducible rfl))
              simp only [Act.put, List.setIfInBounds_toArray, List.set_cons_zero, List.set_cons_succ]
              refine end_one (i := 11) rfl (by kernel_rfl) (by rfl) (fun K hK => ?_)
              go_simp
              go_at_call 39
              refine (CE.out _ _ EC (lb_cell N10 0 _ rfl) (lb_cell N10 1 _ rfl)).mono ?_
              rintro e wv11 ⟨v2, rfl, o2, h11⟩
              obtain ⟨X2, x2, rfl, _, _⟩ := o2.shape
              simp only [List.length_append] at o2
              have hne : ∀ g, (Value.slice X1 (a.pieces.length + b.pieces.length) x1).ownBlock = some g → (Value.slice X2 (a.eyes.length + b.eyes.length) x2).ownBlock ≠ some g := fun g hg hg2 => by have := own_lt o1 hg; have := own_lt o2 hg2; omega
              replace o2 := o2.down EC.size
              go_simp
              refine hK.out _ _ (HSE.out _ _ h11 hS) (fun hS => ?_)
              replace o1 := o1.ext h11
              replace EC := EC.trans h11
              have f1 := lb_frz (lb_ext H.out.1 EC) 1
              have f2 := lb_frz (lb_ext H.out.1 EC) 2
              have g1 := hS.1
              have g2 := hS.2.1
              refine end_only (i := 13) rfl (by kernel_rfl) (by rfl) (fun K hK => ?_)
              go_simp
              refine hK.out _ _ ?_
              refine eany_one (i := 14) rfl (by kernel_rfl) (fun K hK => ?_)
              go_simp
              refine hK.out _ _ ?_
              refine eany_one (i := 15) rfl (by kernel_rfl) (fun K hK => ?_)
              go_simp
              refine hK.out _ _ ?_
              refine eany_done (by kernel_rfl) ?_ _
              have B3 := lb_set 2 (.slice X2 (a.eyes.length + b.eyes.length) x2) (lb_set 1 (.slice X1 (a.pieces.length + b.pieces.length) x1) (lb_ext H.out.1 EC))
              simp only [List.setIfInBounds_toArray, List.set_cons_zero, List.set_cons_succ] at B3
              have hz3 : w.heap.size + 3 ≤ W3.heap.size := by omega
              go_wp2_with fail
              go_meet
              exact ⟨X1, X2, x1, x2, B3, lb_old (lb_old (lb_ext H.out.2.1 EC) (by omega)) (by omega), lb_old (lb_old (lb_ext H.out.2.2 EC) (by omega)) (by omega), ((EW.out.trans EC).set (Nat.le_refl _) _).set (Nat.le_refl _) _, ((o1.down hz3).other (by omega) _).other (by omega) _, ((o2.down hz3).other (by omega) _).other (by omega) _, hne⟩
          · go_simp
            have x10 : Ext wd (wd.alloc (.cells #[.slice A2 a.eyes.length c2, .slice B2 b.eyes.length d2] 23)) := (Ext.refl _).alloc _
            have N10 := lb_new wd (.cells #[.slice A2 a.eyes.length c2, .slice B2 b.eyes.length d2] 23)
            refine hK.out _ _ (HSE.out _ _ x10 hS) (fun hS => ?_)
            replace EC := EC.trans x10
            generalize wd.alloc (.cells #[.slice A2 a.eyes.length c2, .slice B2 b.eyes.length d2] 23) = wv10 at *
            refine end_one (i := 4) rfl (by kernel_rfl) (by rfl) (fun K hK => ?_)
            go_simp
            have x4 : Ext wv10 (wv10.alloc (.cells #[.slice A1 a.pieces.length c1, .slice B1 b.pieces.length d1] 22)) := (Ext.refl _).alloc _
            have N4 := lb_new wv10 (.cells #[.slice A1 a.pieces.length c1, .slice B1 b.pieces.length d1] 22)
            refine hK.out _ _ (HSE.out _ _ x4 hS) (fun hS => ?_)
            replace N10 := lb_ext N10 x4
            replace EC := EC.trans x4
            generalize wv10.alloc (.cells #[.slice A1 a.pieces.length c1, .slice B1 b.pieces.length d1] 22) = wv4 at *
            refine end_one (i := 5) rfl (by kernel_rfl) (by rfl) (fun K hK => ?_)
            go_simp
            go_at_call 38
            refine (CP.out _ _ EC (lb_cell N4 0 _ rfl) (lb_cell N4 1 _ rfl)).mono ?_
            rintro e wv5 ⟨v1, rfl, o1, h5⟩
            obtain ⟨X1, x1, rfl, _, _⟩ := o1.shape
            simp only [List.length_append] at o1
            replace o1 := o1.down EC.size
            go_simp
            refine hK.out _ _ (HSE.out _ _ h5 hS) (fun hS => ?_)
            replace N10 := lb_ext N10 h5
            replace N4 := lb_ext N4 h5
            replace EC := EC.trans h5
            refine end_takeY (i := 12) (v := ?_) rfl (by kernel_rfl) (by kernel_rfl) (by kernel_rfl) (by rfl) (fun _ _ _ h => h) (Or.inl ⟨by rfl, ?_⟩) (by assumption) ?_
            rotate_left
            · (intro w; go_simp; (first | done | with_reducible rfl))
            simp only [Act.put, List.setIfInBounds_toArray, List.set_cons_zero, List.set_cons_succ]
            refine end_one (i := 11) rfl (by kernel_rfl) (by rfl) (fun K hK => ?_)
            go_simp
            go_at_call 39
            refine (CE.out _ _ EC (lb_cell N10 0 _ rfl) (lb_cell N10 1 _ rfl)).mono ?_
            rintro e wv11 ⟨v2, rfl, o2, h11⟩
            obtain ⟨X2, x2, rfl, _, _⟩ := o2.shape
            simp only [List.length_append] at o2
            have hne : ∀ g, (Value.slice X1 (a.pieces.length + b.pieces.length) x1).ownBlock = some g → (Value.slice X2 (a.eyes.length + b.eyes.length) x2).ownBlock ≠ some g := fun g hg hg2 => by have := own_lt o1 hg; have := own_lt o2 hg2; omega
            replace o2 := o2.down EC.size
            go_simp
            refine hK.out _ _ (HSE.out _ _ h11 hS) (fun hS => ?_)
            replace o1 := o1.ext h11
            replace EC := EC.trans h11
            have f1 := lb_frz (lb_ext H.out.1 EC) 1
            have f2 := lb_frz (lb_ext H.out.1 EC) 2
            have g1 := hS.1
            have g2 := hS.2.1
            refine end_only (i := 13) rfl (by kernel_rfl) (by rfl) (fun K hK => ?_)
            go_simp
            refine hK.out _ _ ?_
            refine eany_one (i := 14) rfl (by kernel_rfl) (fun K hK => ?_)
            go_simp
            refine hK.out _ _ ?_
            refine eany_one (i := 15) rfl (by kernel_rfl) (fun K hK => ?_)
            go_simp
            refine hK.out _ _ ?_
            refine eany_done (by kernel_rfl) ?_ _
            have B3 := lb_set 2 (.slice X2 (a.eyes.length + b.eyes.length) x2) (lb_set 1 (.slice X1 (a.pieces.length + b.pieces.length) x1) (lb_ext H.out.1 EC))
            simp only [List.setIfInBounds_toArray, List.set_cons_zero, List.set_cons_succ] at B3
            have hz3 : w.heap.size + 3 ≤ W3.heap.size := by omega
            go_wp2_with fail
            go_meet
            exact ⟨X1, X2, x1, x2, B3, lb_old (lb_old (lb_ext H.out.2.1 EC) (by omega)) (by omega), lb_old (lb_old (lb_ext H.out.2.2 EC) (by omega)) (by omega), ((EW.out.trans EC).set (Nat.le_refl _) _).set (Nat.le_refl _) _, ((o1.down hz3).other (by omega) _).other (by omega) _, ((o2.down hz3).other (by omega) _).other (by omega) _, hne⟩
        case rest =>
          obtain ⟨X1, X2, x1, x2, b3, bb3, r3, e3, o3⟩ := hcut
          clear a1 a2 b1 b2 f1 f2 CP CE
          have p3 := lb_cell b3 3 _ rfl
          have q3 := lb_cell bb3 3 _ rfl
          have f3 := lb_frz b3 3
          have HR := Lib.hid (And.intro b3 (And.intro r3 (And.intro e3 o3)))
          clear b3 bb3 r3 e3 o3
          go_upto_region 12 with fail
          have b4 := lb_set 3 (.int .i64 (min a.friction b.friction)) HR.out.1
          simp only [List.setIfInBounds_toArray, List.set_cons_zero, List.set_cons_succ] at b4
          have r4 := lb_old (i := 3) (u := .int .i64 (min a.friction b.friction)) HR.out.2.1 (show w.heap.size + 1 + 1 ≠ w.heap.size by omega)
          have e4 := HR.out.2.2.1.set (p := ⟨w.heap.size, 3, none⟩) (Nat.le_refl _) (.int .i64 (min a.friction b.friction))
          have o4 : OwnLoad (w.heap.size + 3) (wc.setCell ⟨w.heap.size, 3, none⟩ (.int .i64 (min a.friction b.friction))) (joinedL a b) _ _ := ⟨HR.out.2.2.2.pieces.other (by omega) _, HR.out.2.2.2.eyes.other (by omega) _, HR.out.2.2.2.ne⟩
          clear p3 q3 f3 HR
          generalize (wc.setCell ⟨w.heap.size, 3, none⟩ (.int .i64 (min a.friction b.friction))) = W5 at *
          have s0 := lb_cell b4 0 _ rfl
          have s1 := lb_cell b4 1 _ rfl
          have s2 := lb_cell b4 2 _ rfl
          have s3 := lb_cell b4 3 _ rfl
          have j1 : ∀ args w, (callFunc 40 args).run Try.prog w = .ok (.enter 40 args) w := enters_of Try.func40 (by kernel_rfl) rfl
          have j2 : ∀ args w, (callFunc 41 args).run Try.prog w = .ok (.enter 41 args) w := enters_of Try.func41 (by kernel_rfl) rfl
          have G := changed_c (joinedL a b) _ _ W5 o4.is 40 41 #[] #[] (fun x => x) (fun x => x) (fun _ => True) (fun _ => True) (joined1_c W5 _) (joined2_c W5 _) (fun _ _ => trivial) (fun _ _ => trivial) (by show (a.pieces ++ b.pieces).length ≤ 1000; rw [List.length_append]; omega) (by show (a.eyes ++ b.eyes).length ≤ 1000; rw [List.length_append]; omega) j1 j2
          rw [mapL_id] at G
          unfold loadV ChgR at G
          simp only [loadV] at G
          have HG := Lib.hid G
          have H5 := Lib.hid (And.intro r4 e4)
          clear G j1 j2 b4 r4 e4 o4
          by_cases h9 : loadE (joinedL a b) = 0
          · have H9 := Lib.hid h9
            clear h9
            go_wp2_with (go_at_call 29; refine HG.out.mono ?_; rintro e w5 ⟨h5, ⟨_, v1, v2, rfl, o5⟩ | ⟨h0, _⟩⟩; rotate_left; exact absurd H9.out h0; obtain ⟨A5, c5, rfl, _, _⟩ := o5.pieces.shape; obtain ⟨A6, c6, rfl, _, _⟩ := o5.eyes.shape; have e5 := Ext.trans H5.out.2 h5; have R3 := lb_ext H5.out.1 h5; have y0 := lb_cell R3 0 _ rfl; have y1 := lb_cell R3 1 _ rfl; have y2 := lb_cell R3 2 _ rfl; have y3 := lb_cell R3 3 _ rfl; have f0 := lb_frz R3 0; have f1 := lb_frz R3 1; have f2 := lb_frz R3 2; have f3 := lb_frz R3 3)
            refine bodyPost_ret (v := .tuple #[.agg #[.string (joinedL a b).name, .slice A5 (joinedL a b).pieces.length c5, .slice A6 (joinedL a b).eyes.length c6, .int .i64 (joinedL a b).friction], .int .i64 0]) (by simp [results, Try.results13, go_sem, y0, y1, y2, y3]) rfl ?_
            have hz := H5.out.2.size
            have hlt' := lb_lt H5.out.1
            refine Or.inr (Or.inr (Or.inr ⟨HE.out.1, HE.out.2, HM.out, (((e5.set (by simp; try omega) _).set (by simp; try omega) _).set (by simp; try omega) _).set (by simp; try omega) _, .inl ⟨H9.out, _, _, rfl, OwnLoad.down (base := W5.heap.size) ⟨?_, ?_, o5.ne⟩ hz⟩⟩))
            · exact (((o5.pieces.other (by omega) _).other (by omega) _).other (by omega) _).other (by omega) _
            · exact (((o5.eyes.other (by omega) _).other (by omega) _).other (by omega) _).other (by omega) _
          · have H9 := Lib.hid h9
            clear h9
            go_wp2_with (go_at_call 29; refine HG.out.mono ?_; rintro e w5 ⟨h5, ⟨h0, _⟩ | ⟨_, rfl⟩⟩; exact absurd h0 H9.out; unfold zeroV; have e5 := Ext.trans H5.out.2 h5; have R3 := lb_ext H5.out.1 h5; have y0 := lb_cell R3 0 _ rfl; have y1 := lb_cell R3 1 _ rfl; have y2 := lb_cell R3 2 _ rfl; have y3 := lb_cell R3 3 _ rfl; have f0 := lb_frz R3 0; have f1 := lb_frz R3 1; have f2 := lb_frz R3 2; have f3 := lb_frz R3 3)
            refine bodyPost_ret (v := .tuple #[zeroV, .int .i64 4]) (by simp [results, Try.results13, go_sem, y0, y1, y2, y3, zeroV]) rfl ?_
            exact Or.inr (Or.inr (Or.inr ⟨HE.out.1, HE.out.2, HM.out, (((e5.set (by simp; try omega) _).set (by simp; try omega) _).set (by simp; try omega) _).set (by simp; try omega) _, .inr ⟨H9.out, rfl⟩⟩))
end Go.Proofs.Ytkkeblgahbpmmaa
