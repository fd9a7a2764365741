
/- Contracts: div, Mass, Moments. -/
import Derived.Test.YtkkeblgahbpmmaaLCheck
namespace Go.Proofs.Ytkkeblgahbpmmaa
open Go.RowKit

structure LoadOk (l : LLoad) : Prop where
  name : lnameB l.name = true
  n1 : 1 ≤ l.pieces.length
  n2 : l.pieces.length ≤ 32
  m2 : l.eyes.length ≤ 32
  fr : 0 ≤ l.friction ∧ l.friction ≤ 1000
  pieces : ∀ p ∈ l.pieces, pieceB p = true
  eyes : ∀ e ∈ l.eyes, eyeB e = true
  mass : 1 ≤ massN l.pieces ∧ massN l.pieces ≤ 16777216
theorem load_ok {l : LLoad} (h : loadE l = 0) : LoadOk l := by
  unfold loadE at h
  by_cases c : l.pieces.length < 1 ∨ 32 < l.pieces.length ∨ 32 < l.eyes.length
  · rw [if_pos c] at h; omega
  · rw [if_neg c] at h
    split at h
    · rename_i k
      simp only [Bool.and_eq_true] at k
      obtain ⟨k1, k2, k3, k4, k5⟩ := k
      exact ⟨k1, by omega, by omega, by omega, inB_iff.1 k2, fun p hp => List.all_eq_true.1 k3 p hp, fun p hp => List.all_eq_true.1 k4 p hp, inB_iff.1 k5⟩
    · omega
theorem ok_load {l : LLoad} (h : LoadOk l) : loadE l = 0 :=
  loadE_ok (by have := h.n1; have := h.n2; have := h.m2; omega) h.name (inB_iff.2 h.fr) (List.all_eq_true.2 h.pieces) (List.all_eq_true.2 h.eyes) (inB_iff.2 h.mass)
theorem loadE_cases (l : LLoad) : loadE l = 0 ∨ loadE l = 2 ∨ loadE l = 6 := by
  unfold loadE
  split
  · omega
  · split <;> omega
def massR (l : LLoad) : Int := if loadE l = 0 then massN l.pieces else 0
set_option maxHeartbeats 400000 in
theorem div_c (n d : Int) (w : World) (h1 : -9000000000000000000 ≤ n) (h2 : n ≤ 9000000000000000000) (h3 : 1 ≤ d) (h4 : d ≤ 9000000000000000000) :
    Calls Try.prog 43 #[.int .i64 n, .int .i64 d] w fun e w' => e = .returned (.int .i64 (n / d)) ∧ w = w' := by
  have a := (Pl.tdiv_bd n d 9000000000000000000 h3 (by omega) (by omega) (by omega)).1
  have b := (Pl.tdiv_bd n d 9000000000000000000 h3 (by omega) (by omega) (by omega)).2
  go_enter Try.func43, Try.ntmps43
  go_wp2
  · go_ret
    exact ⟨ret_int (Pl.tdiv_of_tmod_neg n d h3 (by omega)), rfl⟩
  · go_ret
    exact ⟨ret_int (Pl.tdiv_of_tmod_nonneg n d h3 (by omega)), rfl⟩
set_option maxRecDepth 100000 in
set_option maxHeartbeats 1600000 in
theorem Mass_c (l : LLoad) (vp ve : Value) (w : World) (hl : IsLoad w l vp ve) :
    Calls Try.prog 17 #[loadV l vp ve] w fun e w' => e = .returned (.tuple #[.int .i64 (massR l), .int .i64 (loadE l)]) ∧ Ext w w' := by
  have C := Lib.hid (fun W (h : Ext w W) => LCheck_c l vp ve W (hl.ext h))
  have hok := @load_ok l
  have hs := hl.pieces
  obtain ⟨A, cap, rfl, hl1, hl2⟩ := hl.pieces.shape
  obtain ⟨B, cbp, rfl, hm1, hm2⟩ := hl.eyes.shape
  clear hl
  unfold massR
  unfold loadV at *
  generalize loadE l = E at *
  by_cases hE : E = 0
  · subst hE
    rw [if_pos rfl]
    have K := hok rfl
    have T := Lib.hid (fun W (h : Ext w W) => total_c l.pieces _ W (hs.ext RPiece.stable h) K.pieces (Nat.le_trans K.n2 (by omega)))
    clear hok hs K
    have hfm := fun W => field_mass (massN l.pieces) (momX l.pieces) (momY l.pieces) (momZ l.pieces) W
    unfold totalV weightCs at T
    go_enter Try.func17, Try.ntmps17
    go_wp2_with (first
      | (go_at_call 21; refine (C.out _ ((Ext.refl w).alloc _)).mono ?_; rintro e w2 ⟨rfl, h2⟩; have d1 := lb_cell (lb_ext (lb_new w _) h2) 1 _ rfl; have e2 := Ext.trans ((Ext.refl w).alloc _) h2; clear h2)
      | (go_at_call 42; refine (T.out _ e2).mono ?_; rintro e w3 ⟨rfl, h3⟩))
    exact bodyPost_ret (v := .tuple #[.int .i64 (massN l.pieces), .int .i64 0]) (by simp [results, Try.results17, go_sem]) rfl ⟨rfl, e2.trans h3⟩
  · rw [if_neg hE]
    clear hok hs
    go_enter Try.func17, Try.ntmps17
    go_wp2_with (go_at_call 21; refine (C.out _ ((Ext.refl w).alloc _)).mono ?_; rintro e w2 ⟨rfl, h2⟩; have e2 := Ext.trans ((Ext.refl w).alloc _) h2; clear h2)
    exact bodyPost_ret (v := .tuple #[.int .i64 0, .int .i64 E]) (by simp [results, Try.results17, go_sem]) rfl ⟨rfl, e2⟩
def momV (l : LLoad) : Value := if loadE l = 0 then .agg #[.int .i64 (momX l.pieces), .int .i64 (momY l.pieces), .int .i64 (momZ l.pieces)] else .agg #[.int .i64 0, .int .i64 0, .int .i64 0]
set_option maxRecDepth 100000 in
set_option maxHeartbeats 1600000 in
theorem Moments_c (l : LLoad) (vp ve : Value) (w : World) (hl : IsLoad w l vp ve) :
    Calls Try.prog 18 #[loadV l vp ve] w fun e w' => e = .returned (.tuple #[momV l, .int .i64 (loadE l)]) ∧ Ext w w' := by
  have C := Lib.hid (fun W (h : Ext w W) => LCheck_c l vp ve W (hl.ext h))
  have hok := @load_ok l
  have hs := hl.pieces
  obtain ⟨A, cap, rfl, hl1, hl2⟩ := hl.pieces.shape
  obtain ⟨B, cbp, rfl, hm1, hm2⟩ := hl.eyes.shape
  clear hl
  unfold momV
  unfold loadV at *
  generalize loadE l = E at *
  by_cases hE : E = 0
  · subst hE
    rw [if_pos rfl]
    have K := hok rfl
    have T := Lib.hid (fun W (h : Ext w W) => total_c l.pieces _ W (hs.ext RPiece.stable h) K.pieces (Nat.le_trans K.n2 (by omega)))
    clear hok hs K
    have hfm := fun W => field_mom (massN l.pieces) (momX l.pieces) (momY l.pieces) (momZ l.pieces) W
    unfold totalV weightCs at T
    go_enter Try.func18, Try.ntmps18
    go_wp2_with (first
      | (go_at_call 21; refine (C.out _ (((Ext.refl w).alloc _).alloc _)).mono ?_; rintro e w2 ⟨rfl, h2⟩; have d1 := lb_cell (lb_ext (lb_alloc (lb_new w _) _) h2) 1 _ rfl; have R2 := lb_ext (lb_new _ _) h2; rw [size_alloc] at R2; have e2 := Ext.trans (((Ext.refl w).alloc _).alloc _) h2; clear h2)
      | (go_at_call 42; refine (T.out _ e2).mono ?_; rintro e w3 ⟨rfl, h3⟩; have R3 := lb_ext R2 h3; have y0 := lb_cell R3 0 _ rfl; have y1 := lb_cell R3 1 _ rfl; have y2 := lb_cell R3 2 _ rfl; have f0 := lb_frz R3 0; have f1 := lb_frz R3 1; have f2 := lb_frz R3 2))
    have e3 := e2.trans h3
    exact bodyPost_ret (v := .tuple #[.agg #[.int .i64 (momX l.pieces), .int .i64 (momY l.pieces), .int .i64 (momZ l.pieces)], .int .i64 0]) (by simp [results, Try.results18, go_sem, y0, y1, y2]) rfl ⟨rfl, ((e3.set (by simp) _).set (by simp) _).set (by simp) _⟩
  · rw [if_neg hE]
    clear hok hs
    go_enter Try.func18, Try.ntmps18
    go_wp2_with (go_at_call 21; refine (C.out _ (((Ext.refl w).alloc _).alloc _)).mono ?_; rintro e w2 ⟨rfl, h2⟩; have R3 := lb_ext (lb_new _ _) h2; rw [size_alloc] at R3; have e2 := Ext.trans (((Ext.refl w).alloc _).alloc _) h2; clear h2; have y0 := lb_cell R3 0 _ rfl; have y1 := lb_cell R3 1 _ rfl; have y2 := lb_cell R3 2 _ rfl; have f0 := lb_frz R3 0; have f1 := lb_frz R3 1; have f2 := lb_frz R3 2)
    exact bodyPost_ret (v := .tuple #[.agg #[.int .i64 0, .int .i64 0, .int .i64 0], .int .i64 E]) (by simp [results, Try.results18, go_sem, y0, y1, y2]) rfl ⟨rfl, ((e2.set (by simp) _).set (by simp) _).set (by simp) _⟩
end Go.Proofs.Ytkkeblgahbpmmaa
