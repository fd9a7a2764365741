
/- Contracts: Turned and Shifted. -/
import Derived.Test.YtkkeblgahbpmmaaLChg
namespace Go.Proofs.Ytkkeblgahbpmmaa
open Go.RowKit

theorem and_three (q : Int) : bits .and .i64 q 3 = q % 4 := by
  have e : bits .and .i64 q 3 = IntKind.i64.wrap (((BitVec.ofInt 64 q) &&& (BitVec.ofInt 64 3)).toNat : Nat) := rfl
  have h3 : (BitVec.ofInt 64 3).toNat = 3 := rfl
  have h4 : ((BitVec.ofInt 64 q).toNat : Int) = q % 18446744073709551616 := by
    rw [BitVec.toNat_ofInt]
    simp
    omega
  rw [e, BitVec.toNat_and, h3, show (3 : Nat) = 2 ^ 2 - 1 from rfl, Nat.and_two_pow_sub_one_eq_mod, IntWalk.i64_in _ (by omega)]
  omega
/-- what a change of a load answers -/
def MayR (l l' : LLoad) (base : Nat) (w : World) (e : Ending) (w' : World) : Prop :=
  (¬ loadE l = 0 ∧ e = .returned (.tuple #[zeroV, .int .i64 (loadE l)]) ∧ Ext w w') ∨ (loadE l = 0 ∧ ChgR l' base w e w')
def turnedL (q : Int) (l : LLoad) : LLoad := mapL (turnL (q % 4).toNat) (turnM (q % 4).toNat) l
theorem turnL_mass (p : LPiece) : ∀ n, (turnL n p).mass = p.mass
  | 0 => rfl
  | n + 1 => turnL_mass p n
theorem mass_map {f : LPiece → LPiece} (h : ∀ p, (f p).mass = p.mass) (l : List LPiece) : massN (l.map f) = massN l := by
  unfold massN
  rw [List.map_map]
  congr 1
  exact List.map_congr_left (fun p _ => h p)
theorem turned_ok {l : LLoad} (h : LoadOk l) (q : Int) : LoadOk (turnedL q l) := by
  refine ⟨h.name, ?_, ?_, ?_, h.fr, ?_, ?_, ?_⟩
  · show 1 ≤ (l.pieces.map _).length; rw [List.length_map]; exact h.n1
  · show (l.pieces.map _).length ≤ 32; rw [List.length_map]; exact h.n2
  · show (l.eyes.map _).length ≤ 32; rw [List.length_map]; exact h.m2
  · intro p hp
    obtain ⟨x, hx, rfl⟩ := List.mem_map.1 hp
    exact turn_ok (h.pieces x hx) _
  · intro p hp
    obtain ⟨x, hx, rfl⟩ := List.mem_map.1 hp
    exact turnE_ok (h.eyes x hx) _
  · show 1 ≤ massN (l.pieces.map _) ∧ massN (l.pieces.map _) ≤ _
    rw [mass_map (fun p => turnL_mass p _)]
    exact h.mass
set_option maxRecDepth 100000 in
set_option maxHeartbeats 6400000 in
theorem Turned_c (l : LLoad) (vp ve : Value) (q : Int) (w : World) (hl : IsLoad w l vp ve) :
    Calls Try.prog 9 #[loadV l vp ve, .int .i64 q] w (MayR l (turnedL q l) w.heap.size w) := by
  have C := Lib.hid (fun W (h : Ext w W) => LCheck_c l vp ve W (hl.ext h))
  have hok := @load_ok l
  have hq := and_three q
  have HL := Lib.hid hl
  obtain ⟨A, cap, rfl, hl1, hl2⟩ := hl.pieces.shape
  obtain ⟨B, cbp, rfl, hm1, hm2⟩ := hl.eyes.shape
  clear hl
  unfold MayR
  unfold loadV at *
  generalize loadE l = E at *
  by_cases hE : E = 0
  · subst hE
    have K := Lib.hid (hok rfl)
    clear hok
    have k9 := ok_load (turned_ok K.out q)
    have hN : (q % 4).toNat ≤ 3 := by omega
    have hcast : ((q % 4).toNat : Int) = q % 4 := by omega
    unfold turnedL at *
    generalize (q % 4).toNat = N at *
    rw [← hcast] at hq
    clear hcast
    have e1 : ∀ args w, (callFunc 30 args).run Try.prog w = .ok (.enter 30 args) w := enters_of Try.func30 (by kernel_rfl) rfl
    have e2 : ∀ args w, (callFunc 31 args).run Try.prog w = .ok (.enter 31 args) w := enters_of Try.func31 (by kernel_rfl) rfl
    have G := fun (W : World) (nb : Nat) (hE : Ext w W) (hn : W.cell? ⟨nb, 0, none⟩ = some (.int .i64 N)) => changed_c l _ _ W (HL.out.ext hE) 30 31 #[.pointer (some ⟨nb, 0, none⟩)] #[.pointer (some ⟨nb, 0, none⟩)] (turnL N) (turnM N) _ _ (turned1_c W nb N hN hn) (turned2_c W nb N hN hn) K.out.pieces K.out.eyes (Nat.le_trans K.out.n2 (by omega)) (Nat.le_trans K.out.m2 (by omega)) e1 e2
    unfold loadV ChgR at G
    simp only [loadV] at G
    have HG := Lib.hid G
    have HK := Lib.hid k9
    clear G e1 e2 k9
    go_enter Try.func9, Try.ntmps9
    go_wp2_with (first
      | (go_at_call 21; refine (C.out _ (((Ext.refl w).alloc _).alloc _)).mono ?_; rintro e w3 ⟨rfl, h3⟩; have e3 := Ext.trans (((Ext.refl w).alloc _).alloc _) h3; have R3 := lb_ext (lb_new _ _) h3; rw [size_alloc] at R3; have B3 := lb_ext (lb_alloc (lb_new w _) _) h3; have s0 := lb_cell B3 0 _ rfl; have s1 := lb_cell B3 1 _ rfl; have s2 := lb_cell B3 2 _ rfl; have s3 := lb_cell B3 3 _ rfl; have hlt := lb_lt B3; clear h3)
      | (go_at_call 29; refine (HG.out (w3.alloc (.cells #[.int .i64 N] 3)) w3.heap.size (e3.alloc _) (by go_simp)).mono ?_; rintro e w5 ⟨h5, ⟨_, v1, v2, rfl, o5⟩ | ⟨h0, _⟩⟩; rotate_left; exact absurd HK.out h0; obtain ⟨A1, c1, rfl, _, _⟩ := o5.pieces.shape; obtain ⟨A2, c2, rfl, _, _⟩ := o5.eyes.shape; have e5 := Ext.trans (e3.alloc _) h5; have R5 := lb_ext (lb_alloc R3 _) h5; have y0 := lb_cell R5 0 _ rfl; have y1 := lb_cell R5 1 _ rfl; have y2 := lb_cell R5 2 _ rfl; have y3 := lb_cell R5 3 _ rfl; have f0 := lb_frz R5 0; have f1 := lb_frz R5 1; have f2 := lb_frz R5 2; have f3 := lb_frz R5 3))
    refine bodyPost_ret (v := .tuple #[.agg #[.string (mapL (turnL N) (turnM N) l).name, .slice A1 (mapL (turnL N) (turnM N) l).pieces.length c1, .slice A2 (mapL (turnL N) (turnM N) l).eyes.length c2, .int .i64 (mapL (turnL N) (turnM N) l).friction], .int .i64 0]) (by simp [results, Try.results9, go_sem, y0, y1, y2, y3]) rfl ?_
    have hz := e3.size
    have hlt' := lb_lt R3
    refine .inr ⟨(by trivial), (((e5.set (by simp) _).set (by simp) _).set (by simp) _).set (by simp) _, .inl ⟨HK.out, _, _, rfl, OwnLoad.down (base := w3.heap.size) ⟨?_, ?_, o5.ne⟩ hz⟩⟩
    · exact ((((o5.pieces.down (by rw [size_alloc]; omega)).other (by omega) _).other (by omega) _).other (by omega) _).other (by omega) _
    · exact ((((o5.eyes.down (by rw [size_alloc]; omega)).other (by omega) _).other (by omega) _).other (by omega) _).other (by omega) _
  · clear hok hq
    go_enter Try.func9, Try.ntmps9
    go_wp2_with (go_at_call 21; refine (C.out _ (((Ext.refl w).alloc _).alloc _)).mono ?_; rintro e w3 ⟨rfl, h3⟩; have e3 := Ext.trans (((Ext.refl w).alloc _).alloc _) h3; have R3 := lb_ext (lb_new _ _) h3; rw [size_alloc] at R3; have y0 := lb_cell R3 0 _ rfl; have y1 := lb_cell R3 1 _ rfl; have y2 := lb_cell R3 2 _ rfl; have y3 := lb_cell R3 3 _ rfl; have f0 := lb_frz R3 0; have f1 := lb_frz R3 1; have f2 := lb_frz R3 2; have f3 := lb_frz R3 3; clear h3)
    refine bodyPost_ret (v := .tuple #[zeroV, .int .i64 E]) (by simp [results, Try.results9, go_sem, y0, y1, y2, y3, zeroV]) rfl ?_
    exact .inl ⟨hE, rfl, (((e3.set (by simp) _).set (by simp) _).set (by simp) _).set (by simp) _⟩
end Go.Proofs.Ytkkeblgahbpmmaa
