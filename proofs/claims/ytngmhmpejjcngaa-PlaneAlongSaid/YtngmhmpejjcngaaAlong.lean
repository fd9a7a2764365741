/- Contracts: the point at a length of a polyline. -/
import Derived.Test.YtngmhmpejjcngaaLength
import Derived.Deep.DrawnRows
namespace Go.Proofs.Ytngmhmpejjcngaa
open Go.RowKit

/-- the point at s of the piece k, which is d long -/
def ptAt (l : List (Int × Int)) (k : Nat) (s d : Int) : Int × Int := ((l.getD k (0, 0)).1 + Pl.near (((l.getD (k + 1) (0, 0)).1 - (l.getD k (0, 0)).1) * s) d, (l.getD k (0, 0)).2 + Pl.near (((l.getD (k + 1) (0, 0)).2 - (l.getD k (0, 0)).2) * s) d)
def atN (l : List (Int × Int)) : Nat → Nat → Int → (Int × Int) × Int
  | 0, _, _ => (l.getD 0 (0, 0), 0)
  | f + 1, k, s => if 0 < farAt l k ∧ s ≤ farAt l k then (ptAt l k s (farAt l k), (k : Int)) else atN l f (k + 1) (s - farAt l k)
def atS (l : List (Int × Int)) (s : Int) : (Int × Int) × Int := atN l (l.length - 1) 0 s
def alongS (l : List (Int × Int)) (s : Int) : ((Int × Int) × Int) × Int :=
  if (lenS l).2 = 0 then (if inB s 0 (lenS l).1 = true then (atS l s, 0) else (((0, 0), 0), 3)) else (((0, 0), 0), (lenS l).2)
def ptiV (p : (Int × Int) × Int) : Value := .tuple #[.agg #[.int .i64 p.1.1, .int .i64 p.1.2], .int .i64 p.2]
def ptieV (p : ((Int × Int) × Int) × Int) : Value := .tuple #[.agg #[.int .i64 p.1.1.1, .int .i64 p.1.1.2], .int .i64 p.1.2, .int .i64 p.2]

theorem Ext.frz' {w w' : World} (h : Ext w w') {p : Addr} (hp : p.block < w.heap.size) (hf : w.frozen? p = false) : w'.frozen? p = false := (Below.frozen h hp).trans hf
theorem atN_yes {l : List (Int × Int)} {f k : Nat} {s : Int} (h : 0 < farAt l k ∧ s ≤ farAt l k) : atN l (f + 1) k s = (ptAt l k s (farAt l k), (k : Int)) := by simp only [atN]; rw [if_pos h]
theorem atN_no {l : List (Int × Int)} {f k : Nat} {s : Int} (h : ¬ (0 < farAt l k ∧ s ≤ farAt l k)) : atN l (f + 1) k s = atN l f (k + 1) (s - farAt l k) := by simp only [atN]; rw [if_neg h]

set_option maxRecDepth 100000 in
set_option maxHeartbeats 3200000 in
theorem At_c (v : Value) (l : List (Int × Int)) (s : Int) (w : World) (hp : Pts w v l) (hm : l.length ≤ 256) (hz : ¬ l.length = 0) (ha : l.all okPt = true) (hs : 0 ≤ s) (hs2 : s ≤ 17179869184) :
    Calls Try.prog 91 #[v, .int .i64 s] w fun e w' => e = .returned (ptiV (atS l s)) ∧ Ext w w' := by
  rcases hp with ⟨a0, c0, rfl, rfl⟩ | ⟨b, off, cap, rfl, hl, hcap, hc⟩
  · exact absurd rfl hz
  have hm' : (l.length : Int) ≤ 256 := by omega
  have hz' : 0 < (l.length : Int) := by omega
  have HC : RowKit.Hid (PtCells w b off l) := hc
  have HA := Lib.hid ha
  unfold atS ptiV
  have h00 := hc 0 (by omega)
  clear hc ha hz
  generalize hT : atN l (l.length - 1) 0 s = T
  have HT := Lib.hid hT
  clear hT
  obtain ⟨⟨t1, t2⟩, t3⟩ := T
  simp only
  go_enter Try.func91, Try.ntmps91
  go_wp2
  go_loopw [6, 1] (fun i t wr => ∃ (k : Nat) (s' : Int), k ≤ l.length - 1 ∧ i = .int .i64 k ∧ t = .int .i64 s' ∧ 0 ≤ s' ∧ s' ≤ 17179869184 ∧ atN l (l.length - 1 - k) k s' = ((t1, t2), t3) ∧ Ext w wr ∧ w.heap.size < wr.heap.size ∧ wr.cell? ⟨w.heap.size, 0, none⟩ = some (.int .i64 0) ∧ wr.cell? ⟨w.heap.size, 1, none⟩ = some (.int .i64 0) ∧ wr.frozen? ⟨w.heap.size, 0, none⟩ = false ∧ wr.frozen? ⟨w.heap.size, 1, none⟩ = false) (fun i _ _ => l.length - (intOf i).toNat)
  case atStart => exact ⟨0, s, by omega, rfl, rfl, by omega, by omega, HT.out, by (repeat' (first | exact Ext.refl _ | assumption | refine Ext.alloc ?_ _ | refine Ext.drew ?_ | refine Ext.drewN ?_ _ | refine Ext.set ?_ (by first | exact Nat.le_refl _ | exact le1 _ | exact le2 _ | exact le3 _ | exact le4 _ | exact le5 _ | exact le6 _) _ | refine Ext.trans ?_ (by assumption))), by go_simp, by go_simp, by go_simp, by go_simp, by go_simp⟩
  case round =>
    obtain ⟨k, s', hk, rfl, rfl, g1, g2, hT', hb, hlt0, r0, r1, r2, r3⟩ := hrel
    by_cases hlt : k + 1 < l.length
    · have c1 := Ext.cell hb (HC.out k (by omega)).1
      have c2 := Ext.cell hb (HC.out k (by omega)).2
      have c3 := Ext.cell hb (HC.out (k + 1) hlt).1
      have c4 := Ext.cell hb (HC.out (k + 1) hlt).2
      have s2 := farAt_bd HA.out hlt
      have HF := fun w => Far_c (l.getD k (0, 0)).1 (l.getD k (0, 0)).2 (l.getD (k + 1) (0, 0)).1 (l.getD (k + 1) (0, 0)).2 w (okAt HA.out (by omega)) (okAt HA.out hlt)
      have hf : farS ((l.getD k (0, 0)).1, (l.getD k (0, 0)).2) ((l.getD (k + 1) (0, 0)).1, (l.getD (k + 1) (0, 0)).2) = farAt l k := rfl
      rw [hf] at HF
      clear hf
      rw [show l.length - 1 - k = (l.length - 1 - (k + 1)) + 1 by omega] at hT'
      obtain ⟨a1, a2, a3, a4⟩ := okPt_bd (x := (l.getD k (0, 0)).1) (y := (l.getD k (0, 0)).2) (okAt HA.out (by omega))
      obtain ⟨a5, a6, a7, a8⟩ := okPt_bd (x := (l.getD (k + 1) (0, 0)).1) (y := (l.getD (k + 1) (0, 0)).2) (okAt HA.out hlt)
      have i1 : (0 : Int) ≤ (k : Int) := by omega
      have i2 : (k : Int) < (l.length : Int) := by omega
      have i3 : (0 : Int) ≤ (k : Int) + 1 := by omega
      have i4 : (k : Int) + 1 < (l.length : Int) := by omega
      have i5 := IntWalk.i64_in ((k : Int) + 1) (by omega)
      by_cases hy : 0 < farAt l k ∧ s' ≤ farAt l k
      · rw [atN_yes hy] at hT'
        unfold ptAt at hT'
        simp only [Prod.mk.injEq] at hT'
        obtain ⟨⟨u1, u2⟩, u3⟩ := hT'
        generalize farAt l k = D at *
        generalize l.getD k (0, 0) = P at *
        generalize l.getD (k + 1) (0, 0) = Q at *
        obtain ⟨s5, s6⟩ := s2
        obtain ⟨y1, y2⟩ := hy
        have UU := Lib.hid (And.intro u1 (And.intro u2 u3))
        clear u1 u2 u3
        replace HF := Lib.hid HF
        obtain ⟨m1, m2⟩ := Pl.mul_bd (a := Q.1 - P.1) (b := s') (A := 33554432) (B := 67108864) (by omega) (by omega) (by omega) (by omega)
        obtain ⟨m3, m4⟩ := Pl.mul_bd (a := Q.2 - P.2) (b := s') (A := 33554432) (B := 67108864) (by omega) (by omega) (by omega) (by omega)
        have n1 := Pl.near_bd (n := (Q.1 - P.1) * s') (d := D) (b := 33554432 * 67108864) (by omega) (by omega) m1 m2
        have n2 := Pl.near_bd (n := (Q.2 - P.2) * s') (d := D) (b := 33554432 * 67108864) (by omega) (by omega) m3 m4
        have e1 := IntWalk.i64_in (Q.1 - P.1) (by omega)
        have e2 := IntWalk.i64_in (Q.2 - P.2) (by omega)
        have e3 := IntWalk.i64_in ((Q.1 - P.1) * s') (by omega)
        have e4 := IntWalk.i64_in ((Q.2 - P.2) * s') (by omega)
        have e5 := IntWalk.i64_in (P.1 + Pl.near ((Q.1 - P.1) * s') D) (by omega)
        have e6 := IntWalk.i64_in (P.2 + Pl.near ((Q.2 - P.2) * s') D) (by omega)
        have q1 : -4000000000000000000 ≤ (Q.1 - P.1) * s' := by omega
        have q2 : (Q.1 - P.1) * s' ≤ 4000000000000000000 := by omega
        have q3 : -4000000000000000000 ≤ (Q.2 - P.2) * s' := by omega
        have q4 : (Q.2 - P.2) * s' ≤ 4000000000000000000 := by omega
        have q5 : 1 ≤ D := by omega
        have q6 : D ≤ 4000000000000000000 := by omega
        have QQ := Lib.hid (And.intro q1 (And.intro q2 (And.intro q3 (And.intro q4 (And.intro q5 q6)))))
        clear q1 q2 q3 q4 q5 q6
        have E := Lib.hid (And.intro e1 (And.intro e2 (And.intro e3 (And.intro e4 (And.intro e5 e6)))))
        clear e1 e2 e3 e4 e5 e6 m1 m2 m3 m4 n1 n2 HT
        go_wp2_with fail
        go_region_held3 (fun w' => w'.cell? ⟨b, off + k * 2, none⟩ = some (.int .i64 P.1) ∧ w'.cell? ⟨b, off + k * 2 + 1, none⟩ = some (.int .i64 P.2) ∧ w'.cell? ⟨b, off + (k + 1) * 2, none⟩ = some (.int .i64 Q.1) ∧ w'.cell? ⟨b, off + (k + 1) * 2 + 1, none⟩ = some (.int .i64 Q.2))
          (first | go_keep | (refine ⟨?_, ?_, ?_, ?_⟩ <;> exact Ext.cell hb2 (by go_simp)))
          (first | (go_at_call 87; refine (HF.out _).mono ?_; rintro e w' ⟨rfl, hb2⟩))
        rename_i hH
        obtain ⟨hh1, hh2, hh3, hh4⟩ := hH
        have hlt1 := Ext.sz hb2
        have r0' := Ext.cell hb2 (p := ⟨w.heap.size, 0, none⟩) (v := .int .i64 0) (by go_simp)
        have r1' := Ext.cell hb2 (p := ⟨w.heap.size, 1, none⟩) (v := .int .i64 0) (by go_simp)
        have r2' := Ext.frz' hb2 (p := ⟨w.heap.size, 0, none⟩) (by simpa using hlt0) (by go_simp)
        have r3' := Ext.frz' hb2 (p := ⟨w.heap.size, 1, none⟩) (by simpa using hlt0) (by go_simp)
        have hE : Ext w w' := by (repeat' (first | exact Ext.refl _ | assumption | refine Ext.alloc ?_ _ | refine Ext.drew ?_ | refine Ext.drewN ?_ _ | refine Ext.set ?_ (by first | exact Nat.le_refl _ | exact le1 _ | exact le2 _ | exact le3 _ | exact le4 _ | exact le5 _ | exact le6 _) _ | refine Ext.trans ?_ (by assumption)))
        obtain ⟨e1, e2, e3, e4, e5, e6⟩ := E.out
        have hbl := World.block_lt_of_cell? w _ (HC.out k (by omega)).1
        simp only at hbl
        have hbn : ¬ b = w.heap.size := by omega
        have hbm : ¬ w.heap.size = b := by omega
        clear HC HA hbl r0 r1 r2 r3 hb2 hb HF c1 c2 c3 c4 a1 a2 a3 a4 a5 a6 a7 a8 g1 g2 s5 s6
        go_wp2_with fail
        go_region_held3 (fun w2 => w2.cell? ⟨b, off + k * 2, none⟩ = some (.int .i64 P.1) ∧ w2.cell? ⟨b, off + k * 2 + 1, none⟩ = some (.int .i64 P.2) ∧ w2.cell? ⟨b, off + (k + 1) * 2, none⟩ = some (.int .i64 Q.1) ∧ w2.cell? ⟨b, off + (k + 1) * 2 + 1, none⟩ = some (.int .i64 Q.2))
          (first | go_keep | (refine ⟨?_, ?_, ?_, ?_⟩ <;> (simp only [World.cell?_drew]; exact cell_set_ne hbn (cell_set_ne hbn (by assumption)))))
          ((go_at_call 81; refine (Near_c _ _ _ (by first | exact QQ.out.1 | exact QQ.out.2.2.1) (by first | exact QQ.out.2.1 | exact QQ.out.2.2.2.1) QQ.out.2.2.2.2.1 QQ.out.2.2.2.2.2).mono ?_; rintro e w2 ⟨rfl, rfl⟩))
        rename_i hH2
        clear hH2 hh1 hh2 hh3 hh4 e1 e2 e3 e4 e5 e6
        go_wp2_with fail
        exact bodyPost_ret (v := .tuple #[.agg #[.int .i64 (P.1 + Pl.near ((Q.1 - P.1) * s') D), .int .i64 (P.2 + Pl.near ((Q.2 - P.2) * s') D)], .int .i64 k]) (by simp [results, Try.results91, go_sem, r0', r1']) rfl ⟨by rw [UU.out.1, UU.out.2.1, UU.out.2.2], by (repeat' (first | exact Ext.refl _ | assumption | refine Ext.alloc ?_ _ | refine Ext.drew ?_ | refine Ext.drewN ?_ _ | refine Ext.set ?_ (by first | exact Nat.le_refl _ | exact le1 _ | exact le2 _ | exact le3 _ | exact le4 _ | exact le5 _ | exact le6 _) _ | refine Ext.trans ?_ (by assumption)))⟩
      · rw [atN_no hy] at hT'
        generalize farAt l k = D at *
        generalize l.getD k (0, 0) = P at *
        generalize l.getD (k + 1) (0, 0) = Q at *
        obtain ⟨s5, s6⟩ := s2
        replace HF := Lib.hid HF
        have HT' := Lib.hid hT'
        have e1 := IntWalk.i64_in (s' - D) (by omega)
        have hge : 0 ≤ s' - D := by
          by_cases h0 : 0 < D
          · have : ¬ s' ≤ D := fun h => hy ⟨h0, h⟩
            omega
          · omega
        have hle : s' - D ≤ 17179869184 := by omega
        clear hT' HT HA HC a1 a2 a3 a4 a5 a6 a7 a8
        go_wp2_with fail
        go_region_held3 (fun w' => w'.cell? ⟨b, off + k * 2, none⟩ = some (.int .i64 P.1) ∧ w'.cell? ⟨b, off + k * 2 + 1, none⟩ = some (.int .i64 P.2) ∧ w'.cell? ⟨b, off + (k + 1) * 2, none⟩ = some (.int .i64 Q.1) ∧ w'.cell? ⟨b, off + (k + 1) * 2 + 1, none⟩ = some (.int .i64 Q.2))
          (first | go_keep | (refine ⟨?_, ?_, ?_, ?_⟩ <;> exact Ext.cell hb2 (by go_simp)))
          (first | (go_at_call 87; refine (HF.out _).mono ?_; rintro e w' ⟨rfl, hb2⟩))
        rename_i hH
        clear hH
        have hlt1 := Ext.sz hb2
        rw [size_drew] at hlt1
        have r0' := Ext.cell hb2 (p := ⟨w.heap.size, 0, none⟩) (v := .int .i64 0) (by go_simp)
        have r1' := Ext.cell hb2 (p := ⟨w.heap.size, 1, none⟩) (v := .int .i64 0) (by go_simp)
        have r2' := Ext.frz' hb2 (p := ⟨w.heap.size, 0, none⟩) (by simpa using hlt0) (by go_simp)
        have r3' := Ext.frz' hb2 (p := ⟨w.heap.size, 1, none⟩) (by simpa using hlt0) (by go_simp)
        have hE : Ext w w' := by (repeat' (first | exact Ext.refl _ | assumption | refine Ext.alloc ?_ _ | refine Ext.drew ?_ | refine Ext.drewN ?_ _ | refine Ext.set ?_ (by first | exact Nat.le_refl _ | exact le1 _ | exact le2 _ | exact le3 _ | exact le4 _ | exact le5 _ | exact le6 _) _ | refine Ext.trans ?_ (by assumption)))
        have hlt2 : w.heap.size < w'.heap.size := by omega
        clear hb2 hb HF r0 r1 r2 r3 hlt0 hlt1
        by_cases h0 : 0 < D
        · have h1 : ¬ s' ≤ D := fun h => hy ⟨h0, h⟩
          clear hy
          go_wp2_with fail
          go_roundw
          case rel => exact ⟨k + 1, s' - D, by omega, by go_num, rfl, hge, hle, HT'.out, hE, hlt2, r0', r1', r2', r3'⟩
          case measure => simp [intOf]; omega
        · clear hy
          go_wp2_with fail
          go_roundw
          case rel => exact ⟨k + 1, s' - D, by omega, by go_num, rfl, hge, hle, HT'.out, hE, hlt2, r0', r1', r2', r3'⟩
          case measure => simp [intOf]; omega
    · have hk' : k = l.length - 1 := by omega
      have i1 : ¬ (k : Int) + 1 < (l.length : Int) := by omega
      have i2 : (k : Int) ≤ 256 := by omega
      rw [show l.length - 1 - k = 0 by omega] at hT'
      simp only [atN] at hT'
      have u1 : (l.getD 0 (0, 0)).1 = t1 := congrArg (·.1.1) hT'
      have u2 : (l.getD 0 (0, 0)).2 = t2 := congrArg (·.1.2) hT'
      have u3 : (0 : Int) = t3 := congrArg (·.2) hT'
      have UU := Lib.hid (And.intro u1 (And.intro u2 u3))
      clear u1 u2 u3 hT'
      obtain ⟨h00a, h00b⟩ := h00
      have c1 := Ext.cell hb h00a
      have c2 := Ext.cell hb h00b
      rw [Nat.zero_mul, Nat.add_zero] at c1 c2
      generalize l.getD 0 (0, 0) = P at *
      clear HT HA HC h00a h00b
      go_wp2
      exact bodyPost_ret (v := .tuple #[.agg #[.int .i64 P.1, .int .i64 P.2], .int .i64 0]) (by simp [results, Try.results91, go_sem, r0, r1]) rfl ⟨by rw [UU.out.1, UU.out.2.1, ← UU.out.2.2], by (repeat' (first | exact Ext.refl _ | assumption | refine Ext.alloc ?_ _ | refine Ext.drew ?_ | refine Ext.drewN ?_ _ | refine Ext.set ?_ (by first | exact Nat.le_refl _ | exact le1 _ | exact le2 _ | exact le3 _ | exact le4 _ | exact le5 _ | exact le6 _) _ | refine Ext.trans ?_ (by assumption)))⟩
end Go.Proofs.Ytngmhmpejjcngaa
