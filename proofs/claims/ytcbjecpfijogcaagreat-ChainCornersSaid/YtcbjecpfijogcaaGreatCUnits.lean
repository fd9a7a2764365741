
/- The iterator over the units of a pose, walked: the units that stand. -/
import Derived.Test.YtcbjecpfijogcaaGreatCSeq
import Derived.Test.YtcbjecpfijogcaaGreatPlaneA
namespace Go.Proofs.YtcbjecpfijogcaaGreat
open Go.RowKit Go.Shelf

set_option maxHeartbeats 800000 in
theorem at_c (x : PPut) (X Y : Int) (w : World) :
    Calls Tryz.prog 29 #[putV x, .int .i64 X, .int .i64 Y] w fun e w' => e = .returned (ptV (placeS x.axle x.joint X Y)) ∧ Ext w w' := by
  have C := fun w => Place_c x.axle.1 x.axle.2 x.joint.1 x.joint.2 X Y w
  have hq : placeS (x.axle.1, x.axle.2) (x.joint.1, x.joint.2) X Y = placeS x.axle x.joint X Y := rfl
  rw [hq] at C
  unfold putV ptV at *
  generalize placeS x.axle x.joint X Y = q at *
  replace C := Lib.hid C
  clear hq
  go_enter Tryz.func29, Tryz.ntmps29
  go_wp2_with (go_at_call 46; refine (C.out _).mono ?_; rintro e w1 ⟨rfl, hb1⟩; obtain ⟨hc, hf⟩ := bcell hb1)
  exact bodyPost_ret (v := .tuple #[.agg #[.int .i64 q.1.1, .int .i64 q.1.2], .int .i64 q.2]) (by simp [results, Tryz.results29, go_sem, hc]) rfl ⟨rfl, by (repeat' (first | exact Ext.refl _ | assumption | refine Ext.alloc ?_ _ | refine Ext.drew ?_ | refine Ext.drewN ?_ _ | refine Ext.set ?_ (by first | exact Nat.le_refl _ | exact le1 _ | exact le2 _ | exact le3 _ | exact le4 _ | exact le5 _ | exact le6 _) _ | refine Ext.trans ?_ (by assumption)))⟩

/-- the units that stand, with the slice values of their axles -/
def putsX (ex : Nat → Option Addr × Nat) : Nat → Pt → List CUnit → List Pt → List PPut
  | i, joint, u :: us, a :: xs => if okPt a = false ∨ a = joint then [] else ⟨u, (ex i).1, (ex i).2, joint, a⟩ :: (if (placeS a joint (rearN u) 0).2 = 0 then putsX ex (i + 1) (placeS a joint (rearN u) 0).1 us xs else [])
  | _, _, _, _ => []
theorem putsX_map (ex : Nat → Option Addr × Nat) : ∀ (us : List CUnit) (xs : List Pt) (i : Nat) (j : Pt), (putsX ex i j us xs).map (fun x => (⟨x.unit, x.joint, x.axle⟩ : CPut)) = putsN j us xs
  | [], [], _, _ => rfl
  | [], _ :: _, _, _ => rfl
  | _ :: _, [], _, _ => rfl
  | u :: us, a :: xs, i, j => by
    simp only [putsX, putsN]
    split
    · rfl
    · simp only [List.map_cons]
      congr 1
      split
      · exact putsX_map ex us xs _ _
      · rfl
theorem putsX_bad {ex : Nat → Option Addr × Nat} {i : Nat} {j a : Pt} {u : CUnit} {us : List CUnit} {xs : List Pt} (h : okPt a = false ∨ a = j) : putsX ex i j (u :: us) (a :: xs) = [] := by simp only [putsX]; rw [if_pos h]
theorem putsX_last {ex : Nat → Option Addr × Nat} {i : Nat} {j a : Pt} {u : CUnit} {us : List CUnit} {xs : List Pt} (h1 : okPt a = true) (h2 : ¬ a = j) (h3 : ¬ (placeS a j (rearN u) 0).2 = 0) : putsX ex i j (u :: us) (a :: xs) = [⟨u, (ex i).1, (ex i).2, j, a⟩] := by
  simp only [putsX]; rw [if_neg (by simp [h1, h2]), if_neg h3]
theorem putsX_more {ex : Nat → Option Addr × Nat} {i : Nat} {j a : Pt} {u : CUnit} {us : List CUnit} {xs : List Pt} (h1 : okPt a = true) (h2 : ¬ a = j) (h3 : (placeS a j (rearN u) 0).2 = 0) : putsX ex i j (u :: us) (a :: xs) = ⟨u, (ex i).1, (ex i).2, j, a⟩ :: putsX ex (i + 1) (placeS a j (rearN u) 0).1 us xs := by
  simp only [putsX]; rw [if_neg (by simp [h1, h2]), if_pos h3]
theorem putsX_len (ex : Nat → Option Addr × Nat) : ∀ (us : List CUnit) (xs : List Pt) (i : Nat) (j : Pt), (putsX ex i j us xs).length ≤ us.length
  | [], [], _, _ => by simp [putsX]
  | [], _ :: _, _, _ => by simp [putsX]
  | _ :: _, [], _, _ => by simp [putsX]
  | u :: us, a :: xs, i, j => by
    have ih := putsX_len ex us xs (i + 1) (placeS a j (rearN u) 0).1
    simp only [putsX]
    split
    · simp
    · split
      · simp only [List.length_cons]; omega
      · simp
theorem drop_some {α : Type} {l : List α} {k : Nat} {x : α} (h : l[k]? = some x) : l.drop k = x :: l.drop (k + 1) := by
  obtain ⟨hk, rfl⟩ := List.getElem?_eq_some_iff.1 h
  exact List.drop_eq_getElem_cons hk

/-- a vehicle's units in memory, with the slice values of their axles by their index -/
structure UCells (w : World) (Au : Option Addr) (us : List CUnit) (ex : Nat → Option Addr × Nat) : Prop where
  at' : ∀ i u, us[i]? = some u → ∃ (b off : Nat), Au = some ⟨b, off, none⟩ ∧ Sl 3 RAxle w (.slice (ex i).1 u.axles.length (ex i).2) u.axles ∧ ∀ j c, (unitCs (.slice (ex i).1 u.axles.length (ex i).2) u)[j]? = some c → w.cell? ⟨b, off + i * 11 + j, none⟩ = some c
theorem ucells {w : World} {A : Option Addr} {len cap : Nat} {us : List CUnit} (h : Sl 11 RUnit w (.slice A len cap) us) : ∃ ex, UCells w A us ex := by
  have key : ∀ i, ∃ e : Option Addr × Nat, ∀ u, us[i]? = some u → ∃ (b off : Nat), A = some ⟨b, off, none⟩ ∧ Sl 3 RAxle w (.slice e.1 u.axles.length e.2) u.axles ∧ ∀ j c, (unitCs (.slice e.1 u.axles.length e.2) u)[j]? = some c → w.cell? ⟨b, off + i * 11 + j, none⟩ = some c := by
    intro i
    by_cases hi : i < us.length
    · obtain ⟨u, hu⟩ := some_of_lt hi
      obtain ⟨b, off, cs, hA, _, ⟨v', rfl, hax⟩, hc⟩ := h.at hu
      obtain ⟨A2, cap2, rfl, _, _⟩ := hax.shape
      refine ⟨(A2, cap2), fun u' hu' => ?_⟩
      rw [hu] at hu'
      obtain rfl := Option.some.inj hu'
      exact ⟨b, off, hA, hax, hc⟩
    · exact ⟨(none, 0), fun u hu => absurd (lt_of_some hu) hi⟩
  exact ⟨fun i => Classical.choose (key i), ⟨fun i u hu => Classical.choose_spec (key i) u hu⟩⟩

theorem new_kept {W W' : World} {o : Obj} (h : Ext (W.alloc o) W') : W'.heap[W.heap.size]? = some o := (h.block _ (Array.getElem?_eq_some_iff.1 (World.alloc_heap_new W o)).1).trans (World.alloc_heap_new W o)
theorem blk_frz {W : World} {b : Nat} {cs : Array Value} {t : TypeId} (h : W.heap[b]? = some (.cells cs t (0, 0))) (o : Nat) : W.frozen? ⟨b, o, none⟩ = false := by simp [World.frozen?, h]
theorem two0 {W : World} {b : Nat} {t : TypeId} {x y : Value} (u : Value) (h : W.heap[b]? = some (.cells #[x, y] t (0, 0))) : (W.setCell ⟨b, 0, none⟩ u).heap[b]? = some (.cells #[u, y] t (0, 0)) := by
  obtain ⟨hlt, hk⟩ := Array.getElem?_eq_some_iff.1 h
  show (W.heap.modify b _)[b]? = _
  rw [Array.getElem?_eq_getElem (by rw [Array.size_modify]; exact hlt), Array.getElem_modify_self, hk]
  rfl
theorem two1 {W : World} {b : Nat} {t : TypeId} {x y : Value} (u : Value) (h : W.heap[b]? = some (.cells #[x, y] t (0, 0))) : (W.setCell ⟨b, 1, none⟩ u).heap[b]? = some (.cells #[x, u] t (0, 0)) := by
  obtain ⟨hlt, hk⟩ := Array.getElem?_eq_some_iff.1 h
  show (W.heap.modify b _)[b]? = _
  rw [Array.getElem?_eq_getElem (by rw [Array.size_modify]; exact hlt), Array.getElem_modify_self, hk]
  rfl

set_option maxRecDepth 100000 in
set_option maxHeartbeats 8000000 in
theorem units1_c (Bn : Nat) (Au Ap : Option Addr) (capu capp : Nat) (us : List CUnit) (ps : List Pt) (lead : Pt) (ex : Nat → Option Addr × Nat) (w : World)
    (r1 : w.cell? ⟨Bn, 1, none⟩ = some (.slice Au us.length capu)) (r4 : w.cell? ⟨Bn, 4, none⟩ = some (.int .i64 lead.1)) (r5 : w.cell? ⟨Bn, 5, none⟩ = some (.int .i64 lead.2)) (r6 : w.cell? ⟨Bn, 6, none⟩ = some (.slice Ap ps.length capp))
    (hU : UCells w Au us ex) (hP : Pts w (.slice Ap ps.length capp) ps) (hlen : ps.length = us.length) (hn : us.length ≤ 12) (hval : ∀ u ∈ us, unitB u = true)
    (fn : FuncId) (sv : Value) (l D : Nat) (asg bod : Code) (W : World)
    (hY : ∀ (pre : List PPut) (x : PPut) (W1 : World), ApAt w fn sv w.heap.size l D asg bod pre W1 → pre.length < (putsX ex 0 lead us ps).length →
      YieldAt Fence.wide 3 Tryz.prog l #[putV x] W1 fun e W' => e = .returned (.bool true) ∧ ApAt w fn sv w.heap.size l D asg bod (pre ++ [x]) W' ∧ KpR w.heap.size W1 W')
    (h0 : ApAt w fn sv w.heap.size l D asg bod [] W) :
    CallsIn Fence.wide 4 Tryz.prog 81 #[.func (.yield l) #[] #[], .pointer (some ⟨Bn, 0, none⟩)] W fun e W' => (∃ v, e = .returned v) ∧ ApAt w fn sv w.heap.size l D asg bod (putsX ex 0 lead us ps) W' := by
  refine callsIn_wide.2 ?_
  have HU := Lib.hid hU
  have HP := Lib.hid hP
  have HV := Lib.hid hval
  have HY := Lib.hid hY
  have hlB := lt_of_cell r1
  have s1 := Ext.cell h0.below r1
  have s4 := Ext.cell h0.below r4
  have s5 := Ext.cell h0.below r5
  have hsW := h0.below.size
  obtain ⟨X, hX⟩ : ∃ X, putsX ex 0 lead us ps = X := ⟨_, rfl⟩
  rw [hX] at HY ⊢
  clear hU hP hval hY r1 r4 r5
  obtain ⟨l1, l2⟩ := lead
  simp only at s4 s5
  have hBW : Bn < W.heap.size := by omega
  have hWlt : w.heap.size < W.heap.size := by obtain ⟨_, h, _⟩ := h0.box; exact (Array.getElem?_eq_some_iff.1 h).1
  go_enter Tryz.func81, Tryz.ntmps81
  go_wp2
  have hj0 : (W.alloc (.cells #[.int .i64 l1, .int .i64 l2] 26)).heap[W.heap.size]? = some (.cells #[.int .i64 l1, .int .i64 l2] 26 (0, 0)) := World.alloc_heap_new W _
  have hA0 := h0.ext ((Ext.refl W).alloc (.cells #[.int .i64 l1, .int .i64 l2] 26))
  generalize (W.alloc (.cells #[.int .i64 l1, .int .i64 l2] 26)) = W0 at *
  clear s1 s4 s5
  go_loopw [16] (fun i wr => ∃ (k : Nat) (pre : List PPut) (j1 j2 : Int), k ≤ us.length ∧ i = .int .i64 k ∧ ApAt w fn sv w.heap.size l D asg bod pre wr ∧ wr.heap[W.heap.size]? = some (.cells #[.int .i64 j1, .int .i64 j2] 26 (0, 0)) ∧ pre ++ putsX ex k (j1, j2) (us.drop k) (ps.drop k) = X) (fun i _ => us.length - (intOf i).toNat)
  case atStart => exact ⟨0, [], l1, l2, by omega, rfl, hA0, hj0, by simpa using hX⟩
  case round =>
    obtain ⟨k, pre, j1, j2, hk, rfl, hA, hj, hpre⟩ := hrel
    clear hj0 hA0 h0 hX
    have E : Ext w wr := hA.below
    have hsr := E.size
    have r6' := Ext.cell E r6
    have q0 : wr.cell? ⟨W.heap.size, 0, none⟩ = some (.int .i64 j1) := World.news_of_block hj 0 _ rfl
    have q1 : wr.cell? ⟨W.heap.size, 1, none⟩ = some (.int .i64 j2) := World.news_of_block hj 1 _ rfl
    have hjl := lt_of_cell q0
    have hBr : Bn < wr.heap.size := by omega
    by_cases hlt : k < us.length
    · obtain ⟨u, hu⟩ := some_of_lt hlt
      obtain ⟨⟨a1, a2⟩, ha⟩ := some_of_lt (show k < ps.length by omega)
      obtain ⟨b, off, rfl, hax, hc⟩ := HU.out.at' k u hu
      obtain ⟨pb, poff, rfl, p0, p1⟩ : ∃ pb poff, Ap = some ⟨pb, poff, none⟩ ∧ w.cell? ⟨pb, poff + k * 2, none⟩ = some (.int .i64 a1) ∧ w.cell? ⟨pb, poff + k * 2 + 1, none⟩ = some (.int .i64 a2) := by
        rcases HP.out with ⟨_, _, _, h2⟩ | ⟨pb, poff, pcap, h1, _, _, hpc⟩
        · rw [h2] at ha; simp at ha
        · simp only [Value.slice.injEq] at h1
          have hg : ps.getD k (0, 0) = (a1, a2) := by simp [List.getD, ha]
          have := hpc k (by omega)
          rw [hg] at this
          exact ⟨pb, poff, h1.1, this.1, this.2⟩
      have hv := HV.out u (mem_of_some hu)
      rw [drop_some hu, drop_some ha] at hpre
      have hbl := lt_of_cell (hc 0 _ rfl)
      have hpl := lt_of_cell p0
      have k0 := Ext.cell E (hc 0 _ rfl)
      have k1 := Ext.cell E (hc 1 _ rfl)
      have k2 := Ext.cell E (hc 2 _ rfl)
      have k3 := Ext.cell E (hc 3 _ rfl)
      have k4 := Ext.cell E (hc 4 _ rfl)
      have k5 := Ext.cell E (hc 5 _ rfl)
      have k6 := Ext.cell E (hc 6 _ rfl)
      have k7 := Ext.cell E (hc 7 _ rfl)
      have k8 := Ext.cell E (hc 8 _ rfl)
      have k9 := Ext.cell E (hc 9 _ rfl)
      have k10 := Ext.cell E (hc 10 _ rfl)
      simp only [Nat.add_zero] at k0
      replace p0 := Ext.cell E p0
      replace p1 := Ext.cell E p1
      have i1 : (0 : Int) ≤ (k : Int) := by omega
      have i2 : (k : Int) < (us.length : Int) := by omega
      have i3 : (k : Int) < (ps.length : Int) := by omega
      have HAX := Lib.hid hax
      have HPR := Lib.hid hpre
      have HAA := Lib.hid hA
      have HHJ := Lib.hid hj
      clear hax hc hu ha hpre hA hj
      go_wp2_with fail
      have ER : Ext wr (wr.alloc (.cells #[.int .i64 u.kind, .int .i64 u.length, .int .i64 u.behind, .int .i64 u.front, .int .i64 u.rear, .int .i64 u.width, .int .i64 u.height, .int .i64 u.mass, .int .i64 u.steer, .int .i64 u.most, .slice (ex k).1 u.axles.length (ex k).2] 45)) := (Ext.refl wr).alloc _
      have u0 : (wr.alloc (.cells #[.int .i64 u.kind, .int .i64 u.length, .int .i64 u.behind, .int .i64 u.front, .int .i64 u.rear, .int .i64 u.width, .int .i64 u.height, .int .i64 u.mass, .int .i64 u.steer, .int .i64 u.most, .slice (ex k).1 u.axles.length (ex k).2] 45)).cell? ⟨wr.heap.size, 0, none⟩ = some (.int .i64 u.kind) := by go_simp
      have u1 : (wr.alloc (.cells #[.int .i64 u.kind, .int .i64 u.length, .int .i64 u.behind, .int .i64 u.front, .int .i64 u.rear, .int .i64 u.width, .int .i64 u.height, .int .i64 u.mass, .int .i64 u.steer, .int .i64 u.most, .slice (ex k).1 u.axles.length (ex k).2] 45)).cell? ⟨wr.heap.size, 1, none⟩ = some (.int .i64 u.length) := by go_simp
      have u2 : (wr.alloc (.cells #[.int .i64 u.kind, .int .i64 u.length, .int .i64 u.behind, .int .i64 u.front, .int .i64 u.rear, .int .i64 u.width, .int .i64 u.height, .int .i64 u.mass, .int .i64 u.steer, .int .i64 u.most, .slice (ex k).1 u.axles.length (ex k).2] 45)).cell? ⟨wr.heap.size, 2, none⟩ = some (.int .i64 u.behind) := by go_simp
      have u3 : (wr.alloc (.cells #[.int .i64 u.kind, .int .i64 u.length, .int .i64 u.behind, .int .i64 u.front, .int .i64 u.rear, .int .i64 u.width, .int .i64 u.height, .int .i64 u.mass, .int .i64 u.steer, .int .i64 u.most, .slice (ex k).1 u.axles.length (ex k).2] 45)).cell? ⟨wr.heap.size, 3, none⟩ = some (.int .i64 u.front) := by go_simp
      have u4 : (wr.alloc (.cells #[.int .i64 u.kind, .int .i64 u.length, .int .i64 u.behind, .int .i64 u.front, .int .i64 u.rear, .int .i64 u.width, .int .i64 u.height, .int .i64 u.mass, .int .i64 u.steer, .int .i64 u.most, .slice (ex k).1 u.axles.length (ex k).2] 45)).cell? ⟨wr.heap.size, 4, none⟩ = some (.int .i64 u.rear) := by go_simp
      have u5 : (wr.alloc (.cells #[.int .i64 u.kind, .int .i64 u.length, .int .i64 u.behind, .int .i64 u.front, .int .i64 u.rear, .int .i64 u.width, .int .i64 u.height, .int .i64 u.mass, .int .i64 u.steer, .int .i64 u.most, .slice (ex k).1 u.axles.length (ex k).2] 45)).cell? ⟨wr.heap.size, 5, none⟩ = some (.int .i64 u.width) := by go_simp
      have u6 : (wr.alloc (.cells #[.int .i64 u.kind, .int .i64 u.length, .int .i64 u.behind, .int .i64 u.front, .int .i64 u.rear, .int .i64 u.width, .int .i64 u.height, .int .i64 u.mass, .int .i64 u.steer, .int .i64 u.most, .slice (ex k).1 u.axles.length (ex k).2] 45)).cell? ⟨wr.heap.size, 6, none⟩ = some (.int .i64 u.height) := by go_simp
      have u7 : (wr.alloc (.cells #[.int .i64 u.kind, .int .i64 u.length, .int .i64 u.behind, .int .i64 u.front, .int .i64 u.rear, .int .i64 u.width, .int .i64 u.height, .int .i64 u.mass, .int .i64 u.steer, .int .i64 u.most, .slice (ex k).1 u.axles.length (ex k).2] 45)).cell? ⟨wr.heap.size, 7, none⟩ = some (.int .i64 u.mass) := by go_simp
      have u8 : (wr.alloc (.cells #[.int .i64 u.kind, .int .i64 u.length, .int .i64 u.behind, .int .i64 u.front, .int .i64 u.rear, .int .i64 u.width, .int .i64 u.height, .int .i64 u.mass, .int .i64 u.steer, .int .i64 u.most, .slice (ex k).1 u.axles.length (ex k).2] 45)).cell? ⟨wr.heap.size, 8, none⟩ = some (.int .i64 u.steer) := by go_simp
      have u9 : (wr.alloc (.cells #[.int .i64 u.kind, .int .i64 u.length, .int .i64 u.behind, .int .i64 u.front, .int .i64 u.rear, .int .i64 u.width, .int .i64 u.height, .int .i64 u.mass, .int .i64 u.steer, .int .i64 u.most, .slice (ex k).1 u.axles.length (ex k).2] 45)).cell? ⟨wr.heap.size, 9, none⟩ = some (.int .i64 u.most) := by go_simp
      have u10 : (wr.alloc (.cells #[.int .i64 u.kind, .int .i64 u.length, .int .i64 u.behind, .int .i64 u.front, .int .i64 u.rear, .int .i64 u.width, .int .i64 u.height, .int .i64 u.mass, .int .i64 u.steer, .int .i64 u.most, .slice (ex k).1 u.axles.length (ex k).2] 45)).cell? ⟨wr.heap.size, 10, none⟩ = some (.slice (ex k).1 u.axles.length (ex k).2) := by go_simp
      replace q0 := Ext.cell ER q0
      replace q1 := Ext.cell ER q1
      replace r6' := Ext.cell ER r6'
      replace p0 := Ext.cell ER p0
      replace p1 := Ext.cell ER p1
      have hz1 : (wr.alloc (.cells #[.int .i64 u.kind, .int .i64 u.length, .int .i64 u.behind, .int .i64 u.front, .int .i64 u.rear, .int .i64 u.width, .int .i64 u.height, .int .i64 u.mass, .int .i64 u.steer, .int .i64 u.most, .slice (ex k).1 u.axles.length (ex k).2] 45)).heap.size = wr.heap.size + 1 := size_alloc _ _
      generalize (wr.alloc (.cells #[.int .i64 u.kind, .int .i64 u.length, .int .i64 u.behind, .int .i64 u.front, .int .i64 u.rear, .int .i64 u.width, .int .i64 u.height, .int .i64 u.mass, .int .i64 u.steer, .int .i64 u.most, .slice (ex k).1 u.axles.length (ex k).2] 45)) = W1 at *
      clear k0 k1 k2 k3 k4 k5 k6 k7 k8 k9 k10
      have b1 : wr.heap.size < W1.heap.size := by omega
      have b2 : W.heap.size < W1.heap.size := by omega
      have b3 : Bn < W1.heap.size := by omega
      have b4 : pb < W1.heap.size := by omega
      have HZ1 := Lib.hid hz1
      clear hz1
      have m1 := World.new_ne W1 _ u0
      have m2 := World.new_ne W1 _ q0
      have m3 := World.new_ne W1 _ r6'
      have m4 := World.new_ne W1 _ p0
      simp only at m1 m2 m3 m4
      go_region_held3 (fun w' => w'.cell? ⟨wr.heap.size, 0, none⟩ = some (.int .i64 u.kind) ∧ w'.cell? ⟨wr.heap.size, 1, none⟩ = some (.int .i64 u.length) ∧ w'.cell? ⟨wr.heap.size, 2, none⟩ = some (.int .i64 u.behind) ∧ w'.cell? ⟨wr.heap.size, 3, none⟩ = some (.int .i64 u.front) ∧ w'.cell? ⟨wr.heap.size, 4, none⟩ = some (.int .i64 u.rear) ∧ w'.cell? ⟨wr.heap.size, 5, none⟩ = some (.int .i64 u.width) ∧ w'.cell? ⟨wr.heap.size, 6, none⟩ = some (.int .i64 u.height) ∧ w'.cell? ⟨wr.heap.size, 7, none⟩ = some (.int .i64 u.mass) ∧ w'.cell? ⟨wr.heap.size, 8, none⟩ = some (.int .i64 u.steer) ∧ w'.cell? ⟨wr.heap.size, 9, none⟩ = some (.int .i64 u.most) ∧ w'.cell? ⟨wr.heap.size, 10, none⟩ = some (.slice (ex k).1 u.axles.length (ex k).2) ∧ w'.cell? ⟨W.heap.size, 0, none⟩ = some (.int .i64 j1) ∧ w'.cell? ⟨W.heap.size, 1, none⟩ = some (.int .i64 j2) ∧ w'.cell? ⟨Bn, 6, none⟩ = some (.slice (some ⟨pb, poff, none⟩) ps.length capp) ∧ w'.cell? ⟨pb, poff + k * 2, none⟩ = some (.int .i64 a1) ∧ w'.cell? ⟨pb, poff + k * 2 + 1, none⟩ = some (.int .i64 a2)) (go_keep) (fail)
      have E2 : Ext W1 ((W1.alloc (.cells #[.int .i64 u.kind, .int .i64 u.length, .int .i64 u.behind, .int .i64 u.front, .int .i64 u.rear, .int .i64 u.width, .int .i64 u.height, .int .i64 u.mass, .int .i64 u.steer, .int .i64 u.most, .slice (ex k).1 u.axles.length (ex k).2, .int .i64 j1, .int .i64 j2, .int .i64 a1, .int .i64 a2] 64)).drew) := by (repeat' (first | exact Ext.refl _ | assumption | refine Ext.alloc ?_ _ | refine Ext.drew ?_ | refine Ext.drewN ?_ _ | refine Ext.set ?_ (by first | exact Nat.le_refl _ | exact le1 _ | exact le2 _ | exact le3 _ | exact le4 _ | exact le5 _ | exact le6 _) _ | refine Ext.trans ?_ (by assumption)))
      have c0 : ((W1.alloc (.cells #[.int .i64 u.kind, .int .i64 u.length, .int .i64 u.behind, .int .i64 u.front, .int .i64 u.rear, .int .i64 u.width, .int .i64 u.height, .int .i64 u.mass, .int .i64 u.steer, .int .i64 u.most, .slice (ex k).1 u.axles.length (ex k).2, .int .i64 j1, .int .i64 j2, .int .i64 a1, .int .i64 a2] 64)).drew).cell? ⟨W1.heap.size, 0, none⟩ = some (.int .i64 u.kind) := by go_simp
      have c1 : ((W1.alloc (.cells #[.int .i64 u.kind, .int .i64 u.length, .int .i64 u.behind, .int .i64 u.front, .int .i64 u.rear, .int .i64 u.width, .int .i64 u.height, .int .i64 u.mass, .int .i64 u.steer, .int .i64 u.most, .slice (ex k).1 u.axles.length (ex k).2, .int .i64 j1, .int .i64 j2, .int .i64 a1, .int .i64 a2] 64)).drew).cell? ⟨W1.heap.size, 1, none⟩ = some (.int .i64 u.length) := by go_simp
      have c2 : ((W1.alloc (.cells #[.int .i64 u.kind, .int .i64 u.length, .int .i64 u.behind, .int .i64 u.front, .int .i64 u.rear, .int .i64 u.width, .int .i64 u.height, .int .i64 u.mass, .int .i64 u.steer, .int .i64 u.most, .slice (ex k).1 u.axles.length (ex k).2, .int .i64 j1, .int .i64 j2, .int .i64 a1, .int .i64 a2] 64)).drew).cell? ⟨W1.heap.size, 2, none⟩ = some (.int .i64 u.behind) := by go_simp
      have c3 : ((W1.alloc (.cells #[.int .i64 u.kind, .int .i64 u.length, .int .i64 u.behind, .int .i64 u.front, .int .i64 u.rear, .int .i64 u.width, .int .i64 u.height, .int .i64 u.mass, .int .i64 u.steer, .int .i64 u.most, .slice (ex k).1 u.axles.length (ex k).2, .int .i64 j1, .int .i64 j2, .int .i64 a1, .int .i64 a2] 64)).drew).cell? ⟨W1.heap.size, 3, none⟩ = some (.int .i64 u.front) := by go_simp
      have c4 : ((W1.alloc (.cells #[.int .i64 u.kind, .int .i64 u.length, .int .i64 u.behind, .int .i64 u.front, .int .i64 u.rear, .int .i64 u.width, .int .i64 u.height, .int .i64 u.mass, .int .i64 u.steer, .int .i64 u.most, .slice (ex k).1 u.axles.length (ex k).2, .int .i64 j1, .int .i64 j2, .int .i64 a1, .int .i64 a2] 64)).drew).cell? ⟨W1.heap.size, 4, none⟩ = some (.int .i64 u.rear) := by go_simp
      have c5 : ((W1.alloc (.cells #[.int .i64 u.kind, .int .i64 u.length, .int .i64 u.behind, .int .i64 u.front, .int .i64 u.rear, .int .i64 u.width, .int .i64 u.height, .int .i64 u.mass, .int .i64 u.steer, .int .i64 u.most, .slice (ex k).1 u.axles.length (ex k).2, .int .i64 j1, .int .i64 j2, .int .i64 a1, .int .i64 a2] 64)).drew).cell? ⟨W1.heap.size, 5, none⟩ = some (.int .i64 u.width) := by go_simp
      have c6 : ((W1.alloc (.cells #[.int .i64 u.kind, .int .i64 u.length, .int .i64 u.behind, .int .i64 u.front, .int .i64 u.rear, .int .i64 u.width, .int .i64 u.height, .int .i64 u.mass, .int .i64 u.steer, .int .i64 u.most, .slice (ex k).1 u.axles.length (ex k).2, .int .i64 j1, .int .i64 j2, .int .i64 a1, .int .i64 a2] 64)).drew).cell? ⟨W1.heap.size, 6, none⟩ = some (.int .i64 u.height) := by go_simp
      have c7 : ((W1.alloc (.cells #[.int .i64 u.kind, .int .i64 u.length, .int .i64 u.behind, .int .i64 u.front, .int .i64 u.rear, .int .i64 u.width, .int .i64 u.height, .int .i64 u.mass, .int .i64 u.steer, .int .i64 u.most, .slice (ex k).1 u.axles.length (ex k).2, .int .i64 j1, .int .i64 j2, .int .i64 a1, .int .i64 a2] 64)).drew).cell? ⟨W1.heap.size, 7, none⟩ = some (.int .i64 u.mass) := by go_simp
      have c8 : ((W1.alloc (.cells #[.int .i64 u.kind, .int .i64 u.length, .int .i64 u.behind, .int .i64 u.front, .int .i64 u.rear, .int .i64 u.width, .int .i64 u.height, .int .i64 u.mass, .int .i64 u.steer, .int .i64 u.most, .slice (ex k).1 u.axles.length (ex k).2, .int .i64 j1, .int .i64 j2, .int .i64 a1, .int .i64 a2] 64)).drew).cell? ⟨W1.heap.size, 8, none⟩ = some (.int .i64 u.steer) := by go_simp
      have c9 : ((W1.alloc (.cells #[.int .i64 u.kind, .int .i64 u.length, .int .i64 u.behind, .int .i64 u.front, .int .i64 u.rear, .int .i64 u.width, .int .i64 u.height, .int .i64 u.mass, .int .i64 u.steer, .int .i64 u.most, .slice (ex k).1 u.axles.length (ex k).2, .int .i64 j1, .int .i64 j2, .int .i64 a1, .int .i64 a2] 64)).drew).cell? ⟨W1.heap.size, 9, none⟩ = some (.int .i64 u.most) := by go_simp
      have c10 : ((W1.alloc (.cells #[.int .i64 u.kind, .int .i64 u.length, .int .i64 u.behind, .int .i64 u.front, .int .i64 u.rear, .int .i64 u.width, .int .i64 u.height, .int .i64 u.mass, .int .i64 u.steer, .int .i64 u.most, .slice (ex k).1 u.axles.length (ex k).2, .int .i64 j1, .int .i64 j2, .int .i64 a1, .int .i64 a2] 64)).drew).cell? ⟨W1.heap.size, 10, none⟩ = some (.slice (ex k).1 u.axles.length (ex k).2) := by go_simp
      have c11 : ((W1.alloc (.cells #[.int .i64 u.kind, .int .i64 u.length, .int .i64 u.behind, .int .i64 u.front, .int .i64 u.rear, .int .i64 u.width, .int .i64 u.height, .int .i64 u.mass, .int .i64 u.steer, .int .i64 u.most, .slice (ex k).1 u.axles.length (ex k).2, .int .i64 j1, .int .i64 j2, .int .i64 a1, .int .i64 a2] 64)).drew).cell? ⟨W1.heap.size, 11, none⟩ = some (.int .i64 j1) := by go_simp
      have c12 : ((W1.alloc (.cells #[.int .i64 u.kind, .int .i64 u.length, .int .i64 u.behind, .int .i64 u.front, .int .i64 u.rear, .int .i64 u.width, .int .i64 u.height, .int .i64 u.mass, .int .i64 u.steer, .int .i64 u.most, .slice (ex k).1 u.axles.length (ex k).2, .int .i64 j1, .int .i64 j2, .int .i64 a1, .int .i64 a2] 64)).drew).cell? ⟨W1.heap.size, 12, none⟩ = some (.int .i64 j2) := by go_simp
      have c13 : ((W1.alloc (.cells #[.int .i64 u.kind, .int .i64 u.length, .int .i64 u.behind, .int .i64 u.front, .int .i64 u.rear, .int .i64 u.width, .int .i64 u.height, .int .i64 u.mass, .int .i64 u.steer, .int .i64 u.most, .slice (ex k).1 u.axles.length (ex k).2, .int .i64 j1, .int .i64 j2, .int .i64 a1, .int .i64 a2] 64)).drew).cell? ⟨W1.heap.size, 13, none⟩ = some (.int .i64 a1) := by go_simp
      have c14 : ((W1.alloc (.cells #[.int .i64 u.kind, .int .i64 u.length, .int .i64 u.behind, .int .i64 u.front, .int .i64 u.rear, .int .i64 u.width, .int .i64 u.height, .int .i64 u.mass, .int .i64 u.steer, .int .i64 u.most, .slice (ex k).1 u.axles.length (ex k).2, .int .i64 j1, .int .i64 j2, .int .i64 a1, .int .i64 a2] 64)).drew).cell? ⟨W1.heap.size, 14, none⟩ = some (.int .i64 a2) := by go_simp
      have pb2 : ((W1.alloc (.cells #[.int .i64 u.kind, .int .i64 u.length, .int .i64 u.behind, .int .i64 u.front, .int .i64 u.rear, .int .i64 u.width, .int .i64 u.height, .int .i64 u.mass, .int .i64 u.steer, .int .i64 u.most, .slice (ex k).1 u.axles.length (ex k).2, .int .i64 j1, .int .i64 j2, .int .i64 a1, .int .i64 a2] 64)).drew).heap[W1.heap.size]? = some (.cells #[.int .i64 u.kind, .int .i64 u.length, .int .i64 u.behind, .int .i64 u.front, .int .i64 u.rear, .int .i64 u.width, .int .i64 u.height, .int .i64 u.mass, .int .i64 u.steer, .int .i64 u.most, .slice (ex k).1 u.axles.length (ex k).2, .int .i64 j1, .int .i64 j2, .int .i64 a1, .int .i64 a2] 64 (0, 0)) := World.alloc_heap_new W1 _
      replace q0 := Ext.cell E2 q0
      replace q1 := Ext.cell E2 q1
      generalize ((W1.alloc (.cells #[.int .i64 u.kind, .int .i64 u.length, .int .i64 u.behind, .int .i64 u.front, .int .i64 u.rear, .int .i64 u.width, .int .i64 u.height, .int .i64 u.mass, .int .i64 u.steer, .int .i64 u.most, .slice (ex k).1 u.axles.length (ex k).2, .int .i64 j1, .int .i64 j2, .int .i64 a1, .int .i64 a2] 64)).drew) = W2 at *
      have hz1 := HZ1.out
      have hz2 := E2.size
      have EW2 : Ext w W2 := E.trans (ER.trans E2)
      have hA2 := HAA.out.ext (ER.trans E2)
      have hj2 := ((ER.trans E2).block W.heap.size hjl).trans HHJ.out
      have C := fun W => Check_c a1 a2 W
      have HC := Lib.hid C
      obtain ⟨v0, hv0, hr0⟩ := HAA.out.box
      have nv1 : v0.ownBlock ≠ some W1.heap.size := fun e => by have := row_lt hr0 e; omega
      have nv2 : v0.ownBlock ≠ some W.heap.size := row_ne hr0 HHJ.out (fun cur e => by simp at e)
      have hv2 := ((ER.trans E2).block w.heap.size (Array.getElem?_eq_some_iff.1 hv0).1).trans hv0
      have HBX := Lib.hid (And.intro hv2 (And.intro nv1 (And.intro nv2 (And.intro pb2 hj2))))
      have hlW := (Array.getElem?_eq_some_iff.1 hv2).1
      have nW1 : W1.heap.size ≠ w.heap.size := by omega
      have nW : W.heap.size ≠ w.heap.size := by omega
      have lW2 : W.heap.size < W2.heap.size := by omega
      clear hv0 hr0 nv1 nv2 hv2 pb2 hj2
      have nb1 : W.heap.size ≠ W1.heap.size := by omega
      have hlp := lt_of_cell c0
      clear u0 u1 u2 u3 u4 u5 u6 u7 u8 u9 u10 p0 p1 r6' m1 m2 m3 m4 b1 b2 b3 b4 C ER E2 E HHJ HAA hz1 hz2
      refine (‹∀ (a : Act) (w : World), Code.wp Tryz.prog _ _ a w → _›) _ _ ?_
      by_cases hbad : okPt (a1, a2) = false ∨ ((a1, a2) : Pt) = (j1, j2)
      · have hX' : pre = X := by
          have := HPR.out
          rw [putsX_bad hbad] at this
          simpa using this
        subst hX'
        have HA2 := Lib.hid hA2
        clear hA2 HPR
        cases hok : okPt (a1, a2)
        · rw [show checkS (a1, a2) = 2 by simp [checkS, hok]] at HC
          clear hbad hok
          go_wp2_with (go_at_call 43; refine (HC.out _).mono ?_; rintro e W3 ⟨rfl, hb3⟩)
          refine bodyPost_ret (results_none rfl _ _ _) rfl ?_
          exact ⟨⟨_, rfl⟩, HA2.out.ext hb3⟩
        · rw [show checkS (a1, a2) = 0 by simp [checkS, hok]] at HC
          rw [hok] at hbad
          simp only [Bool.true_eq_false, false_or, Prod.mk.injEq] at hbad
          obtain ⟨rfl, rfl⟩ := hbad
          clear hok
          go_wp2_with (go_at_call 43; refine (HC.out _).mono ?_; rintro e W3 ⟨rfl, hb3⟩; have q0' := Ext.cell hb3 q0; have q1' := Ext.cell hb3 q1; have c13' := Ext.cell hb3 c13; have c14' := Ext.cell hb3 c14)
          refine bodyPost_ret (results_none rfl _ _ _) rfl ?_
          exact ⟨⟨_, rfl⟩, HA2.out.ext hb3⟩
      · have hok : okPt (a1, a2) = true := by
          cases h : okPt (a1, a2)
          · exact absurd (.inl h) hbad
          · rfl
        have hne : ¬ ((a1, a2) : Pt) = (j1, j2) := fun e => hbad (.inr e)
        rw [show checkS (a1, a2) = 0 by simp [checkS, hok]] at HC
        obtain ⟨q, hq⟩ : ∃ q, placeS (a1, a2) (j1, j2) (rearN u) 0 = q := ⟨_, rfl⟩
        obtain ⟨rest, hX1, hX2, hX3⟩ : ∃ rest, pre ++ (⟨u, (ex k).1, (ex k).2, (j1, j2), (a1, a2)⟩ : PPut) :: rest = X ∧ (q.2 = 0 → rest = putsX ex (k + 1) q.1 (us.drop (k + 1)) (ps.drop (k + 1))) ∧ (¬ q.2 = 0 → rest = []) := by
          have := HPR.out
          by_cases h0 : q.2 = 0
          · rw [putsX_more hok hne (by rw [hq]; exact h0), hq] at this
            exact ⟨_, this, fun _ => rfl, fun h => absurd h0 h⟩
          · rw [putsX_last hok hne (by rw [hq]; exact h0)] at this
            exact ⟨_, this, fun h => absurd h h0, fun _ => rfl⟩
        have hlX : pre.length < X.length := by rw [← hX1]; simp
        have HYX := Lib.hid (fun W1 h => HY.out pre ⟨u, (ex k).1, (ex k).2, (j1, j2), (a1, a2)⟩ W1 h hlX)
        have CA : ∀ w', Calls Tryz.prog 29 #[.agg #[.int .i64 u.kind, .int .i64 u.length, .int .i64 u.behind, .int .i64 u.front, .int .i64 u.rear, .int .i64 u.width, .int .i64 u.height, .int .i64 u.mass, .int .i64 u.steer, .int .i64 u.most, .slice (ex k).1 u.axles.length (ex k).2, .int .i64 j1, .int .i64 j2, .int .i64 a1, .int .i64 a2], .int .i64 (rearN u), .int .i64 0] w' fun e w'' => e = .returned (ptV q) ∧ Ext w' w'' := fun w' => by
          have := at_c ⟨u, (ex k).1, (ex k).2, (j1, j2), (a1, a2)⟩ (rearN u) 0 w'
          rw [← hq]
          exact this
        have HCA := Lib.hid CA
        have CE : ∀ w', Ext w w' → Calls Tryz.prog 39 #[.agg #[.int .i64 u.kind, .int .i64 u.length, .int .i64 u.behind, .int .i64 u.front, .int .i64 u.rear, .int .i64 u.width, .int .i64 u.height, .int .i64 u.mass, .int .i64 u.steer, .int .i64 u.most, .slice (ex k).1 u.axles.length (ex k).2]] w' fun e w'' => e = .returned (.int .i64 (rearN u)) ∧ Ext w' w'' := fun w' h => end_c _ u w' hv (HAX.out.ext RAxle.stable h)
        have HCE := Lib.hid CE
        have HXX := Lib.hid (And.intro hX1 (And.intro hX2 hX3))
        have HA2 := Lib.hid hA2
        have hcase : ¬ a1 = j1 ∨ (a1 = j1 ∧ ¬ a2 = j2) := by
          by_cases h : a1 = j1
          · exact .inr ⟨h, fun h2 => hne (by rw [h, h2])⟩
          · exact .inl h
        clear hbad hne hok hq hX1 hX2 hX3 CA CE hA2 HPR
        rcases hcase with e1 | ⟨rfl, e2⟩
        · refine (wpIn_wide (n := 4)).1 ?_
          gi_wp2_with (refine ⟨trivial, ?_⟩; gi_at_call 43; refine (callsIn_wide.2 (HC.out _)).mono ?_; rintro e W3 ⟨rfl, hb3⟩; obtain ⟨fn', tmps', asg', bod', hy, hR⟩ := HYX.out W3 (HA2.out.ext hb3); dsimp only [putV] at hy; have q0' := Ext.cell hb3 q0; have q1' := Ext.cell hb3 q1; have c0' := Ext.cell hb3 c0; have c1' := Ext.cell hb3 c1; have c2' := Ext.cell hb3 c2; have c3' := Ext.cell hb3 c3; have c4' := Ext.cell hb3 c4; have c5' := Ext.cell hb3 c5; have c6' := Ext.cell hb3 c6; have c7' := Ext.cell hb3 c7; have c8' := Ext.cell hb3 c8; have c9' := Ext.cell hb3 c9; have c10' := Ext.cell hb3 c10; have c11' := Ext.cell hb3 c11; have c12' := Ext.cell hb3 c12; have c13' := Ext.cell hb3 c13; have c14' := Ext.cell hb3 c14)
          refine hR.mono ?_
          rintro e W4 ⟨rfl, hA4, hK4⟩
          have hz3 := hb3.size
          obtain ⟨hv2, nv1, nv2, pb2, hj2⟩ := HBX.out
          have row4 : ∀ v, W3.heap[w.heap.size]? = some (.cells #[v] 77 (0, 0)) → v.ownBlock ≠ some W1.heap.size ∧ v.ownBlock ≠ some W.heap.size := fun v h => by
            rw [hb3.block w.heap.size hlW, hv2] at h
            simp at h
            subst h
            exact ⟨nv1, nv2⟩
          have pb4 := (hK4.2 W1.heap.size _ _ _ ((hb3.block W1.heap.size hlp).trans pb2) nW1 (fun v h => (row4 v h).1)).trans ((hb3.block W1.heap.size hlp).trans pb2)
          have hj4 := (hK4.2 W.heap.size _ _ _ ((hb3.block W.heap.size lW2).trans hj2) nW (fun v h => (row4 v h).2)).trans ((hb3.block W.heap.size lW2).trans hj2)
          clear hv2 nv1 nv2 pb2 hj2 row4 hR hy q0' q1' c0' c1' c2' c3' c4' c5' c6' c7' c8' c9' c10' c11' c12' c13' c14' c0 c1 c2 c3 c4 c5 c6 c7 c8 c9 c10 c11 c12 c13 c14 q0 q1
          have EW4 : Ext w W4 := hA4.below
          have HA4 := Lib.hid hA4
          have z4 := hK4.1
          clear hA4 hK4 hb3
          gi_wp2
          refine wpIn_wide.2 ?_
          have d0 := World.news_of_block pb4 0 _ rfl
          have d1 := World.news_of_block pb4 1 _ rfl
          have d2 := World.news_of_block pb4 2 _ rfl
          have d3 := World.news_of_block pb4 3 _ rfl
          have d4 := World.news_of_block pb4 4 _ rfl
          have d5 := World.news_of_block pb4 5 _ rfl
          have d6 := World.news_of_block pb4 6 _ rfl
          have d7 := World.news_of_block pb4 7 _ rfl
          have d8 := World.news_of_block pb4 8 _ rfl
          have d9 := World.news_of_block pb4 9 _ rfl
          have d10 := World.news_of_block pb4 10 _ rfl
          have d11 := World.news_of_block pb4 11 _ rfl
          have d12 := World.news_of_block pb4 12 _ rfl
          have d13 := World.news_of_block pb4 13 _ rfl
          have d14 := World.news_of_block pb4 14 _ rfl
          have hl4 := lt_of_cell (show W4.cell? ⟨W1.heap.size, 0, none⟩ = _ from d0)
          simp only [add_none, Nat.zero_add] at d0 d1 d2 d3 d4 d5 d6 d7 d8 d9 d10 d11 d12 d13 d14
          have m1 := World.new_ne W4 _ d0
          simp only at m1
          go_region_held3 (fun w' => w'.cell? ⟨W1.heap.size, 0, none⟩ = some (.int .i64 u.kind) ∧ w'.cell? ⟨W1.heap.size, 1, none⟩ = some (.int .i64 u.length) ∧ w'.cell? ⟨W1.heap.size, 2, none⟩ = some (.int .i64 u.behind) ∧ w'.cell? ⟨W1.heap.size, 3, none⟩ = some (.int .i64 u.front) ∧ w'.cell? ⟨W1.heap.size, 4, none⟩ = some (.int .i64 u.rear) ∧ w'.cell? ⟨W1.heap.size, 5, none⟩ = some (.int .i64 u.width) ∧ w'.cell? ⟨W1.heap.size, 6, none⟩ = some (.int .i64 u.height) ∧ w'.cell? ⟨W1.heap.size, 7, none⟩ = some (.int .i64 u.mass) ∧ w'.cell? ⟨W1.heap.size, 8, none⟩ = some (.int .i64 u.steer) ∧ w'.cell? ⟨W1.heap.size, 9, none⟩ = some (.int .i64 u.most) ∧ w'.cell? ⟨W1.heap.size, 10, none⟩ = some (.slice (ex k).1 u.axles.length (ex k).2) ∧ w'.cell? ⟨W1.heap.size, 11, none⟩ = some (.int .i64 j1) ∧ w'.cell? ⟨W1.heap.size, 12, none⟩ = some (.int .i64 j2) ∧ w'.cell? ⟨W1.heap.size, 13, none⟩ = some (.int .i64 a1) ∧ w'.cell? ⟨W1.heap.size, 14, none⟩ = some (.int .i64 a2)) (refine ⟨?_, ?_, ?_, ?_, ?_, ?_, ?_, ?_, ?_, ?_, ?_, ?_, ?_, ?_, ?_⟩ <;> (repeat' (with_reducible (first | assumption | refine Ext.cell hb6 ?_ | refine Ext.cell hb5 ?_ | refine Ext.cell (Ext.refl _).drew ?_ | refine cell_set_ne (by first | omega | (simp; omega)) ?_ | refine Ext.cell ((Ext.refl _).alloc _) ?_)))) (first
            | (go_at_call 39; refine (HCE.out _ (by (repeat' (first | exact Ext.refl _ | assumption | refine Ext.alloc ?_ _ | refine Ext.drew ?_ | refine Ext.drewN ?_ _ | refine Ext.set ?_ (by first | exact Nat.le_refl _ | exact le1 _ | exact le2 _ | exact le3 _ | exact le4 _ | exact le5 _ | exact le6 _) _ | refine Ext.trans ?_ (by assumption))))).mono ?_; rintro e w5 ⟨rfl, hb5⟩; have z5 := hb5.size; (first | rw [size_alloc, size_drew] at z5 | rw [size_drew] at z5); (try (have yb : w5.heap[W4.heap.size]? = some (.cells #[.int .i64 0, .int .i64 0] 26 (0, 0)) := new_kept (W := W4.drew) hb5)))
            | (go_at_call 29; refine (HCA.out _).mono ?_; rintro e w6 ⟨rfl, hb6⟩; unfold ptV; have z6 := hb6.size; (try rw [size_alloc] at z6); (try (first | (have yc : w6.heap[W4.heap.size]? = some (.cells #[.int .i64 0, .int .i64 0] 26 (0, 0)) := (hb6.block _ (Array.getElem?_eq_some_iff.1 yb).1).trans yb; have y0 : w6.cell? ⟨W4.heap.size, 0, none⟩ = some (.int .i64 0) := World.news_of_block yc 0 _ rfl; have y1 : w6.cell? ⟨W4.heap.size, 1, none⟩ = some (.int .i64 0) := World.news_of_block yc 1 _ rfl; have f0 := blk_frz yc 0; have f1 := blk_frz yc 1) | (have yc : w6.heap[w5.heap.size]? = some (.cells #[.int .i64 0, .int .i64 0] 26 (0, 0)) := new_kept (W := w5) hb6; have y0 : w6.cell? ⟨w5.heap.size, 0, none⟩ = some (.int .i64 0) := World.news_of_block yc 0 _ rfl; have y1 : w6.cell? ⟨w5.heap.size, 1, none⟩ = some (.int .i64 0) := World.news_of_block yc 1 _ rfl; have f0 := blk_frz yc 0; have f1 := blk_frz yc 1)))))
          · have E7 : Ext W4 (w6.alloc (.cells #[.int .i64 q.1.1, .int .i64 q.1.2] 26)) := by (repeat' (first | exact Ext.refl _ | assumption | refine Ext.alloc ?_ _ | refine Ext.drew ?_ | refine Ext.drewN ?_ _ | refine Ext.set ?_ (by first | exact Nat.le_refl _ | exact le1 _ | exact le2 _ | exact le3 _ | exact le4 _ | exact le5 _ | exact le6 _) _ | refine Ext.trans ?_ (by assumption)))
            have x0 : (w6.alloc (.cells #[.int .i64 q.1.1, .int .i64 q.1.2] 26)).cell? ⟨w6.heap.size, 0, none⟩ = some (.int .i64 q.1.1) := World.news_of_block (World.alloc_heap_new w6 _) 0 _ rfl
            have x1 : (w6.alloc (.cells #[.int .i64 q.1.1, .int .i64 q.1.2] 26)).cell? ⟨w6.heap.size, 1, none⟩ = some (.int .i64 q.1.2) := World.news_of_block (World.alloc_heap_new w6 _) 1 _ rfl
            generalize (w6.alloc (.cells #[.int .i64 q.1.1, .int .i64 q.1.2] 26)) = W7 at *
            refine (‹∀ (a : Act) (w : World), Code.wpIn Fence.wide 4 Tryz.prog _ _ a w → _›) _ _ ?_
            refine wpIn_wide.2 ?_
            have jb := (E7.block W.heap.size (Array.getElem?_eq_some_iff.1 hj4).1).trans hj4
            have t0 : W7.cell? ⟨W.heap.size, 0, none⟩ = some (.int .i64 j1) := World.news_of_block jb 0 _ rfl
            have t1 : W7.cell? ⟨W.heap.size, 1, none⟩ = some (.int .i64 j2) := World.news_of_block jb 1 _ rfl
            have g0 := blk_frz jb 0
            have g1 := blk_frz jb 1
            have HJ := Lib.hid jb
            clear jb
            by_cases h0 : q.2 = 0
            · go_wp2_with fail
              go_roundw
              case rel => exact ⟨k + 1, pre ++ [⟨u, (ex k).1, (ex k).2, (j1, j2), (a1, a2)⟩], q.1.1, q.1.2, by omega, by go_num, ((HA4.out.ext E7).set (p := ⟨W.heap.size, 0, none⟩) HJ.out hsW _).set (p := ⟨W.heap.size, 1, none⟩) (two0 _ HJ.out) hsW _, two1 _ (two0 _ HJ.out), by rw [List.append_assoc, ← HXX.out.1, HXX.out.2.1 h0]; rfl⟩
              case measure => simp [intOf]; omega
            · go_wp2_with fail
              refine bodyPost_ret (results_none rfl _ _ _) rfl ?_
              exact ⟨⟨_, rfl⟩, by rw [← HXX.out.1, HXX.out.2.2 h0]; exact HA4.out.ext E7⟩
          · have E6 : Ext W4 w6 := by (repeat' (first | exact Ext.refl _ | assumption | refine Ext.alloc ?_ _ | refine Ext.drew ?_ | refine Ext.drewN ?_ _ | refine Ext.set ?_ (by first | exact Nat.le_refl _ | exact le1 _ | exact le2 _ | exact le3 _ | exact le4 _ | exact le5 _ | exact le6 _) _ | refine Ext.trans ?_ (by assumption)))
            have E7 : Ext W4 ((w6.setCell ⟨w5.heap.size, 0, none⟩ (.int .i64 q.1.1)).setCell ⟨w5.heap.size, 1, none⟩ (.int .i64 q.1.2)) := (E6.set (p := ⟨w5.heap.size, 0, none⟩) (z5) _).set (p := ⟨w5.heap.size, 1, none⟩) (z5) _
            have x0 : ((w6.setCell ⟨w5.heap.size, 0, none⟩ (.int .i64 q.1.1)).setCell ⟨w5.heap.size, 1, none⟩ (.int .i64 q.1.2)).cell? ⟨w5.heap.size, 0, none⟩ = some (.int .i64 q.1.1) := World.news_of_block (two1 _ (two0 _ yc)) 0 _ rfl
            have x1 : ((w6.setCell ⟨w5.heap.size, 0, none⟩ (.int .i64 q.1.1)).setCell ⟨w5.heap.size, 1, none⟩ (.int .i64 q.1.2)).cell? ⟨w5.heap.size, 1, none⟩ = some (.int .i64 q.1.2) := World.news_of_block (two1 _ (two0 _ yc)) 1 _ rfl
            clear y0 y1 f0 f1
            generalize ((w6.setCell ⟨w5.heap.size, 0, none⟩ (.int .i64 q.1.1)).setCell ⟨w5.heap.size, 1, none⟩ (.int .i64 q.1.2)) = W7 at *
            refine (‹∀ (a : Act) (w : World), Code.wpIn Fence.wide 4 Tryz.prog _ _ a w → _›) _ _ ?_
            refine wpIn_wide.2 ?_
            have jb := (E7.block W.heap.size (Array.getElem?_eq_some_iff.1 hj4).1).trans hj4
            have t0 : W7.cell? ⟨W.heap.size, 0, none⟩ = some (.int .i64 j1) := World.news_of_block jb 0 _ rfl
            have t1 : W7.cell? ⟨W.heap.size, 1, none⟩ = some (.int .i64 j2) := World.news_of_block jb 1 _ rfl
            have g0 := blk_frz jb 0
            have g1 := blk_frz jb 1
            have HJ := Lib.hid jb
            clear jb
            by_cases h0 : q.2 = 0
            · go_wp2_with fail
              go_roundw
              case rel => exact ⟨k + 1, pre ++ [⟨u, (ex k).1, (ex k).2, (j1, j2), (a1, a2)⟩], q.1.1, q.1.2, by omega, by go_num, ((HA4.out.ext E7).set (p := ⟨W.heap.size, 0, none⟩) HJ.out hsW _).set (p := ⟨W.heap.size, 1, none⟩) (two0 _ HJ.out) hsW _, two1 _ (two0 _ HJ.out), by rw [List.append_assoc, ← HXX.out.1, HXX.out.2.1 h0]; rfl⟩
              case measure => simp [intOf]; omega
            · go_wp2_with fail
              refine bodyPost_ret (results_none rfl _ _ _) rfl ?_
              exact ⟨⟨_, rfl⟩, by rw [← HXX.out.1, HXX.out.2.2 h0]; exact HA4.out.ext E7⟩
          · have E6 : Ext W4 w6 := by (repeat' (first | exact Ext.refl _ | assumption | refine Ext.alloc ?_ _ | refine Ext.drew ?_ | refine Ext.drewN ?_ _ | refine Ext.set ?_ (by first | exact Nat.le_refl _ | exact le1 _ | exact le2 _ | exact le3 _ | exact le4 _ | exact le5 _ | exact le6 _) _ | refine Ext.trans ?_ (by assumption)))
            have E7 : Ext W4 ((w6.setCell ⟨W4.heap.size, 0, none⟩ (.int .i64 q.1.1)).setCell ⟨W4.heap.size, 1, none⟩ (.int .i64 q.1.2)) := (E6.set (p := ⟨W4.heap.size, 0, none⟩) (Nat.le_refl _) _).set (p := ⟨W4.heap.size, 1, none⟩) (Nat.le_refl _) _
            have x0 : ((w6.setCell ⟨W4.heap.size, 0, none⟩ (.int .i64 q.1.1)).setCell ⟨W4.heap.size, 1, none⟩ (.int .i64 q.1.2)).cell? ⟨W4.heap.size, 0, none⟩ = some (.int .i64 q.1.1) := World.news_of_block (two1 _ (two0 _ yc)) 0 _ rfl
            have x1 : ((w6.setCell ⟨W4.heap.size, 0, none⟩ (.int .i64 q.1.1)).setCell ⟨W4.heap.size, 1, none⟩ (.int .i64 q.1.2)).cell? ⟨W4.heap.size, 1, none⟩ = some (.int .i64 q.1.2) := World.news_of_block (two1 _ (two0 _ yc)) 1 _ rfl
            clear y0 y1 f0 f1
            generalize ((w6.setCell ⟨W4.heap.size, 0, none⟩ (.int .i64 q.1.1)).setCell ⟨W4.heap.size, 1, none⟩ (.int .i64 q.1.2)) = W7 at *
            refine (‹∀ (a : Act) (w : World), Code.wpIn Fence.wide 4 Tryz.prog _ _ a w → _›) _ _ ?_
            refine wpIn_wide.2 ?_
            have jb := (E7.block W.heap.size (Array.getElem?_eq_some_iff.1 hj4).1).trans hj4
            have t0 : W7.cell? ⟨W.heap.size, 0, none⟩ = some (.int .i64 j1) := World.news_of_block jb 0 _ rfl
            have t1 : W7.cell? ⟨W.heap.size, 1, none⟩ = some (.int .i64 j2) := World.news_of_block jb 1 _ rfl
            have g0 := blk_frz jb 0
            have g1 := blk_frz jb 1
            have HJ := Lib.hid jb
            clear jb
            by_cases h0 : q.2 = 0
            · go_wp2_with fail
              go_roundw
              case rel => exact ⟨k + 1, pre ++ [⟨u, (ex k).1, (ex k).2, (j1, j2), (a1, a2)⟩], q.1.1, q.1.2, by omega, by go_num, ((HA4.out.ext E7).set (p := ⟨W.heap.size, 0, none⟩) HJ.out hsW _).set (p := ⟨W.heap.size, 1, none⟩) (two0 _ HJ.out) hsW _, two1 _ (two0 _ HJ.out), by rw [List.append_assoc, ← HXX.out.1, HXX.out.2.1 h0]; rfl⟩
              case measure => simp [intOf]; omega
            · go_wp2_with fail
              refine bodyPost_ret (results_none rfl _ _ _) rfl ?_
              exact ⟨⟨_, rfl⟩, by rw [← HXX.out.1, HXX.out.2.2 h0]; exact HA4.out.ext E7⟩
        · refine (wpIn_wide (n := 4)).1 ?_
          gi_wp2_with (refine ⟨trivial, ?_⟩; gi_at_call 43; refine (callsIn_wide.2 (HC.out _)).mono ?_; rintro e W3 ⟨rfl, hb3⟩; obtain ⟨fn', tmps', asg', bod', hy, hR⟩ := HYX.out W3 (HA2.out.ext hb3); dsimp only [putV] at hy; have q0' := Ext.cell hb3 q0; have q1' := Ext.cell hb3 q1; have c0' := Ext.cell hb3 c0; have c1' := Ext.cell hb3 c1; have c2' := Ext.cell hb3 c2; have c3' := Ext.cell hb3 c3; have c4' := Ext.cell hb3 c4; have c5' := Ext.cell hb3 c5; have c6' := Ext.cell hb3 c6; have c7' := Ext.cell hb3 c7; have c8' := Ext.cell hb3 c8; have c9' := Ext.cell hb3 c9; have c10' := Ext.cell hb3 c10; have c11' := Ext.cell hb3 c11; have c12' := Ext.cell hb3 c12; have c13' := Ext.cell hb3 c13; have c14' := Ext.cell hb3 c14)
          refine hR.mono ?_
          rintro e W4 ⟨rfl, hA4, hK4⟩
          have hz3 := hb3.size
          obtain ⟨hv2, nv1, nv2, pb2, hj2⟩ := HBX.out
          have row4 : ∀ v, W3.heap[w.heap.size]? = some (.cells #[v] 77 (0, 0)) → v.ownBlock ≠ some W1.heap.size ∧ v.ownBlock ≠ some W.heap.size := fun v h => by
            rw [hb3.block w.heap.size hlW, hv2] at h
            simp at h
            subst h
            exact ⟨nv1, nv2⟩
          have pb4 := (hK4.2 W1.heap.size _ _ _ ((hb3.block W1.heap.size hlp).trans pb2) nW1 (fun v h => (row4 v h).1)).trans ((hb3.block W1.heap.size hlp).trans pb2)
          have hj4 := (hK4.2 W.heap.size _ _ _ ((hb3.block W.heap.size lW2).trans hj2) nW (fun v h => (row4 v h).2)).trans ((hb3.block W.heap.size lW2).trans hj2)
          clear hv2 nv1 nv2 pb2 hj2 row4 hR hy q0' q1' c0' c1' c2' c3' c4' c5' c6' c7' c8' c9' c10' c11' c12' c13' c14' c0 c1 c2 c3 c4 c5 c6 c7 c8 c9 c10 c11 c12 c13 c14 q0 q1
          have EW4 : Ext w W4 := hA4.below
          have HA4 := Lib.hid hA4
          have z4 := hK4.1
          clear hA4 hK4 hb3
          gi_wp2
          refine wpIn_wide.2 ?_
          have d0 := World.news_of_block pb4 0 _ rfl
          have d1 := World.news_of_block pb4 1 _ rfl
          have d2 := World.news_of_block pb4 2 _ rfl
          have d3 := World.news_of_block pb4 3 _ rfl
          have d4 := World.news_of_block pb4 4 _ rfl
          have d5 := World.news_of_block pb4 5 _ rfl
          have d6 := World.news_of_block pb4 6 _ rfl
          have d7 := World.news_of_block pb4 7 _ rfl
          have d8 := World.news_of_block pb4 8 _ rfl
          have d9 := World.news_of_block pb4 9 _ rfl
          have d10 := World.news_of_block pb4 10 _ rfl
          have d11 := World.news_of_block pb4 11 _ rfl
          have d12 := World.news_of_block pb4 12 _ rfl
          have d13 := World.news_of_block pb4 13 _ rfl
          have d14 := World.news_of_block pb4 14 _ rfl
          have hl4 := lt_of_cell (show W4.cell? ⟨W1.heap.size, 0, none⟩ = _ from d0)
          simp only [add_none, Nat.zero_add] at d0 d1 d2 d3 d4 d5 d6 d7 d8 d9 d10 d11 d12 d13 d14
          have m1 := World.new_ne W4 _ d0
          simp only at m1
          go_region_held3 (fun w' => w'.cell? ⟨W1.heap.size, 0, none⟩ = some (.int .i64 u.kind) ∧ w'.cell? ⟨W1.heap.size, 1, none⟩ = some (.int .i64 u.length) ∧ w'.cell? ⟨W1.heap.size, 2, none⟩ = some (.int .i64 u.behind) ∧ w'.cell? ⟨W1.heap.size, 3, none⟩ = some (.int .i64 u.front) ∧ w'.cell? ⟨W1.heap.size, 4, none⟩ = some (.int .i64 u.rear) ∧ w'.cell? ⟨W1.heap.size, 5, none⟩ = some (.int .i64 u.width) ∧ w'.cell? ⟨W1.heap.size, 6, none⟩ = some (.int .i64 u.height) ∧ w'.cell? ⟨W1.heap.size, 7, none⟩ = some (.int .i64 u.mass) ∧ w'.cell? ⟨W1.heap.size, 8, none⟩ = some (.int .i64 u.steer) ∧ w'.cell? ⟨W1.heap.size, 9, none⟩ = some (.int .i64 u.most) ∧ w'.cell? ⟨W1.heap.size, 10, none⟩ = some (.slice (ex k).1 u.axles.length (ex k).2) ∧ w'.cell? ⟨W1.heap.size, 11, none⟩ = some (.int .i64 a1) ∧ w'.cell? ⟨W1.heap.size, 12, none⟩ = some (.int .i64 j2) ∧ w'.cell? ⟨W1.heap.size, 13, none⟩ = some (.int .i64 a1) ∧ w'.cell? ⟨W1.heap.size, 14, none⟩ = some (.int .i64 a2)) (refine ⟨?_, ?_, ?_, ?_, ?_, ?_, ?_, ?_, ?_, ?_, ?_, ?_, ?_, ?_, ?_⟩ <;> (repeat' (with_reducible (first | assumption | refine Ext.cell hb6 ?_ | refine Ext.cell hb5 ?_ | refine Ext.cell (Ext.refl _).drew ?_ | refine cell_set_ne (by first | omega | (simp; omega)) ?_ | refine Ext.cell ((Ext.refl _).alloc _) ?_)))) (first
            | (go_at_call 39; refine (HCE.out _ (by (repeat' (first | exact Ext.refl _ | assumption | refine Ext.alloc ?_ _ | refine Ext.drew ?_ | refine Ext.drewN ?_ _ | refine Ext.set ?_ (by first | exact Nat.le_refl _ | exact le1 _ | exact le2 _ | exact le3 _ | exact le4 _ | exact le5 _ | exact le6 _) _ | refine Ext.trans ?_ (by assumption))))).mono ?_; rintro e w5 ⟨rfl, hb5⟩; have z5 := hb5.size; (first | rw [size_alloc, size_drew] at z5 | rw [size_drew] at z5); (try (have yb : w5.heap[W4.heap.size]? = some (.cells #[.int .i64 0, .int .i64 0] 26 (0, 0)) := new_kept (W := W4.drew) hb5)))
            | (go_at_call 29; refine (HCA.out _).mono ?_; rintro e w6 ⟨rfl, hb6⟩; unfold ptV; have z6 := hb6.size; (try rw [size_alloc] at z6); (try (first | (have yc : w6.heap[W4.heap.size]? = some (.cells #[.int .i64 0, .int .i64 0] 26 (0, 0)) := (hb6.block _ (Array.getElem?_eq_some_iff.1 yb).1).trans yb; have y0 : w6.cell? ⟨W4.heap.size, 0, none⟩ = some (.int .i64 0) := World.news_of_block yc 0 _ rfl; have y1 : w6.cell? ⟨W4.heap.size, 1, none⟩ = some (.int .i64 0) := World.news_of_block yc 1 _ rfl; have f0 := blk_frz yc 0; have f1 := blk_frz yc 1) | (have yc : w6.heap[w5.heap.size]? = some (.cells #[.int .i64 0, .int .i64 0] 26 (0, 0)) := new_kept (W := w5) hb6; have y0 : w6.cell? ⟨w5.heap.size, 0, none⟩ = some (.int .i64 0) := World.news_of_block yc 0 _ rfl; have y1 : w6.cell? ⟨w5.heap.size, 1, none⟩ = some (.int .i64 0) := World.news_of_block yc 1 _ rfl; have f0 := blk_frz yc 0; have f1 := blk_frz yc 1)))))
          · have E7 : Ext W4 (w6.alloc (.cells #[.int .i64 q.1.1, .int .i64 q.1.2] 26)) := by (repeat' (first | exact Ext.refl _ | assumption | refine Ext.alloc ?_ _ | refine Ext.drew ?_ | refine Ext.drewN ?_ _ | refine Ext.set ?_ (by first | exact Nat.le_refl _ | exact le1 _ | exact le2 _ | exact le3 _ | exact le4 _ | exact le5 _ | exact le6 _) _ | refine Ext.trans ?_ (by assumption)))
            have x0 : (w6.alloc (.cells #[.int .i64 q.1.1, .int .i64 q.1.2] 26)).cell? ⟨w6.heap.size, 0, none⟩ = some (.int .i64 q.1.1) := World.news_of_block (World.alloc_heap_new w6 _) 0 _ rfl
            have x1 : (w6.alloc (.cells #[.int .i64 q.1.1, .int .i64 q.1.2] 26)).cell? ⟨w6.heap.size, 1, none⟩ = some (.int .i64 q.1.2) := World.news_of_block (World.alloc_heap_new w6 _) 1 _ rfl
            generalize (w6.alloc (.cells #[.int .i64 q.1.1, .int .i64 q.1.2] 26)) = W7 at *
            refine (‹∀ (a : Act) (w : World), Code.wpIn Fence.wide 4 Tryz.prog _ _ a w → _›) _ _ ?_
            refine wpIn_wide.2 ?_
            have jb := (E7.block W.heap.size (Array.getElem?_eq_some_iff.1 hj4).1).trans hj4
            have t0 : W7.cell? ⟨W.heap.size, 0, none⟩ = some (.int .i64 a1) := World.news_of_block jb 0 _ rfl
            have t1 : W7.cell? ⟨W.heap.size, 1, none⟩ = some (.int .i64 j2) := World.news_of_block jb 1 _ rfl
            have g0 := blk_frz jb 0
            have g1 := blk_frz jb 1
            have HJ := Lib.hid jb
            clear jb
            by_cases h0 : q.2 = 0
            · go_wp2_with fail
              go_roundw
              case rel => exact ⟨k + 1, pre ++ [⟨u, (ex k).1, (ex k).2, (a1, j2), (a1, a2)⟩], q.1.1, q.1.2, by omega, by go_num, ((HA4.out.ext E7).set (p := ⟨W.heap.size, 0, none⟩) HJ.out hsW _).set (p := ⟨W.heap.size, 1, none⟩) (two0 _ HJ.out) hsW _, two1 _ (two0 _ HJ.out), by rw [List.append_assoc, ← HXX.out.1, HXX.out.2.1 h0]; rfl⟩
              case measure => simp [intOf]; omega
            · go_wp2_with fail
              refine bodyPost_ret (results_none rfl _ _ _) rfl ?_
              exact ⟨⟨_, rfl⟩, by rw [← HXX.out.1, HXX.out.2.2 h0]; exact HA4.out.ext E7⟩
          · have E6 : Ext W4 w6 := by (repeat' (first | exact Ext.refl _ | assumption | refine Ext.alloc ?_ _ | refine Ext.drew ?_ | refine Ext.drewN ?_ _ | refine Ext.set ?_ (by first | exact Nat.le_refl _ | exact le1 _ | exact le2 _ | exact le3 _ | exact le4 _ | exact le5 _ | exact le6 _) _ | refine Ext.trans ?_ (by assumption)))
            have E7 : Ext W4 ((w6.setCell ⟨w5.heap.size, 0, none⟩ (.int .i64 q.1.1)).setCell ⟨w5.heap.size, 1, none⟩ (.int .i64 q.1.2)) := (E6.set (p := ⟨w5.heap.size, 0, none⟩) (z5) _).set (p := ⟨w5.heap.size, 1, none⟩) (z5) _
            have x0 : ((w6.setCell ⟨w5.heap.size, 0, none⟩ (.int .i64 q.1.1)).setCell ⟨w5.heap.size, 1, none⟩ (.int .i64 q.1.2)).cell? ⟨w5.heap.size, 0, none⟩ = some (.int .i64 q.1.1) := World.news_of_block (two1 _ (two0 _ yc)) 0 _ rfl
            have x1 : ((w6.setCell ⟨w5.heap.size, 0, none⟩ (.int .i64 q.1.1)).setCell ⟨w5.heap.size, 1, none⟩ (.int .i64 q.1.2)).cell? ⟨w5.heap.size, 1, none⟩ = some (.int .i64 q.1.2) := World.news_of_block (two1 _ (two0 _ yc)) 1 _ rfl
            clear y0 y1 f0 f1
            generalize ((w6.setCell ⟨w5.heap.size, 0, none⟩ (.int .i64 q.1.1)).setCell ⟨w5.heap.size, 1, none⟩ (.int .i64 q.1.2)) = W7 at *
            refine (‹∀ (a : Act) (w : World), Code.wpIn Fence.wide 4 Tryz.prog _ _ a w → _›) _ _ ?_
            refine wpIn_wide.2 ?_
            have jb := (E7.block W.heap.size (Array.getElem?_eq_some_iff.1 hj4).1).trans hj4
            have t0 : W7.cell? ⟨W.heap.size, 0, none⟩ = some (.int .i64 a1) := World.news_of_block jb 0 _ rfl
            have t1 : W7.cell? ⟨W.heap.size, 1, none⟩ = some (.int .i64 j2) := World.news_of_block jb 1 _ rfl
            have g0 := blk_frz jb 0
            have g1 := blk_frz jb 1
            have HJ := Lib.hid jb
            clear jb
            by_cases h0 : q.2 = 0
            · go_wp2_with fail
              go_roundw
              case rel => exact ⟨k + 1, pre ++ [⟨u, (ex k).1, (ex k).2, (a1, j2), (a1, a2)⟩], q.1.1, q.1.2, by omega, by go_num, ((HA4.out.ext E7).set (p := ⟨W.heap.size, 0, none⟩) HJ.out hsW _).set (p := ⟨W.heap.size, 1, none⟩) (two0 _ HJ.out) hsW _, two1 _ (two0 _ HJ.out), by rw [List.append_assoc, ← HXX.out.1, HXX.out.2.1 h0]; rfl⟩
              case measure => simp [intOf]; omega
            · go_wp2_with fail
              refine bodyPost_ret (results_none rfl _ _ _) rfl ?_
              exact ⟨⟨_, rfl⟩, by rw [← HXX.out.1, HXX.out.2.2 h0]; exact HA4.out.ext E7⟩
          · have E6 : Ext W4 w6 := by (repeat' (first | exact Ext.refl _ | assumption | refine Ext.alloc ?_ _ | refine Ext.drew ?_ | refine Ext.drewN ?_ _ | refine Ext.set ?_ (by first | exact Nat.le_refl _ | exact le1 _ | exact le2 _ | exact le3 _ | exact le4 _ | exact le5 _ | exact le6 _) _ | refine Ext.trans ?_ (by assumption)))
            have E7 : Ext W4 ((w6.setCell ⟨W4.heap.size, 0, none⟩ (.int .i64 q.1.1)).setCell ⟨W4.heap.size, 1, none⟩ (.int .i64 q.1.2)) := (E6.set (p := ⟨W4.heap.size, 0, none⟩) (Nat.le_refl _) _).set (p := ⟨W4.heap.size, 1, none⟩) (Nat.le_refl _) _
            have x0 : ((w6.setCell ⟨W4.heap.size, 0, none⟩ (.int .i64 q.1.1)).setCell ⟨W4.heap.size, 1, none⟩ (.int .i64 q.1.2)).cell? ⟨W4.heap.size, 0, none⟩ = some (.int .i64 q.1.1) := World.news_of_block (two1 _ (two0 _ yc)) 0 _ rfl
            have x1 : ((w6.setCell ⟨W4.heap.size, 0, none⟩ (.int .i64 q.1.1)).setCell ⟨W4.heap.size, 1, none⟩ (.int .i64 q.1.2)).cell? ⟨W4.heap.size, 1, none⟩ = some (.int .i64 q.1.2) := World.news_of_block (two1 _ (two0 _ yc)) 1 _ rfl
            clear y0 y1 f0 f1
            generalize ((w6.setCell ⟨W4.heap.size, 0, none⟩ (.int .i64 q.1.1)).setCell ⟨W4.heap.size, 1, none⟩ (.int .i64 q.1.2)) = W7 at *
            refine (‹∀ (a : Act) (w : World), Code.wpIn Fence.wide 4 Tryz.prog _ _ a w → _›) _ _ ?_
            refine wpIn_wide.2 ?_
            have jb := (E7.block W.heap.size (Array.getElem?_eq_some_iff.1 hj4).1).trans hj4
            have t0 : W7.cell? ⟨W.heap.size, 0, none⟩ = some (.int .i64 a1) := World.news_of_block jb 0 _ rfl
            have t1 : W7.cell? ⟨W.heap.size, 1, none⟩ = some (.int .i64 j2) := World.news_of_block jb 1 _ rfl
            have g0 := blk_frz jb 0
            have g1 := blk_frz jb 1
            have HJ := Lib.hid jb
            clear jb
            by_cases h0 : q.2 = 0
            · go_wp2_with fail
              go_roundw
              case rel => exact ⟨k + 1, pre ++ [⟨u, (ex k).1, (ex k).2, (a1, j2), (a1, a2)⟩], q.1.1, q.1.2, by omega, by go_num, ((HA4.out.ext E7).set (p := ⟨W.heap.size, 0, none⟩) HJ.out hsW _).set (p := ⟨W.heap.size, 1, none⟩) (two0 _ HJ.out) hsW _, two1 _ (two0 _ HJ.out), by rw [List.append_assoc, ← HXX.out.1, HXX.out.2.1 h0]; rfl⟩
              case measure => simp [intOf]; omega
            · go_wp2_with fail
              refine bodyPost_ret (results_none rfl _ _ _) rfl ?_
              exact ⟨⟨_, rfl⟩, by rw [← HXX.out.1, HXX.out.2.2 h0]; exact HA4.out.ext E7⟩
    · obtain rfl : k = us.length := by omega
      rw [List.drop_eq_nil_of_le (Nat.le_refl _)] at hpre
      have hX' : pre = X := by
        rw [← hpre]
        cases (List.drop us.length ps) <;> simp [putsX]
      subst hX'
      have HAA := Lib.hid hA
      clear hA hpre
      go_wp2_with fail
      go_end0
      exact ⟨⟨_, rfl⟩, HAA.out⟩
end Go.Proofs.YtcbjecpfijogcaaGreat
