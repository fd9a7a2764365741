
/- Contract: a line that parts two hulls, the definition. -/
import Derived.Test.YtlndcpjaeoppmaaHDirs
import Derived.Deep.RegionHeld3
namespace Go.Proofs.Ytlndcpjaeoppmaa
open Go.RowKit Go.Shelf

theorem fold_max_ge (d : HPt) : ∀ (l : List HPt) (m : Int), m ≤ l.foldl (fun m q => max m (dotP d q)) m ∧ ∀ p ∈ l, dotP d p ≤ l.foldl (fun m q => max m (dotP d q)) m
  | [], m => ⟨Int.le_refl _, fun _ h => by simp at h⟩
  | a :: l, m => by
    obtain ⟨h1, h2⟩ := fold_max_ge d l (max m (dotP d a))
    refine ⟨by simp only [List.foldl_cons]; omega, fun p hp => ?_⟩
    rcases List.mem_cons.1 hp with rfl | hp
    · simp only [List.foldl_cons]; omega
    · exact h2 p hp
theorem hi_ge {d : HPt} {l : List HPt} {p : HPt} (hp : p ∈ l) : dotP d p ≤ hiP d l := by
  rcases l with _ | ⟨a, l⟩
  · simp at hp
  · obtain ⟨h1, h2⟩ := fold_max_ge d l (dotP d a)
    rcases List.mem_cons.1 hp with rfl | hp
    · exact h1
    · exact h2 p hp
theorem fold_min_lt (d : HPt) (K : Int) : ∀ (l : List HPt) (m : Int), K < l.foldl (fun m q => min m (dotP d q)) m ↔ K < m ∧ ∀ p ∈ l, K < dotP d p
  | [], m => by simp
  | a :: l, m => by
    rw [List.foldl_cons, fold_min_lt d K l (min m (dotP d a))]
    constructor
    · rintro ⟨h1, h2⟩
      exact ⟨by omega, fun p hp => by
        rcases List.mem_cons.1 hp with rfl | hp
        · omega
        · exact h2 p hp⟩
    · rintro ⟨h1, h2⟩
      have := h2 a (by simp)
      exact ⟨by omega, fun p hp => h2 p (List.mem_cons_of_mem _ hp)⟩
theorem lo_lt {d : HPt} {l : List HPt} (h0 : l ≠ []) (K : Int) : K < loP d l ↔ ∀ p ∈ l, K < dotP d p := by
  rcases l with _ | ⟨a, l⟩
  · exact absurd rfl h0
  · show K < l.foldl _ _ ↔ _
    rw [fold_min_lt]
    simp
theorem parts_sep {a b : List HPt} (hb : b ≠ []) (d : HPt) : partsB a b d (hiP d a) = sepB a b d := by
  unfold partsB sepB
  have h1 : a.all (fun p => decide (dotP d p ≤ hiP d a)) = true := List.all_eq_true.2 fun p hp => decide_eq_true (hi_ge hp)
  rw [h1, Bool.true_and, Bool.eq_iff_iff]
  simp only [List.all_eq_true, decide_eq_true_eq]
  exact (lo_lt hb _).symm
/-- the direction from the first corner of one list to that of another one -/
def fdP (a b : List HPt) : HPt := ((b.getD 0 (0, 0)).1 - (a.getD 0 (0, 0)).1, (b.getD 0 (0, 0)).2 - (a.getD 0 (0, 0)).2)
/-- all directions of the definition -/
def adirs (a b : List HPt) : List HPt := [fdP a b] ++ rdirs a ++ rdirs b
theorem nxt_mem {h : List HPt} (h0 : 0 < h.length) (i : Nat) : nxtP h i ∈ h := by
  unfold nxtP
  rw [getD_lt (Nat.mod_lt _ h0)]
  exact List.getElem_mem _
theorem get_mem {h : List HPt} {i : Nat} (hi : i < h.length) : h.getD i (0, 0) ∈ h := by
  rw [getD_lt hi]
  exact List.getElem_mem _
theorem diff_wide {p q : HPt} (hp : wideB p) (hq : wideB q) : wideD (q.1 - p.1, q.2 - p.2) := by
  unfold wideB at *
  unfold wideD
  simp only
  omega
theorem rdirs_wide {h : List HPt} (hw : ∀ p ∈ h, wideB p) : ∀ d ∈ rdirs h, wideD d := by
  intro d hd
  unfold rdirs at hd
  obtain ⟨i, hi, hd⟩ := List.mem_flatMap.1 hd
  have hi' := List.mem_range.1 hi
  have h1 := diff_wide (hw _ (get_mem hi')) (hw _ (nxt_mem (by omega) i))
  have h2 : sdP h i = ((nxtP h i).1 - (h.getD i (0, 0)).1, (nxtP h i).2 - (h.getD i (0, 0)).2) := rfl
  rw [← h2] at h1
  unfold wideD at *
  simp only [rdP, List.mem_cons, List.not_mem_nil, or_false] at hd
  rcases hd with rfl | rfl | rfl | rfl <;> simp only <;> omega
theorem adirs_wide {a b : List HPt} (ha0 : 0 < a.length) (hb0 : 0 < b.length) (hwa : ∀ p ∈ a, wideB p) (hwb : ∀ p ∈ b, wideB p) : ∀ d ∈ adirs a b, wideD d := by
  intro d hd
  unfold adirs at hd
  rcases List.mem_append.1 hd with hd | hd
  · rcases List.mem_append.1 hd with hd | hd
    · have : d = fdP a b := by simpa using hd
      subst this
      exact diff_wide (hwa _ (get_mem ha0)) (hwb _ (get_mem hb0))
    · exact rdirs_wide hwa d hd
  · exact rdirs_wide hwb d hd
theorem blk_ext2 {W W' : World} {b : Nat} {o : Obj} (he : Ext W W') (h : W.heap[b]? = some o) : W'.heap[b]? = some o := blk_ext h he
theorem OwnD.one {w : World} {base bk : Nat} {x y : Int} {d : HPt} (hd : d = (x, y)) (hb : w.heap[bk]? = some (.cells #[.int .i64 x, .int .i64 y, .int .i64 0] 43 (0, 0))) (h : base ≤ bk) : OwnD base w (.slice (some ⟨bk, 0, none⟩) 1 1) [d] := by
  subst hd
  exact ⟨rfl, .inr ⟨bk, 1, _, rfl, h, hb, Nat.le_refl _, by decide, rfl, rfl⟩⟩
theorem rdirsK_len' (h : List HPt) : (rdirs h).length = h.length * 4 := rdirsK_len h h.length
theorem own_ne {w : World} {base : Nat} {e : TypeId} {n m k : Nat} {v : Value} {xs : List Value} (h : w.ownsRow base e n v m xs) (hk : k < base) : v.ownBlock ≠ some k := fun hv => by
  have := own_ge' h k hv
  omega
set_option maxRecDepth 100000 in
set_option maxHeartbeats 4000000 in
theorem Parting_c (va vb : Value) (a b : List HPt) (w : World) (ha : Pts w va a) (hb : Pts w vb b) (ha0 : 0 < a.length) (hb0 : 0 < b.length) (hwa : ∀ p ∈ a, wideB p) (hwb : ∀ p ∈ b, wideB p) (hna : a.length ≤ 10000) (hnb : b.length ≤ 10000) :
    Calls Try.prog 70 #[va, vb] w fun e w' => e = .returned (tryV a ((adirs a b).find? (sepB a b))) ∧ Ext w w' := by
  rcases ha with ⟨_, _, _, rfl⟩ | ⟨ba, oa, capa, rfl, hla, hcapa, hca⟩
  · simp at ha0
  rcases hb with ⟨_, _, _, rfl⟩ | ⟨bb, ob, capb, rfl, hlb, hcapb, hcb⟩
  · simp at hb0
  have HPA := Lib.hid (show Pts w (.slice (some ⟨ba, oa, none⟩) a.length capa) a from .inr ⟨ba, oa, capa, rfl, hla, hcapa, hca⟩)
  have HPB := Lib.hid (show Pts w (.slice (some ⟨bb, ob, none⟩) b.length capb) b from .inr ⟨bb, ob, capb, rfl, hlb, hcapb, hcb⟩)
  have x0 := (hca 0 ha0).1
  have x1 := (hca 0 ha0).2
  have z0 := (hcb 0 hb0).1
  have z1 := (hcb 0 hb0).2
  simp only [Nat.zero_mul, Nat.add_zero] at x0 x1 z0 z1
  have hwd := diff_wide (hwa _ (get_mem ha0)) (hwb _ (get_mem hb0))
  have hf : fdP a b = ((b.getD 0 (0, 0)).1 - (a.getD 0 (0, 0)).1, (b.getD 0 (0, 0)).2 - (a.getD 0 (0, 0)).2) := rfl
  generalize a.getD 0 (0, 0) = p at *
  generalize b.getD 0 (0, 0) = q at *
  obtain ⟨p1, p2⟩ := p
  obtain ⟨q1, q2⟩ := q
  simp only at x0 x1 z0 z1 hf hwd
  unfold wideD at hwd
  simp only at hwd
  have e1 := IntWalk.i64_in (q1 - p1) (by omega)
  have e2 := IntWalk.i64_in (q2 - p2) (by omega)
  have i1 : (0 : Int) < (a.length : Int) := by omega
  have i2 : (0 : Int) < (b.length : Int) := by omega
  obtain ⟨X, hX⟩ : ∃ X, q1 - p1 = X := ⟨_, rfl⟩
  obtain ⟨Y, hY⟩ : ∃ Y, q2 - p2 = Y := ⟨_, rfl⟩
  rw [hX, hY] at hf
  rw [hX] at e1
  rw [hY] at e2
  have HF := Lib.hid hf
  have HWD := Lib.hid (adirs_wide ha0 hb0 hwa hwb)
  have HWA := Lib.hid hwa
  have HWB := Lib.hid hwb
  have HLC := Lib.hid (show ([fdP a b] ++ rdirs a ++ rdirs b).length = 1 + a.length * 4 + b.length * 4 by rw [List.length_append, List.length_append, rdirsK_len' a, rdirsK_len' b]; rfl)
  clear hf hwd hwa hwb hca hcb
  go_enter Try.func70, Try.ntmps70
  go_wp2
  have hB := World.alloc_heap_new w (.cells #[.int .i64 0, .int .i64 0, .int .i64 0] 43)
  have eW : Ext w (w.alloc (.cells #[.int .i64 0, .int .i64 0, .int .i64 0] 43)) := (Ext.refl w).alloc _
  generalize (w.alloc (.cells #[.int .i64 0, .int .i64 0, .int .i64 0] 43)) = W at *
  have HBk := Lib.hid hB
  have HEW := Lib.hid eW
  replace x0 := eW.cell x0
  replace x1 := eW.cell x1
  replace z0 := eW.cell z0
  replace z1 := eW.cell z1
  have DA := Lib.hid (fun W' (h : Ext W W') => directions_c _ a W' (HPA.out.ext (eW.trans h)) HWA.out (by omega))
  have DB := Lib.hid (fun W' (h : Ext W W') => directions_c _ b W' (HPB.out.ext (eW.trans h)) HWB.out (by omega))
  clear hB eW
  have lx := World.block_lt_of_cell? _ _ x0
  simp only at lx
  have lz := World.block_lt_of_cell? _ _ z0
  simp only at lz
  go_region_held3 (fun w' => w'.cell? ⟨ba, oa, none⟩ = some (.int .i64 p1) ∧ w'.cell? ⟨ba, oa + 1, none⟩ = some (.int .i64 p2) ∧ w'.cell? ⟨bb, ob, none⟩ = some (.int .i64 q1) ∧ w'.cell? ⟨bb, ob + 1, none⟩ = some (.int .i64 q2)) (exact ⟨Ext.cell (w := W) (by (repeat' (first | exact Ext.refl _ | assumption | refine Ext.alloc ?_ _ | refine Ext.drew ?_ | refine Ext.drewN ?_ _ | refine Ext.set ?_ (by first | exact Nat.le_refl _ | exact le1 _ | exact le2 _ | exact le3 _ | exact le4 _ | exact le5 _ | exact le6 _) _ | refine Ext.trans ?_ (by assumption)))) x0, Ext.cell (w := W) (by (repeat' (first | exact Ext.refl _ | assumption | refine Ext.alloc ?_ _ | refine Ext.drew ?_ | refine Ext.drewN ?_ _ | refine Ext.set ?_ (by first | exact Nat.le_refl _ | exact le1 _ | exact le2 _ | exact le3 _ | exact le4 _ | exact le5 _ | exact le6 _) _ | refine Ext.trans ?_ (by assumption)))) x1, Ext.cell (w := W) (by (repeat' (first | exact Ext.refl _ | assumption | refine Ext.alloc ?_ _ | refine Ext.drew ?_ | refine Ext.drewN ?_ _ | refine Ext.set ?_ (by first | exact Nat.le_refl _ | exact le1 _ | exact le2 _ | exact le3 _ | exact le4 _ | exact le5 _ | exact le6 _) _ | refine Ext.trans ?_ (by assumption)))) z0, Ext.cell (w := W) (by (repeat' (first | exact Ext.refl _ | assumption | refine Ext.alloc ?_ _ | refine Ext.drew ?_ | refine Ext.drewN ?_ _ | refine Ext.set ?_ (by first | exact Nat.le_refl _ | exact le1 _ | exact le2 _ | exact le3 _ | exact le4 _ | exact le5 _ | exact le6 _) _ | refine Ext.trans ?_ (by assumption)))) z1⟩) (first
    | (go_at_call 83; refine (DA.out _ (by (repeat' (first | exact Ext.refl _ | assumption | refine Ext.alloc ?_ _ | refine Ext.drew ?_ | refine Ext.drewN ?_ _ | refine Ext.set ?_ (by first | exact Nat.le_refl _ | exact le1 _ | exact le2 _ | exact le3 _ | exact le4 _ | exact le5 _ | exact le6 _) _ | refine Ext.trans ?_ (by assumption))))).mono ?_; rintro e wa ⟨va', rfl, hoa, hea⟩; have EA : Ext W wa := Ext.trans (by (repeat' (first | exact Ext.refl _ | assumption | refine Ext.alloc ?_ _ | refine Ext.drew ?_ | refine Ext.drewN ?_ _ | refine Ext.set ?_ (by first | exact Nat.le_refl _ | exact le1 _ | exact le2 _ | exact le3 _ | exact le4 _ | exact le5 _ | exact le6 _) _ | refine Ext.trans ?_ (by assumption)))) hea; have zA := EA.sz; have zHa := hea.sz; (try simp only [size_drew, size_alloc] at zHa); obtain ⟨Aa, ca', rfl, _⟩ := hoa.shape; have HOA := Lib.hid hoa; have HDA := Lib.hid (fun W' (h : Ext wa W') => hoa.dirs.ext h); clear DA hoa)
    | (go_at_call 83; refine (DB.out _ (by (repeat' (first | exact Ext.refl _ | assumption | refine Ext.alloc ?_ _ | refine Ext.drew ?_ | refine Ext.drewN ?_ _ | refine Ext.set ?_ (by first | exact Nat.le_refl _ | exact le1 _ | exact le2 _ | exact le3 _ | exact le4 _ | exact le5 _ | exact le6 _) _ | refine Ext.trans ?_ (by assumption))))).mono ?_; rintro e wb ⟨vb', rfl, hob, heb⟩; have EB : Ext W wb := Ext.trans (by (repeat' (first | exact Ext.refl _ | assumption | refine Ext.alloc ?_ _ | refine Ext.drew ?_ | refine Ext.drewN ?_ _ | refine Ext.set ?_ (by first | exact Nat.le_refl _ | exact le1 _ | exact le2 _ | exact le3 _ | exact le4 _ | exact le5 _ | exact le6 _) _ | refine Ext.trans ?_ (by assumption)))) heb; have zB := EB.sz; have zHb := heb.sz; (try simp only [size_drew, size_alloc] at zHb); obtain ⟨Ab, cb', rfl, _⟩ := hob.shape; have HOB := Lib.hid hob; have HDB := Lib.hid (fun W' (h : Ext wb W') => hob.dirs.ext h); clear DB hob)
    | (refine step_append_dirs (by rfl) _ _ (by rfl) W.heap.size (.slice (some ⟨W.heap.size, 0, none⟩) 1 1) (.slice Aa (rdirs a).length ca') [fdP a b] (rdirs a) (by rfl) (OwnD.one (x := X) (y := Y) HF.out (by first | exact blk_ext2 hea (World.alloc_heap_new W _) | exact blk_ext2 heb (blk_ext2 hea (World.alloc_heap_new W _))) (Nat.le_refl _)) (by rfl) (HDA.out _ (by (repeat' (first | exact Ext.refl _ | assumption | refine Ext.alloc ?_ _ | refine Ext.drew ?_ | refine Ext.drewN ?_ _ | refine Ext.set ?_ (by first | exact Nat.le_refl _ | exact le1 _ | exact le2 _ | exact le3 _ | exact le4 _ | exact le5 _ | exact le6 _) _ | refine Ext.trans ?_ (by assumption))))) (by rw [rdirsK_len' a]; simp; omega) (by first | omega | (simp; done) | (simp; omega)) ?_; intro vA wA hoA hgA; have EA1 : Ext W wA := Ext.trans' (w := W) (by (repeat' (first | exact Ext.refl _ | assumption | refine Ext.alloc ?_ _ | refine Ext.drew ?_ | refine Ext.drewN ?_ _ | refine Ext.set ?_ (by first | exact Nat.le_refl _ | exact le1 _ | exact le2 _ | exact le3 _ | exact le4 _ | exact le5 _ | exact le6 _) _ | refine Ext.trans ?_ (by assumption)))) hgA (fun k e => by have h9 : W.heap.size = k := Option.some.inj e; omega); have zA1 := EA1.sz)
    | (refine step_append_dirs (by rfl) _ _ (by rfl) W.heap.size (.slice (some ⟨wa.heap.size, 0, none⟩) 1 1) (.slice Aa (rdirs a).length ca') [fdP a b] (rdirs a) (by rfl) (OwnD.one (x := X) (y := Y) HF.out (by first | exact World.alloc_heap_new wa _ | exact blk_ext2 heb (World.alloc_heap_new wa _)) (zA)) (by rfl) (HDA.out _ (by (repeat' (first | exact Ext.refl _ | assumption | refine Ext.alloc ?_ _ | refine Ext.drew ?_ | refine Ext.drewN ?_ _ | refine Ext.set ?_ (by first | exact Nat.le_refl _ | exact le1 _ | exact le2 _ | exact le3 _ | exact le4 _ | exact le5 _ | exact le6 _) _ | refine Ext.trans ?_ (by assumption))))) (by rw [rdirsK_len' a]; simp; omega) (by first | omega | (simp; done) | (simp; omega)) ?_; intro vA wA hoA hgA; have EA1 : Ext W wA := Ext.trans' (w := W) (by (repeat' (first | exact Ext.refl _ | assumption | refine Ext.alloc ?_ _ | refine Ext.drew ?_ | refine Ext.drewN ?_ _ | refine Ext.set ?_ (by first | exact Nat.le_refl _ | exact le1 _ | exact le2 _ | exact le3 _ | exact le4 _ | exact le5 _ | exact le6 _) _ | refine Ext.trans ?_ (by assumption)))) hgA (fun k e => by have h9 : wa.heap.size = k := Option.some.inj e; omega); have zA1 := EA1.sz)
    | (refine step_append_dirs (by rfl) _ _ (by rfl) W.heap.size (.slice (some ⟨wb.heap.size, 0, none⟩) 1 1) (.slice Aa (rdirs a).length ca') [fdP a b] (rdirs a) (by rfl) (OwnD.one (x := X) (y := Y) HF.out (by first | exact World.alloc_heap_new wb _) (zB)) (by rfl) (HDA.out _ (by (repeat' (first | exact Ext.refl _ | assumption | refine Ext.alloc ?_ _ | refine Ext.drew ?_ | refine Ext.drewN ?_ _ | refine Ext.set ?_ (by first | exact Nat.le_refl _ | exact le1 _ | exact le2 _ | exact le3 _ | exact le4 _ | exact le5 _ | exact le6 _) _ | refine Ext.trans ?_ (by assumption))))) (by rw [rdirsK_len' a]; simp; omega) (by first | omega | (simp; done) | (simp; omega)) ?_; intro vA wA hoA hgA; have EA1 : Ext W wA := Ext.trans' (w := W) (by (repeat' (first | exact Ext.refl _ | assumption | refine Ext.alloc ?_ _ | refine Ext.drew ?_ | refine Ext.drewN ?_ _ | refine Ext.set ?_ (by first | exact Nat.le_refl _ | exact le1 _ | exact le2 _ | exact le3 _ | exact le4 _ | exact le5 _ | exact le6 _) _ | refine Ext.trans ?_ (by assumption)))) hgA (fun k e => by have h9 : wb.heap.size = k := Option.some.inj e; omega); have zA1 := EA1.sz; have EBA : Ext wb wA := Ext.trans' (w := wb) (by (repeat' (first | exact Ext.refl _ | assumption | refine Ext.alloc ?_ _ | refine Ext.drew ?_ | refine Ext.drewN ?_ _ | refine Ext.set ?_ (by first | exact Nat.le_refl _ | exact le1 _ | exact le2 _ | exact le3 _ | exact le4 _ | exact le5 _ | exact le6 _) _ | refine Ext.trans ?_ (by assumption)))) hgA (fun k e => Nat.le_of_eq (Option.some.inj e)))
    | (refine step_append_dirs (by rfl) _ _ (by rfl) W.heap.size vA (.slice Ab (rdirs b).length cb') ([fdP a b] ++ rdirs a) (rdirs b) (by rfl) (by first | exact hoA | exact hoA.ext (by (repeat' (first | exact Ext.refl _ | assumption | refine Ext.alloc ?_ _ | refine Ext.drew ?_ | refine Ext.drewN ?_ _ | refine Ext.set ?_ (by first | exact Nat.le_refl _ | exact le1 _ | exact le2 _ | exact le3 _ | exact le4 _ | exact le5 _ | exact le6 _) _ | refine Ext.trans ?_ (by assumption))))) (by rfl) (by first | exact HDB.out _ (by (repeat' (first | exact Ext.refl _ | assumption | refine Ext.alloc ?_ _ | refine Ext.drew ?_ | refine Ext.drewN ?_ _ | refine Ext.set ?_ (by first | exact Nat.le_refl _ | exact le1 _ | exact le2 _ | exact le3 _ | exact le4 _ | exact le5 _ | exact le6 _) _ | refine Ext.trans ?_ (by assumption)))) | exact OwnD.dirs (World.ownsRow.kept (World.ownsRow.alloc HOB.out _) hgA (.inr (own_ne HOB.out (by first | omega | (simp; done) | (simp; omega))))) | exact OwnD.dirs (World.ownsRow.kept HOB.out hgA (.inr (own_ne HOB.out (by first | omega | (simp; done) | (simp; omega)))))) (by rw [List.length_append, rdirsK_len' a, rdirsK_len' b]; simp; omega) (by first | omega | (simp; done) | (simp; omega)) ?_; intro vC wC hoC hgC; have EC : Ext W wC := Ext.trans' (w := W) (by (repeat' (first | exact Ext.refl _ | assumption | refine Ext.alloc ?_ _ | refine Ext.drew ?_ | refine Ext.drewN ?_ _ | refine Ext.set ?_ (by first | exact Nat.le_refl _ | exact le1 _ | exact le2 _ | exact le3 _ | exact le4 _ | exact le5 _ | exact le6 _) _ | refine Ext.trans ?_ (by assumption)))) hgC (own_ge' hoA); obtain ⟨AC, cC, rfl, _⟩ := hoC.shape; rw [HLC.out] at hoC ⊢))
  all_goals
    have hne : adirs a b = [fdP a b] ++ rdirs a ++ rdirs b := rfl
    obtain ⟨N, hN⟩ : ∃ N, 1 + a.length * 4 + b.length * 4 = N := ⟨_, rfl⟩
    have hlD : (adirs a b).length = N := by rw [hne, HLC.out, hN]
    rw [hN] at hoC ⊢
    rw [← hne] at hoC
    obtain ⟨gD, cD, eD, hcD⟩ := hoC.dirs.cells (by intro e; rw [e] at hlD; simp at hlD; omega)
    rw [hlD] at eD
    simp only [Value.slice.injEq] at eD
    obtain ⟨rfl, -, rfl⟩ := eD
    have HCD := Lib.hid hcD
    have HHL := Lib.hid hlD
    have hNb : N ≤ 100000 := by omega
    have ECW := Lib.hid EC
    have hbk := blk_ext HBk.out EC
    have HBC := Lib.hid hbk
    clear hcD hoC hgC EC hne hN hlD hbk
    obtain ⟨D, hD⟩ : ∃ D, adirs a b = D := ⟨_, rfl⟩
    rw [hD] at HCD HHL HWD
    have HDD := Lib.hid hD
    clear hD
    generalize wC = Wc at *
    go_wp2
    go_loopw [7] (fun i wr => ∃ k : Nat, k ≤ N ∧ i = .int .i64 k ∧ (D.take k).find? (sepB a b) = none ∧ Ext Wc wr) (fun i _ => N - (intOf i).toNat)
    case atStart => exact ⟨0, by omega, rfl, by simp, Ext.refl _⟩
    case round =>
      obtain ⟨k, hk, rfl, hf, hE⟩ := hrel
      have hlD := HHL.out
      have HFN := Lib.hid hf
      clear hf
      have hbl := blk_ext HBC.out hE
      have r0 : wr.cell? ⟨w.heap.size, 0, none⟩ = some (.int .i64 0) := World.news_of_block hbl 0 _ rfl
      have r1 : wr.cell? ⟨w.heap.size, 1, none⟩ = some (.int .i64 0) := World.news_of_block hbl 1 _ rfl
      have r2 : wr.cell? ⟨w.heap.size, 2, none⟩ = some (.int .i64 0) := World.news_of_block hbl 2 _ rfl
      have fr0 := blk_frzH hbl 0
      have fr1 := blk_frzH hbl 1
      have fr2 := blk_frzH hbl 2
      have HBL := Lib.hid hbl
      have HEw := Lib.hid (HEW.out.trans (ECW.out.trans hE))
      by_cases hlt : k < N
      · have hd : D[k]? = some (D[k]'(by omega)) := List.getElem?_eq_getElem (by omega)
        have hwdd := HWD.out (D[k]'(by omega)) (List.getElem_mem _)
        generalize (D[k]'(by omega)) = d at *
        obtain ⟨d1, d2⟩ := d
        obtain ⟨k0, k1, k2⟩ := (HCD.out.ext hE) k _ hd
        simp only [Nat.zero_add] at k0 k1 k2
        have LC := Lib.hid (fun W' (h : Ext wr W') => level_c d1 d2 _ a W' (HPA.out.ext (HEw.out.trans h)) ha0 hwdd HWA.out)
        have PC := Lib.hid (fun W' (h : Ext wr W') => parts_c d1 d2 (hiP (d1, d2) a) _ _ a b W' (HPA.out.ext (HEw.out.trans h)) (HPB.out.ext (HEw.out.trans h)) hwdd HWA.out HWB.out)
        rw [parts_sep (by intro e; rw [e] at hb0; simp at hb0)] at PC
        have HDk := Lib.hid hd
        obtain ⟨hi, hhi⟩ : ∃ hi, hiP (d1, d2) a = hi := ⟨_, rfl⟩
        rw [hhi] at LC PC
        have HHI := Lib.hid hhi
        clear hd hwdd hhi
        obtain ⟨B, hB⟩ : ∃ B, sepB a b (d1, d2) = B := ⟨_, rfl⟩
        rw [hB] at PC
        have HSB := Lib.hid hB
        clear hB
        have hE2 := Lib.hid hE
        clear hE hbl hlD
        have lr := World.block_lt_of_cell? _ _ r0
        simp only at lr
        have lk := World.block_lt_of_cell? _ _ k0
        simp only at lk
        unfold lnV at *
        go_upto_region 6 with (go_at_call 84; refine (LC.out _ (by (repeat' (first | exact Ext.refl _ | assumption | refine Ext.alloc ?_ _ | refine Ext.drew ?_ | refine Ext.drewN ?_ _ | refine Ext.set ?_ (by first | exact Nat.le_refl _ | exact le1 _ | exact le2 _ | exact le3 _ | exact le4 _ | exact le5 _ | exact le6 _) _ | refine Ext.trans ?_ (by assumption))))).mono ?_; rintro e w1 ⟨rfl, hb1⟩; have E1 : Ext wr w1 := Ext.trans (by (repeat' (first | exact Ext.refl _ | assumption | refine Ext.alloc ?_ _ | refine Ext.drew ?_ | refine Ext.drewN ?_ _ | refine Ext.set ?_ (by first | exact Nat.le_refl _ | exact le1 _ | exact le2 _ | exact le3 _ | exact le4 _ | exact le5 _ | exact le6 _) _ | refine Ext.trans ?_ (by assumption)))) hb1; have rb1 := blk_ext HBL.out E1)
        have l1 := (Array.getElem?_eq_some_iff.1 rb1).1
        replace rb1 := Lib.hid rb1
        cases B
        · go_wp2_with (go_at_call 53; refine (PC.out _ (by (repeat' (first | exact Ext.refl _ | assumption | refine Ext.alloc ?_ _ | refine Ext.drew ?_ | refine Ext.drewN ?_ _ | refine Ext.set ?_ (by first | exact Nat.le_refl _ | exact le1 _ | exact le2 _ | exact le3 _ | exact le4 _ | exact le5 _ | exact le6 _) _ | refine Ext.trans ?_ (by assumption))))).mono ?_; rintro e w2 ⟨rfl, hb2⟩)
          exact ⟨⟨k + 1, by omega, by go_num, find_take_succ HDk.out HFN.out HSB.out, hE2.out.trans (E1.trans (Ext.trans ((Ext.refl w1).alloc _) hb2))⟩, by simp [intOf]; omega⟩
        · go_wp2_with (go_at_call 53; refine (PC.out _ (by (repeat' (first | exact Ext.refl _ | assumption | refine Ext.alloc ?_ _ | refine Ext.drew ?_ | refine Ext.drewN ?_ _ | refine Ext.set ?_ (by first | exact Nat.le_refl _ | exact le1 _ | exact le2 _ | exact le3 _ | exact le4 _ | exact le5 _ | exact le6 _) _ | refine Ext.trans ?_ (by assumption))))).mono ?_; rintro e w2 ⟨rfl, hb2⟩; have lb2 := blk_ext (World.alloc_heap_new w1 _) hb2; have rb2 := blk_ext ((Below.heap_alloc w1 _ w.heap.size l1).trans rb1.out) hb2; have y0 : w2.cell? ⟨w1.heap.size, 0, none⟩ = some (.int .i64 d1) := World.news_of_block lb2 0 _ rfl; have y1 : w2.cell? ⟨w1.heap.size, 1, none⟩ = some (.int .i64 d2) := World.news_of_block lb2 1 _ rfl; have y2 : w2.cell? ⟨w1.heap.size, 2, none⟩ = some (.int .i64 hi) := World.news_of_block lb2 2 _ rfl; have s0 : w2.cell? ⟨w.heap.size, 0, none⟩ = some (.int .i64 0) := World.news_of_block rb2 0 _ rfl; have s1 : w2.cell? ⟨w.heap.size, 1, none⟩ = some (.int .i64 0) := World.news_of_block rb2 1 _ rfl; have s2 : w2.cell? ⟨w.heap.size, 2, none⟩ = some (.int .i64 0) := World.news_of_block rb2 2 _ rfl; have g0 := blk_frzH rb2 0; have g1 := blk_frzH rb2 1; have g2 := blk_frzH rb2 2; replace rb2 := Lib.hid rb2)
          have hF := blk_setH 2 (.int .i64 hi) (blk_setH 1 (.int .i64 d2) (blk_setH 0 (.int .i64 d1) rb2.out))
          simp only [List.setIfInBounds_toArray, List.set_cons_zero, List.set_cons_succ] at hF
          have E2 : Ext w w2 := HEw.out.trans (E1.trans (Ext.trans ((Ext.refl w1).alloc _) hb2))
          have EF := ((E2.set (p := ⟨w.heap.size, 0, none⟩) (Nat.le_refl _) (.int .i64 d1)).set (p := ⟨w.heap.size, 1, none⟩) (Nat.le_refl _) (.int .i64 d2)).set (p := ⟨w.heap.size, 2, none⟩) (Nat.le_refl _) (.int .i64 hi)
          generalize (((w2.setCell ⟨w.heap.size, 0, none⟩ (.int .i64 d1)).setCell ⟨w.heap.size, 1, none⟩ (.int .i64 d2)).setCell ⟨w.heap.size, 2, none⟩ (.int .i64 hi)) = WF at *
          have q0 : WF.cell? ⟨w.heap.size, 0, none⟩ = some (.int .i64 d1) := World.news_of_block hF 0 _ rfl
          have q1 : WF.cell? ⟨w.heap.size, 1, none⟩ = some (.int .i64 d2) := World.news_of_block hF 1 _ rfl
          have q2 : WF.cell? ⟨w.heap.size, 2, none⟩ = some (.int .i64 hi) := World.news_of_block hF 2 _ rfl
          refine bodyPost_ret (v := .tuple #[lnV d1 d2 hi, .bool true]) (by simp [results, Try.results70, go_sem, q0, q1, q2, lnV]) rfl ⟨?_, EF⟩
          rw [HDD.out, find_here HDk.out HFN.out HSB.out]
          show _ = Ending.returned (.tuple #[lnV d1 d2 (hiP (d1, d2) a), .bool true])
          rw [HHI.out]
      · have hE2 := Lib.hid hE
        clear hE hbl
        go_wp2
        have hF := blk_setH 2 (.int .i64 0) (blk_setH 1 (.int .i64 0) (blk_setH 0 (.int .i64 0) HBL.out))
        simp only [List.setIfInBounds_toArray, List.set_cons_zero, List.set_cons_succ] at hF
        have EF := ((HEw.out.set (p := ⟨w.heap.size, 0, none⟩) (Nat.le_refl _) (.int .i64 0)).set (p := ⟨w.heap.size, 1, none⟩) (Nat.le_refl _) (.int .i64 0)).set (p := ⟨w.heap.size, 2, none⟩) (Nat.le_refl _) (.int .i64 0)
        generalize (((wr.setCell ⟨w.heap.size, 0, none⟩ (.int .i64 0)).setCell ⟨w.heap.size, 1, none⟩ (.int .i64 0)).setCell ⟨w.heap.size, 2, none⟩ (.int .i64 0)) = WF at *
        have q0 : WF.cell? ⟨w.heap.size, 0, none⟩ = some (.int .i64 0) := World.news_of_block hF 0 _ rfl
        have q1 : WF.cell? ⟨w.heap.size, 1, none⟩ = some (.int .i64 0) := World.news_of_block hF 1 _ rfl
        have q2 : WF.cell? ⟨w.heap.size, 2, none⟩ = some (.int .i64 0) := World.news_of_block hF 2 _ rfl
        refine bodyPost_ret (v := .tuple #[lnV 0 0 0, .bool false]) (by simp [results, Try.results70, go_sem, q0, q1, q2, lnV]) rfl ⟨?_, EF⟩
        have h := HFN.out
        rw [List.take_of_length_le (by omega)] at h
        rw [HDD.out, h]
        rfl
end Go.Proofs.Ytlndcpjaeoppmaa
