
/- Contract: part, a line that parts two hulls. -/
import Derived.Test.YtlndcpjaeoppmaaHSides
import Derived.Test.YtlndcpjaeoppmaaHApart
import Derived.Deep.RegionHeld3
import Derived.LoopN
namespace Go.Proofs.Ytlndcpjaeoppmaa
open Go.RowKit Go.Shelf Go.Lib Go.Maps
attribute [local go_sem] Oper.semAt_some

/-- the directions that the program tries at one side -/
def pdP (s : HPt) : List HPt := [(s.2, -s.1), (-s.2, s.1), (s.1, s.2), (-s.1, -s.2)]
theorem side_in {h : List HPt} {x : HPt × HPt} (hx : x ∈ sidesP h) : x.1 ∈ h ∧ x.2 ∈ h ∧ ∀ e ∈ pdP (x.2.1 - x.1.1, x.2.2 - x.1.2), e ∈ rdirs h := by
  obtain ⟨i, hi, rfl⟩ := List.mem_map.1 hx
  rw [List.mem_range] at hi
  refine ⟨?_, nxt_mem (by omega) i, ?_⟩
  · show h.getD i (0, 0) ∈ h
    rw [getD_lt hi]; exact List.getElem_mem hi
  · intro e he
    refine List.mem_flatMap.2 ⟨i, List.mem_range.2 hi, ?_⟩
    show e ∈ rdP (sdP h i)
    have he' : e ∈ pdP (sdP h i) := he
    simp only [pdP, rdP, List.mem_cons, List.not_mem_nil, or_false] at he' ⊢
    rcases he' with h | h | h | h <;> simp [h]
theorem sides_none {a b h : List HPt} (hs : ((sidesP h).flatMap (fun s => pdP (s.2.1 - s.1.1, s.2.2 - s.1.2))).any (sepB a b) = false) : ∀ d ∈ rdirs h, sepB a b d = false := by
  intro d hd
  obtain ⟨i, hi, hd⟩ := List.mem_flatMap.1 hd
  rw [List.mem_range] at hi
  rw [List.any_eq_false] at hs
  have := hs d (List.mem_flatMap.2 ⟨(h.getD i (0, 0), nxtP h i), List.mem_map.2 ⟨i, List.mem_range.2 hi, rfl⟩, by
    show d ∈ pdP (sdP h i)
    have hd' : d ∈ rdP (sdP h i) := hd
    simp only [pdP, rdP, List.mem_cons, List.not_mem_nil, or_false] at hd' ⊢
    rcases hd' with h | h | h | h <;> simp [h]⟩)
  simpa using this
theorem callsIn_roundH {P : Program} {l n : Nat} {f : FuncId} {args : Array Value} {w : World} {R : Ending → World → Prop} (h : Calls P f args w R) : CallsIn (Fence.wide.inRound l) n P f args w R :=
  show CallsIn Fence.wide n P f args w R from callsIn_wide.2 h
theorem tryV_some {a : List HPt} {o : Option HPt} {x y k : Int} (h : tryV a o = .tuple #[lnV x y k, .bool o.isSome]) (ho : o.isSome = true) : o = some (x, y) ∧ k = hiP (x, y) a := by
  cases o with
  | none => cases ho
  | some d =>
    unfold tryV lnV at h
    simp at h
    obtain ⟨rfl, rfl, rfl⟩ := h
    exact ⟨rfl, rfl⟩
theorem pd_cells (X Y : Int) {W : World} {b : Nat} (h : W.heap[b]? = some (.cells #[.int .i64 Y, .int .i64 (-X), .int .i64 0, .int .i64 (-Y), .int .i64 X, .int .i64 0, .int .i64 X, .int .i64 Y, .int .i64 0, .int .i64 (-X), .int .i64 (-Y), .int .i64 0] 43 (0, 0))) : DirCells W b 0 (pdP (X, Y)) := by
  intro i d hi
  rcases i with _ | _ | _ | _ | i <;> simp [pdP] at hi
  · subst hi; exact ⟨World.news_of_block h 0 _ rfl, World.news_of_block h 1 _ rfl, World.news_of_block h 2 _ rfl⟩
  · subst hi; exact ⟨World.news_of_block h 3 _ rfl, World.news_of_block h 4 _ rfl, World.news_of_block h 5 _ rfl⟩
  · subst hi; exact ⟨World.news_of_block h 6 _ rfl, World.news_of_block h 7 _ rfl, World.news_of_block h 8 _ rfl⟩
  · subst hi; exact ⟨World.news_of_block h 9 _ rfl, World.news_of_block h 10 _ rfl, World.news_of_block h 11 _ rfl⟩
/-- a loop of two rounds, unrolled: each round may leave another frame behind (a range over a function adds its collector) -/
theorem wp_loop_three {P : Program} {Q : Exit → Act → World → Prop} {a : Act} {w : World} {c : Code}
    (h : ∀ R2 R1 : Act → World → Prop, (∀ a w, c.wp P (Exit.then R1 Q) a w → R2 a w) → (∀ a w, c.wp P (Exit.then (fun _ _ => False) Q) a w → R1 a w) → c.wp P (Exit.then R2 Q) a w) : (Code.loop c).wp P Q a w :=
  wp_loop_rounds 3 (h _ _ (fun _ _ h => h) (fun _ _ h => h))
set_option maxRecDepth 100000 in
set_option maxHeartbeats 4000000 in
theorem part_c (va vb : Value) (a b : List HPt) (w : World) (ha : Pts w va a) (hb : Pts w vb b) (ha0 : 0 < a.length) (hb0 : 0 < b.length) (hwa : ∀ p ∈ a, wideB p) (hwb : ∀ p ∈ b, wideB p) (hna : a.length ≤ 10000) (hnb : b.length ≤ 10000) :
    Calls Try.prog 54 #[va, vb] w fun e w' => (∃ o, e = .returned (tryV a o) ∧ (o = none → (adirs a b).any (sepB a b) = false) ∧ ∀ d, o = some d → d ∈ adirs a b ∧ sepB a b d = true) ∧ Ext w w' := by
  obtain ⟨A, ca, rfl, _⟩ := ha.shapeH
  obtain ⟨B, cb, rfl, _⟩ := hb.shapeH
  have hf : fdP a b = ((b.getD 0 (0, 0)).1 - (a.getD 0 (0, 0)).1, (b.getD 0 (0, 0)).2 - (a.getD 0 (0, 0)).2) := rfl
  have hwd := diff_wide (hwa _ (get_mem ha0)) (hwb _ (get_mem hb0))
  rw [← hf] at hwd
  obtain ⟨x1, y1', k1, ht⟩ := tryV_shape a ([fdP a b].find? (sepB a b))
  have hqa : a[0]? = some (a.getD 0 (0, 0)) := by rw [getD_lt ha0]; exact List.getElem?_eq_getElem ha0
  have hqb : b[0]? = some (b.getD 0 (0, 0)) := by rw [getD_lt hb0]; exact List.getElem?_eq_getElem hb0
  obtain ⟨ba, oa, rfl, x0, x1'⟩ := pts_atH ha rfl hqa
  obtain ⟨bb, ob, rfl, z0, z1⟩ := pts_atH hb rfl hqb
  generalize a.getD 0 (0, 0) = p at *
  generalize b.getD 0 (0, 0) = q at *
  obtain ⟨p1, p2⟩ := p
  obtain ⟨q1, q2⟩ := q
  simp only [Nat.zero_mul, Nat.add_zero] at x0 x1' z0 z1 hf
  have hwd2 := hwd
  rw [hf] at hwd2
  unfold wideD at hwd2
  simp only at hwd2
  have e1 := IntWalk.i64_in (q1 - p1) (by omega)
  have e2 := IntWalk.i64_in (q2 - p2) (by omega)
  have i1 : (0 : Int) < (a.length : Int) := by omega
  have i2 : (0 : Int) < (b.length : Int) := by omega
  obtain ⟨X, hX⟩ : ∃ X, q1 - p1 = X := ⟨_, rfl⟩
  obtain ⟨Y, hY⟩ : ∃ Y, q2 - p2 = Y := ⟨_, rfl⟩
  rw [hX, hY] at hf
  rw [hX] at e1
  rw [hY] at e2
  have HPA := Lib.hid ha
  have HPB := Lib.hid hb
  have HF := Lib.hid hf
  have TC0 := Lib.hid (fun W (h : Ext w W) (bd : Nat) (hblk : W.heap[bd]? = some (.cells #[.int .i64 X, .int .i64 Y, .int .i64 0] 43 (0, 0))) => try_c _ _ a b bd 1 [fdP a b] W (ha.ext h) (hb.ext h) ha0 hb0 hwa hwb (by
    intro i d hi
    rcases i with _ | i
    · simp at hi
      subst hi
      rw [hf]
      exact ⟨World.news_of_block hblk 0 _ rfl, World.news_of_block hblk 1 _ rfl, World.news_of_block hblk 2 _ rfl⟩
    · simp at hi) (by intro d hd; simp at hd; subst hd; exact hwd) (by simp))
  rw [ht] at TC0
  have HWA := Lib.hid hwa
  have HWB := Lib.hid hwb
  obtain ⟨ok1, hok⟩ : ∃ ok1, ([fdP a b].find? (sepB a b)).isSome = ok1 := ⟨_, rfl⟩
  rw [hok] at TC0 ht
  have HT := Lib.hid (And.intro ht hok)
  clear ht hok ha hb hwa hwb hf hwd hwd2 hqa hqb
  unfold lnV at TC0
  refine (callsIn_wide (n := 5)).1 ?_
  refine callsIn_of_wp_marks Try.func54 rfl trivial ?_ rfl
  simp only [Try.ntmps54, List.size_toArray, List.length_cons, List.length_nil, Nat.reduceAdd, Nat.reduceSub, Array.replicate_succ, Array.replicate_zero, List.push_toArray, List.append_toArray, List.nil_append, List.cons_append]
  refine wpIn_wide.2 ?_
  go_upto_region 1 with fail
  have eW : Ext w ((((w.alloc (.cells #[.slice (some ⟨ba, oa, none⟩) a.length ca] 23)).alloc (.cells #[.slice (some ⟨bb, ob, none⟩) b.length cb] 23)).alloc (.cells #[.int .i64 0, .int .i64 0, .int .i64 0] 43)).alloc (.cells #[.bool false] 4)) := ((((Ext.refl w).alloc _).alloc _).alloc _).alloc _
  have bA : ((((w.alloc (.cells #[.slice (some ⟨ba, oa, none⟩) a.length ca] 23)).alloc (.cells #[.slice (some ⟨bb, ob, none⟩) b.length cb] 23)).alloc (.cells #[.int .i64 0, .int .i64 0, .int .i64 0] 43)).alloc (.cells #[.bool false] 4)).heap[w.heap.size]? = some (.cells #[.slice (some ⟨ba, oa, none⟩) a.length ca] 23 (0, 0)) := heap2_old (heap2_first _ _ _)
  have bB : ((((w.alloc (.cells #[.slice (some ⟨ba, oa, none⟩) a.length ca] 23)).alloc (.cells #[.slice (some ⟨bb, ob, none⟩) b.length cb] 23)).alloc (.cells #[.int .i64 0, .int .i64 0, .int .i64 0] 43)).alloc (.cells #[.bool false] 4)).heap[w.heap.size + 1]? = some (.cells #[.slice (some ⟨bb, ob, none⟩) b.length cb] 23 (0, 0)) := heap2_old (heap2_second _ _ _)
  have bL : ((((w.alloc (.cells #[.slice (some ⟨ba, oa, none⟩) a.length ca] 23)).alloc (.cells #[.slice (some ⟨bb, ob, none⟩) b.length cb] 23)).alloc (.cells #[.int .i64 0, .int .i64 0, .int .i64 0] 43)).alloc (.cells #[.bool false] 4)).heap[w.heap.size + 1 + 1]? = some (.cells #[.int .i64 0, .int .i64 0, .int .i64 0] 43 (0, 0)) := by have h9 := heap2_first ((w.alloc (.cells #[.slice (some ⟨ba, oa, none⟩) a.length ca] 23)).alloc (.cells #[.slice (some ⟨bb, ob, none⟩) b.length cb] 23)) (.cells #[.int .i64 0, .int .i64 0, .int .i64 0] 43) (.cells #[.bool false] 4); rw [size_alloc, size_alloc] at h9; exact h9
  have bO : ((((w.alloc (.cells #[.slice (some ⟨ba, oa, none⟩) a.length ca] 23)).alloc (.cells #[.slice (some ⟨bb, ob, none⟩) b.length cb] 23)).alloc (.cells #[.int .i64 0, .int .i64 0, .int .i64 0] 43)).alloc (.cells #[.bool false] 4)).heap[w.heap.size + 1 + 1 + 1]? = some (.cells #[.bool false] 4 (0, 0)) := by have h9 := heap2_second ((w.alloc (.cells #[.slice (some ⟨ba, oa, none⟩) a.length ca] 23)).alloc (.cells #[.slice (some ⟨bb, ob, none⟩) b.length cb] 23)) (.cells #[.int .i64 0, .int .i64 0, .int .i64 0] 43) (.cells #[.bool false] 4); rw [size_alloc, size_alloc] at h9; exact h9
  have zW : ((((w.alloc (.cells #[.slice (some ⟨ba, oa, none⟩) a.length ca] 23)).alloc (.cells #[.slice (some ⟨bb, ob, none⟩) b.length cb] 23)).alloc (.cells #[.int .i64 0, .int .i64 0, .int .i64 0] 43)).alloc (.cells #[.bool false] 4)).heap.size = w.heap.size + 4 := by simp
  generalize ((((w.alloc (.cells #[.slice (some ⟨ba, oa, none⟩) a.length ca] 23)).alloc (.cells #[.slice (some ⟨bb, ob, none⟩) b.length cb] 23)).alloc (.cells #[.int .i64 0, .int .i64 0, .int .i64 0] 43)).alloc (.cells #[.bool false] 4)) = W at *
  have HBl := Lib.hid (And.intro bA (And.intro bB (And.intro bL bO)))
  have HEW := Lib.hid eW
  replace x0 := eW.cell x0
  replace x1' := eW.cell x1'
  replace z0 := eW.cell z0
  replace z1 := eW.cell z1
  have y0 : W.cell? ⟨w.heap.size, 0, none⟩ = some (.slice (some ⟨ba, oa, none⟩) a.length ca) := World.news_of_block bA 0 _ rfl
  have y1 : W.cell? ⟨w.heap.size + 1, 0, none⟩ = some (.slice (some ⟨bb, ob, none⟩) b.length cb) := World.news_of_block bB 0 _ rfl
  have TC := Lib.hid (fun W' (h : Ext W W') => TC0 W' (eW.trans h))
  have lx := World.block_lt_of_cell? _ _ x0
  simp only at lx
  have lz := World.block_lt_of_cell? _ _ z0
  simp only at lz
  have zW' : w.heap.size + 4 ≤ W.heap.size := by omega
  clear eW bA bB bL bO TC0 zW
  go_cut [6, 7] from 16 to 40 (fun sa sb wc => ∃ bz : Nat, sa = .pointer (some ⟨bz, 0, none⟩) ∧ sb = .bool ok1 ∧ W.heap.size ≤ bz ∧ Ext W wc ∧ wc.heap[bz]? = some (.cells #[.int .i64 x1, .int .i64 y1', .int .i64 k1] 43 (0, 0)))
  case first =>
    go_region_held3 (fun w' => w'.cell? ⟨ba, oa, none⟩ = some (.int .i64 p1) ∧ w'.cell? ⟨ba, oa + 1, none⟩ = some (.int .i64 p2) ∧ w'.cell? ⟨bb, ob, none⟩ = some (.int .i64 q1) ∧ w'.cell? ⟨bb, ob + 1, none⟩ = some (.int .i64 q2) ∧ w'.cell? ⟨w.heap.size, 0, none⟩ = some (.slice (some ⟨ba, oa, none⟩) a.length ca) ∧ w'.cell? ⟨w.heap.size + 1, 0, none⟩ = some (.slice (some ⟨bb, ob, none⟩) b.length cb)) (exact ⟨Ext.cell (w := W) (by (repeat' (first | exact Ext.refl _ | assumption | refine Ext.alloc ?_ _ | refine Ext.drew ?_ | refine Ext.drewN ?_ _ | refine Ext.set ?_ (by first | exact Nat.le_refl _ | exact le1 _ | exact le2 _ | exact le3 _ | exact le4 _ | exact le5 _ | exact le6 _) _ | refine Ext.trans ?_ (by assumption)))) x0, Ext.cell (w := W) (by (repeat' (first | exact Ext.refl _ | assumption | refine Ext.alloc ?_ _ | refine Ext.drew ?_ | refine Ext.drewN ?_ _ | refine Ext.set ?_ (by first | exact Nat.le_refl _ | exact le1 _ | exact le2 _ | exact le3 _ | exact le4 _ | exact le5 _ | exact le6 _) _ | refine Ext.trans ?_ (by assumption)))) x1', Ext.cell (w := W) (by (repeat' (first | exact Ext.refl _ | assumption | refine Ext.alloc ?_ _ | refine Ext.drew ?_ | refine Ext.drewN ?_ _ | refine Ext.set ?_ (by first | exact Nat.le_refl _ | exact le1 _ | exact le2 _ | exact le3 _ | exact le4 _ | exact le5 _ | exact le6 _) _ | refine Ext.trans ?_ (by assumption)))) z0, Ext.cell (w := W) (by (repeat' (first | exact Ext.refl _ | assumption | refine Ext.alloc ?_ _ | refine Ext.drew ?_ | refine Ext.drewN ?_ _ | refine Ext.set ?_ (by first | exact Nat.le_refl _ | exact le1 _ | exact le2 _ | exact le3 _ | exact le4 _ | exact le5 _ | exact le6 _) _ | refine Ext.trans ?_ (by assumption)))) z1, Ext.cell (w := W) (by (repeat' (first | exact Ext.refl _ | assumption | refine Ext.alloc ?_ _ | refine Ext.drew ?_ | refine Ext.drewN ?_ _ | refine Ext.set ?_ (by first | exact Nat.le_refl _ | exact le1 _ | exact le2 _ | exact le3 _ | exact le4 _ | exact le5 _ | exact le6 _) _ | refine Ext.trans ?_ (by assumption)))) y0, Ext.cell (w := W) (by (repeat' (first | exact Ext.refl _ | assumption | refine Ext.alloc ?_ _ | refine Ext.drew ?_ | refine Ext.drewN ?_ _ | refine Ext.set ?_ (by first | exact Nat.le_refl _ | exact le1 _ | exact le2 _ | exact le3 _ | exact le4 _ | exact le5 _ | exact le6 _) _ | refine Ext.trans ?_ (by assumption)))) y1⟩) ((go_at_call 72; refine (TC.out _ (by (repeat' (first | exact Ext.refl _ | assumption | refine Ext.alloc ?_ _ | refine Ext.drew ?_ | refine Ext.drewN ?_ _ | refine Ext.set ?_ (by first | exact Nat.le_refl _ | exact le1 _ | exact le2 _ | exact le3 _ | exact le4 _ | exact le5 _ | exact le6 _) _ | refine Ext.trans ?_ (by assumption)))) _ (by first | exact World.alloc_heap_new W _ | exact heap2_first W _ _ | exact heap2_second W _ _)).mono ?_; rintro e wt ⟨rfl, het⟩; have ET : Ext W wt := Ext.trans (by (repeat' (first | exact Ext.refl _ | assumption | refine Ext.alloc ?_ _ | refine Ext.drew ?_ | refine Ext.drewN ?_ _ | refine Ext.set ?_ (by first | exact Nat.le_refl _ | exact le1 _ | exact le2 _ | exact le3 _ | exact le4 _ | exact le5 _ | exact le6 _) _ | refine Ext.trans ?_ (by assumption)))) het; have zT := het.sz; (try simp only [size_drew, size_alloc] at zT); clear TC; (first | (have sb : wt.heap[W.heap.size]? = some (.cells #[.int .i64 0, .int .i64 0, .int .i64 0] 43 (0, 0)) := blk_ext2 het (heap2_first W _ _); have s0 : wt.cell? ⟨W.heap.size, 0, none⟩ = some (.int .i64 0) := World.news_of_block sb 0 _ rfl; have g0 := blk_frzH sb 0; have s1 : wt.cell? ⟨W.heap.size, 1, none⟩ = some (.int .i64 0) := World.news_of_block sb 1 _ rfl; have g1 := blk_frzH sb 1; have s2 : wt.cell? ⟨W.heap.size, 2, none⟩ = some (.int .i64 0) := World.news_of_block sb 2 _ rfl; have g2 := blk_frzH sb 2; have ls := (Array.getElem?_eq_some_iff.1 sb).1) | (have sb : wt.heap[W.heap.size + 1]? = some (.cells #[.int .i64 0, .int .i64 0, .int .i64 0] 43 (0, 0)) := blk_ext2 het (heap2_second W _ _); have s0 : wt.cell? ⟨W.heap.size + 1, 0, none⟩ = some (.int .i64 0) := World.news_of_block sb 0 _ rfl; have g0 := blk_frzH sb 0; have s1 : wt.cell? ⟨W.heap.size + 1, 1, none⟩ = some (.int .i64 0) := World.news_of_block sb 1 _ rfl; have g1 := blk_frzH sb 1; have s2 : wt.cell? ⟨W.heap.size + 1, 2, none⟩ = some (.int .i64 0) := World.news_of_block sb 2 _ rfl; have g2 := blk_frzH sb 2; have ls := (Array.getElem?_eq_some_iff.1 sb).1) | skip)))
    all_goals
      go_wp2_with fail
      go_meet
      first
        | exact ⟨wt.heap.size, rfl, rfl, by omega, ET.alloc _, World.alloc_heap_new wt _⟩
        | exact ⟨W.heap.size + 1, rfl, rfl, by omega, ((ET.set (p := ⟨W.heap.size + 1, 0, none⟩) (by first | omega | (show W.heap.size ≤ W.heap.size + 1; omega)) _).set (p := ⟨W.heap.size + 1, 1, none⟩) (by first | omega | (show W.heap.size ≤ W.heap.size + 1; omega)) _).set (p := ⟨W.heap.size + 1, 2, none⟩) (by first | omega | (show W.heap.size ≤ W.heap.size + 1; omega)) _, (blk_setH 2 _ (blk_setH 1 _ (blk_setH 0 _ sb)))⟩
        | exact ⟨W.heap.size, rfl, rfl, Nat.le_refl _, ((ET.set (p := ⟨W.heap.size, 0, none⟩) (Nat.le_refl _) _).set (p := ⟨W.heap.size, 1, none⟩) (Nat.le_refl _) _).set (p := ⟨W.heap.size, 2, none⟩) (Nat.le_refl _) _, (blk_setH 2 _ (blk_setH 1 _ (blk_setH 0 _ sb)))⟩
  case rest =>
    obtain ⟨bz, rfl, rfl, hbz, E1, hZ⟩ := hcut
    generalize wc = W1 at *
    have c0 : W1.cell? ⟨bz, 0, none⟩ = some (.int .i64 x1) := World.news_of_block hZ 0 _ rfl
    have c1 : W1.cell? ⟨bz, 1, none⟩ = some (.int .i64 y1') := World.news_of_block hZ 1 _ rfl
    have c2 : W1.cell? ⟨bz, 2, none⟩ = some (.int .i64 k1) := World.news_of_block hZ 2 _ rfl
    have l1 := E1.sz
    rcases ok1 with _ | _
    · refine (‹∀ (a : Act) (w : World), Code.wp Try.prog _ _ a w → _›) _ _ ?_
      clear c0 c1 c2 hZ TC
      have y0' := E1.cell y0
      have y1' := E1.cell y1
      go_wp2_with fail
      refine wp_loop_three ?_
      intro R2 R1 hR2 hR1
      have HR2 := Lib.hid hR2
      have HR1 := Lib.hid hR1
      clear hR2 hR1
      have ix0 : ∀ w, (Instr.index 94 (.agg #[.slice (some ⟨ba, oa, none⟩) a.length ca, .slice (some ⟨bb, ob, none⟩) b.length cb]) (.int .i64 0)).run Try.prog w = .ok (.slice (some ⟨ba, oa, none⟩) a.length ca) w := fun _ => by rfl
      have ix1 : ∀ w, (Instr.index 94 (.agg #[.slice (some ⟨ba, oa, none⟩) a.length ca, .slice (some ⟨bb, ob, none⟩) b.length cb]) (.int .i64 1)).run Try.prog w = .ok (.slice (some ⟨bb, ob, none⟩) b.length cb) w := fun _ => by rfl
      have HPA' := HPA.out
      have SQ := sides_seq W1.heap.size (.slice (some ⟨ba, oa, none⟩) a.length ca) a W (W1.alloc (.cells #[.slice (some ⟨ba, oa, none⟩) a.length ca] 23)) (E1.alloc _) (HPA.out.ext HEW.out) ha0 (Boxed.new W1 _ _) (fun t => t = 23) 2 (by omega) rfl l1
      go_wp2_with (go_at_call 44; refine (sides_c _ _ _ _).mono ?_; rintro e w2 ⟨rfl, rfl⟩)
      have E2 : Ext W (W1.alloc (.cells #[.slice (some ⟨ba, oa, none⟩) a.length ca] 23)) := E1.alloc _
      refine (wpIn_wide (n := 5)).1 ?_
      refine wpIn_rangeFunc_T2 (α := HPt × HPt) (n := 5) rfl (by omega) (gf := 69) rfl trivial (enters_of Try.func69 (by kernel_rfl) rfl) SQ (Ext.refl _) (fun _ => rfl)
        (fun pre W' => Ext W W' ∧ (pre.flatMap (fun s => pdP (s.2.1 - s.1.1, s.2.2 - s.1.2))).any (sepB a b) = false)
        (fun c pre W' => c = .ret ∧ Ext w W' ∧ ∃ d : HPt, d ∈ adirs a b ∧ sepB a b d = true ∧ W'.heap[w.heap.size + 1 + 1]? = some (.cells #[.int .i64 d.1, .int .i64 d.2, .int .i64 (hiP d a)] 43 (0, 0)) ∧ W'.heap[w.heap.size + 1 + 1 + 1]? = some (.cells #[.bool true] 4 (0, 0)))
        (fun _ _ h => h.1) ?_ ?_ ?_ ?_ ⟨E2, rfl⟩
        (fun x a' W' => ∃ H1 H2, W'.cell? ⟨H1, 0, none⟩ = some (.int .i64 x.1.1) ∧ W'.cell? ⟨H1, 1, none⟩ = some (.int .i64 x.1.2) ∧ W'.cell? ⟨H2, 0, none⟩ = some (.int .i64 x.2.1) ∧ W'.cell? ⟨H2, 1, none⟩ = some (.int .i64 x.2.2) ∧ a' = ({ tmps := #[.slice (some ⟨ba, oa, none⟩) a.length ca, .slice (some ⟨bb, ob, none⟩) b.length cb, .pointer (some ⟨w.heap.size, 0, none⟩), .pointer (some ⟨w.heap.size + 1, 0, none⟩), .pointer (some ⟨w.heap.size + 1 + 1, 0, none⟩), .pointer (some ⟨w.heap.size + 1 + 1 + 1, 0, none⟩), .pointer (some ⟨bz, 0, none⟩), .bool false, undef, .slice (some ⟨ba, oa, none⟩) a.length ca, .pointer (some ⟨H1, 0, none⟩), .pointer (some ⟨H2, 0, none⟩), undef, undef, undef, undef, u16, u17, u18, u19, u20, u21, u22, u23, u24, u25, u26, u27, u28, u29, u30, u31, u32, u33, u34, u35, u36, u37, u38, u39, u40, u41, .bool false, undef, .slice (some ⟨ba, oa, none⟩) a.length ca, .slice (some ⟨bb, ob, none⟩) b.length cb, .agg #[.slice (some ⟨ba, oa, none⟩) a.length ca, .slice (some ⟨bb, ob, none⟩) b.length cb], .int .i64 0, .bool true, .slice (some ⟨ba, oa, none⟩) a.length ca, .slice (some ⟨ba, oa, none⟩) a.length ca, .func (.func 69) #[] #[.pointer (some ⟨W1.heap.size, 0, none⟩)], .agg #[.int .i64 x.1.1, .int .i64 x.1.2], .agg #[.int .i64 x.2.1, .int .i64 x.2.2], undef, undef, undef, undef, undef, undef, undef, undef, undef, undef, undef, undef, undef, undef, undef, undef, undef, undef, undef, undef, undef, undef, undef, undef, undef, undef, undef, undef, undef, undef, undef, undef, undef, undef, undef, undef, undef], defers := [] } : Act)) ?_ ?_ ?_ ?_ ?_
      · exact fun s W1 W' ⟨h1, h2⟩ he => ⟨h1.trans he, h2⟩
      · exact fun s W0 p u cs fr ⟨h1, h2⟩ hp hge => ⟨h1.set (by have := E2.size; omega) u, h2⟩
      · exact fun s W0 l o o' ⟨h1, h2⟩ hl hW ho => ⟨h1.put (by have := E2.size; omega) o', h2⟩
      · exact fun c s W0 l o o' ⟨h0, h1, d, h2, h3, h4, h5⟩ hl hW ho => ⟨h0, h1.put (by have := E2.size; omega) o', d, h2, h3, (World.putObj_heap_other (by have := E2.size; omega)).trans h4, (World.putObj_heap_other (by have := E2.size; omega)).trans h5⟩
      · exact fun x a' W0 l1 o1 o' ⟨H1, H2, h1, h2, h3, h4, h5⟩ _ hW ho => ⟨H1, H2, cell_put h1 o' hW ho, cell_put h2 o' hW ho, cell_put h3 o' hW ho, cell_put h4 o' hW ho, h5⟩
      · intro l1 x W0 K hz hK
        obtain ⟨⟨xa, xb⟩, ⟨ya, yb⟩⟩ := x
        simp only [encPP, vPt] at hK ⊢
        gi_wp2
        exact hK _ _ (((Ext.refl W0).alloc _).alloc _) ⟨W0.heap.size, W0.heap.size + 1, by go_simp, by go_simp, by go_simp, by go_simp, rfl⟩
      · rintro l1 pre x suf a' Wr ⟨j1, j2⟩ ⟨H1, H2, k1, k2, k3, k4, rfl⟩ hsp hz
        have hxm : x ∈ sidesP a := by rw [hsp]; simp
        obtain ⟨m1, m2, m3⟩ := side_in hxm
        have hwd := diff_wide (HWA.out _ m1) (HWA.out _ m2)
        have JW : Ext W Wr := j1
        have HJ2 := Lib.hid j2
        have HHZ := Lib.hid hz
        clear hxm m1 m2 hsp j2 hz
        obtain ⟨⟨xa, xb⟩, ⟨ya, yb⟩⟩ := x
        simp only at m3 hwd k1 k2 k3 k4
        obtain ⟨X', hX'⟩ : ∃ X', ya - xa = X' := ⟨_, rfl⟩
        obtain ⟨Y', hY'⟩ : ∃ Y', yb - xb = Y' := ⟨_, rfl⟩
        have HXY := Lib.hid (And.intro hX' hY')
        rw [hX', hY'] at m3 hwd
        have HM3 := Lib.hid m3
        have hwd2 : wideD (X', Y') := hwd
        unfold wideD at hwd2
        simp only at hwd2
        have u1 := IntWalk.i64_in X' (by omega)
        have u2 := IntWalk.i64_in Y' (by omega)
        have u3 := IntWalk.i64_in (-X') (by omega)
        have u4 := IntWalk.i64_in (-Y') (by omega)
        have hwall : ∀ d ∈ pdP (X', Y'), wideD d := by
          intro d hd
          simp only [pdP, List.mem_cons, List.not_mem_nil, or_false] at hd
          unfold wideD
          rcases hd with h | h | h | h <;> rw [h] <;> simp only <;> omega
        have TR0 := Lib.hid (fun V (h : Ext Wr V) (bd : Nat) (hblk : V.heap[bd]? = some (.cells #[.int .i64 Y', .int .i64 (-X'), .int .i64 0, .int .i64 (-Y'), .int .i64 X', .int .i64 0, .int .i64 X', .int .i64 Y', .int .i64 0, .int .i64 (-X'), .int .i64 (-Y'), .int .i64 0] 43 (0, 0))) => try_c _ _ a b bd 4 (pdP (X', Y')) V (HPA.out.ext ((HEW.out.trans JW).trans h)) (HPB.out.ext ((HEW.out.trans JW).trans h)) ha0 hb0 HWA.out HWB.out (pd_cells X' Y' hblk) hwall (by simp [pdP]))
        obtain ⟨oo, hoo⟩ : ∃ oo, (pdP (X', Y')).find? (sepB a b) = oo := ⟨_, rfl⟩
        rw [hoo] at TR0
        have HOO := Lib.hid hoo
        obtain ⟨dx, dy, dk, hshape⟩ := tryV_shape a oo
        rw [hshape] at TR0
        unfold lnV at TR0
        obtain ⟨okk, hok⟩ : ∃ okk, oo.isSome = okk := ⟨_, rfl⟩
        rw [hok] at TR0
        have HSH := Lib.hid (And.intro hshape hok)
        have y0r := JW.cell y0
        have y1r := JW.cell y1
        have bL := blk_ext HBl.out.2.2.1 JW
        have bO := blk_ext HBl.out.2.2.2 JW
        have HBB := Lib.hid (And.intro bL bO)
        have zJ := JW.size
        clear hwd hwall hoo hshape hok m3 hwd2 bL bO
        gi_wp2
        refine region_quiet_roundC (F := Fence.wide) (fun w' => Ext Wr w') rfl (by kernel_rfl) (by rfl) (by kernel_rfl) ((Ext.refl _).drew) ?_
        repeat
          refine wpQuietIn_step (fun _ _ _ _ => trivial) (fun K hK => ?_)
          go_simp
          first
            | (refine hK _ ?_; clear hK K)
            | (apply Exists.intro
               refine ⟨fun w' hC => ?_, hK _ ?_⟩
               · first
                   | rfl
                   | (have q1 := hC.cell k1; have q2 := hC.cell k2; have q3 := hC.cell k3; have q4 := hC.cell k4; go_simp; done)
                   | (have q1 := hC.cell k1; have q2 := hC.cell k2; have q3 := hC.cell k3; have q4 := hC.cell k4; go_simp; exact ⟨rfl, rfl⟩)
                   | (have q1 := hC.cell k1; have q2 := hC.cell k2; have q3 := hC.cell k3; have q4 := hC.cell k4; go_simp; rfl)
               clear hK K)
        refine wpQuietIn_nil ?_
        intro wq hEq
        have y0q := hEq.cell y0r
        have y1q := hEq.cell y1r
        have EJ := JW.trans hEq
        clear y0r y1r k1 k2 k3 k4
        have HY01 := Lib.hid (And.intro y0q y1q)
        cases okk
        · gi_wp2_with (refine ⟨trivial, ?_⟩; gi_at_call 72; refine (callsIn_roundH (TR0.out _ (by (repeat' (first | exact Ext.refl _ | assumption | refine Ext.alloc ?_ _ | refine Ext.drew ?_ | refine Ext.drewN ?_ _ | refine Ext.set ?_ (by first | exact Nat.le_refl _ | exact le1 _ | exact le2 _ | exact le3 _ | exact le4 _ | exact le5 _ | exact le6 _) _ | refine Ext.trans ?_ (by assumption)))) _ (World.alloc_heap_new _ _))).mono ?_; rintro e w3 ⟨rfl, hb3⟩)
          have EV : Ext Wr (w3.alloc (.cells #[.int .i64 dx, .int .i64 dy, .int .i64 dk] 43)) := ((hEq.alloc _).trans hb3).alloc _
          refine ⟨keeps_ext EV, KpT.ext EV, j1.trans EV, ?_⟩
          rw [List.flatMap_append, List.any_append, HJ2.out, List.flatMap_cons, List.flatMap_nil, List.append_nil, Bool.false_or]
          simp only
          rw [HXY.out.1, HXY.out.2, ← find_any, HOO.out, HSH.out.2]
        · gi_wp2_with (refine ⟨trivial, ?_⟩; gi_at_call 72; refine (callsIn_roundH (TR0.out _ (by (repeat' (first | exact Ext.refl _ | assumption | refine Ext.alloc ?_ _ | refine Ext.drew ?_ | refine Ext.drewN ?_ _ | refine Ext.set ?_ (by first | exact Nat.le_refl _ | exact le1 _ | exact le2 _ | exact le3 _ | exact le4 _ | exact le5 _ | exact le6 _) _ | refine Ext.trans ?_ (by assumption)))) _ (World.alloc_heap_new _ _))).mono ?_; rintro e w3 ⟨rfl, hb3⟩; have E3 := (hEq.alloc _).trans hb3; have bL3 := blk_ext HBB.out.1 E3; have bO3 := blk_ext HBB.out.2 E3; have r0 : w3.cell? ⟨w.heap.size + 1 + 1, 0, none⟩ = some (.int .i64 0) := World.news_of_block bL3 0 _ rfl; have r1 : w3.cell? ⟨w.heap.size + 1 + 1, 1, none⟩ = some (.int .i64 0) := World.news_of_block bL3 1 _ rfl; have r2 : w3.cell? ⟨w.heap.size + 1 + 1, 2, none⟩ = some (.int .i64 0) := World.news_of_block bL3 2 _ rfl; have r3 : w3.cell? ⟨w.heap.size + 1 + 1 + 1, 0, none⟩ = some (.bool false) := World.news_of_block bO3 0 _ rfl; have f0 := blk_frzH bL3 0; have f1 := blk_frzH bL3 1; have f2 := blk_frzH bL3 2; have f3 := blk_frzH bO3 0; have lL := (Array.getElem?_eq_some_iff.1 bL3).1; have lO := (Array.getElem?_eq_some_iff.1 bO3).1; have HB3 := Lib.hid (And.intro bL3 bO3); clear bL3 bO3)
          have hhh := tryV_some HSH.out.1 HSH.out.2
          obtain ⟨hq1, rfl⟩ := hhh
          have hfs := HOO.out
          rw [hq1] at hfs
          have hmem := HM3.out _ (List.mem_of_find?_eq_some hfs)
          have hsp := List.find?_some hfs
          clear hfs hq1
          have ew3 : Ext w w3 := (HEW.out.trans JW).trans E3
          have kw3 := keeps_ext E3
          have b0 := HB3.out.1
          have b1 := HB3.out.2
          have bL5 := blk_old (c := w.heap.size + 1 + 1 + 1) (i := 0) (u := .bool true) (blk_setH 2 (.int .i64 (hiP (dx, dy) a)) (blk_setH 1 (.int .i64 dy) (blk_setH 0 (.int .i64 dx) b0))) (by omega)
          have bO5 := blk_setH 0 (.bool true) (blk_old (c := w.heap.size + 1 + 1) (i := 2) (u := .int .i64 (hiP (dx, dy) a)) (blk_old (c := w.heap.size + 1 + 1) (i := 1) (u := .int .i64 dy) (blk_old (c := w.heap.size + 1 + 1) (i := 0) (u := .int .i64 dx) b1 (by omega)) (by omega)) (by omega))
          refine ⟨((((kw3.trans (KeepsOthers.setCell _ _ _)).trans (KeepsOthers.setCell _ _ _)).trans (KeepsOthers.setCell _ _ _)).trans (KeepsOthers.setCell _ _ _)).trans (KeepsOthers.alloc _ _), rfl, (((((ew3.set (p := ⟨w.heap.size + 1 + 1, 0, none⟩) (show w.heap.size ≤ w.heap.size + 1 + 1 by omega) _).set (p := ⟨w.heap.size + 1 + 1, 1, none⟩) (show w.heap.size ≤ w.heap.size + 1 + 1 by omega) _).set (p := ⟨w.heap.size + 1 + 1, 2, none⟩) (show w.heap.size ≤ w.heap.size + 1 + 1 by omega) _).set (p := ⟨w.heap.size + 1 + 1 + 1, 0, none⟩) (show w.heap.size ≤ w.heap.size + 1 + 1 + 1 by omega) _).alloc _), (dx, dy), List.mem_append.2 (.inl (List.mem_append.2 (.inr hmem))), hsp, ?_, ?_⟩
          · exact blk_ext bL5 ((Ext.refl _).alloc _)
          · exact blk_ext bO5 ((Ext.refl _).alloc _)
      · rintro D W0 hD ⟨h1, h2⟩ hDD
        have y0b := h1.cell y0
        have y1b := h1.cell y1
        have SB := sides_seq W0.heap.size (.slice (some ⟨bb, ob, none⟩) b.length cb) b W (W0.alloc (.cells #[.slice (some ⟨bb, ob, none⟩) b.length cb] 23)) (h1.alloc _) (HPB.out.ext HEW.out) hb0 (Boxed.new W0 _ _) (fun t => t = 23) 2 (by omega) rfl h1.sz
        refine (‹∀ (a : Act) (w : World), Code.wp Try.prog _ _ a w → _›) _ _ ?_
        go_wp2_with fail
        refine HR2.out _ _ ?_
        go_wp2_with (go_at_call 44; refine (sides_c _ _ _ _).mono ?_; rintro e w2 ⟨rfl, rfl⟩)
        have E3 : Ext W0 (W0.alloc (.cells #[.slice (some ⟨bb, ob, none⟩) b.length cb] 23)) := (Ext.refl W0).alloc _
        have lD := (Array.getElem?_eq_some_iff.1 hDD).1
        have zE3 := E3.size
        have zE2 := E2.size
        have zh1 := h1.size
        refine (wpIn_wide (n := 5)).1 ?_
        refine wpIn_rangeFunc_T2 (α := HPt × HPt) (n := 5) rfl (by omega) (gf := 69) rfl trivial (enters_of Try.func69 (by kernel_rfl) rfl) SB (Ext.refl _) (fun _ => rfl)
          (fun pre W' => Ext W0 W' ∧ (pre.flatMap (fun s => pdP (s.2.1 - s.1.1, s.2.2 - s.1.2))).any (sepB a b) = false)
          (fun c pre W' => c = .ret ∧ Ext w W' ∧ W'.heap[D]? = some (.deferred (some [])) ∧ ∃ d : HPt, d ∈ adirs a b ∧ sepB a b d = true ∧ W'.heap[w.heap.size + 1 + 1]? = some (.cells #[.int .i64 d.1, .int .i64 d.2, .int .i64 (hiP d a)] 43 (0, 0)) ∧ W'.heap[w.heap.size + 1 + 1 + 1]? = some (.cells #[.bool true] 4 (0, 0)))
          (fun _ _ h => h1.trans h.1) ?_ ?_ ?_ ?_ ⟨E3, rfl⟩
          (fun x a' W' => ∃ H1 H2, W'.cell? ⟨H1, 0, none⟩ = some (.int .i64 x.1.1) ∧ W'.cell? ⟨H1, 1, none⟩ = some (.int .i64 x.1.2) ∧ W'.cell? ⟨H2, 0, none⟩ = some (.int .i64 x.2.1) ∧ W'.cell? ⟨H2, 1, none⟩ = some (.int .i64 x.2.2) ∧ a' = ({ tmps := #[.slice (some ⟨ba, oa, none⟩) a.length ca, .slice (some ⟨bb, ob, none⟩) b.length cb, .pointer (some ⟨w.heap.size, 0, none⟩), .pointer (some ⟨w.heap.size + 1, 0, none⟩), .pointer (some ⟨w.heap.size + 1 + 1, 0, none⟩), .pointer (some ⟨w.heap.size + 1 + 1 + 1, 0, none⟩), .pointer (some ⟨bz, 0, none⟩), .bool false, undef, .slice (some ⟨bb, ob, none⟩) b.length cb, .pointer (some ⟨H1, 0, none⟩), .pointer (some ⟨H2, 0, none⟩), undef, undef, undef, undef, u16, u17, u18, u19, u20, u21, u22, u23, u24, u25, u26, u27, u28, u29, u30, u31, u32, u33, u34, u35, u36, u37, u38, u39, u40, u41, .bool false, undef, .slice (some ⟨ba, oa, none⟩) a.length ca, .slice (some ⟨bb, ob, none⟩) b.length cb, .agg #[.slice (some ⟨ba, oa, none⟩) a.length ca, .slice (some ⟨bb, ob, none⟩) b.length cb], .int .i64 1, .bool true, .slice (some ⟨bb, ob, none⟩) b.length cb, .slice (some ⟨bb, ob, none⟩) b.length cb, .func (.func 69) #[] #[.pointer (some ⟨W0.heap.size, 0, none⟩)], .agg #[.int .i64 x.1.1, .int .i64 x.1.2], .agg #[.int .i64 x.2.1, .int .i64 x.2.2], undef, undef, undef, undef, undef, undef, undef, undef, undef, undef, undef, undef, undef, undef, undef, undef, undef, undef, undef, undef, undef, undef, undef, undef, undef, undef, undef, undef, undef, undef, undef, undef, undef, undef, undef, .int .i64 1, undef], defers := [] } : Act)) ?_ ?_ ?_ ?_ ?_
        · exact fun s V1 V' ⟨g1, g2⟩ he => ⟨g1.trans he, g2⟩
        · exact fun s V0 p u cs fr ⟨g1, g2⟩ hp hge => ⟨g1.set (by omega) u, g2⟩
        · exact fun s V0 l o o' ⟨g1, g2⟩ hl hW ho => ⟨g1.put (by omega) o', g2⟩
        · exact fun c s V0 l o o' ⟨g0, g1, gD, d, g2, g3, g4, g5⟩ hl hW ho => ⟨g0, g1.put (by omega) o', (World.putObj_heap_other (by omega)).trans gD, d, g2, g3, (World.putObj_heap_other (by omega)).trans g4, (World.putObj_heap_other (by omega)).trans g5⟩
        · exact fun x a' V0 l1 o1 o' ⟨H1, H2, g1, g2, g3, g4, g5⟩ _ hW ho => ⟨H1, H2, cell_put g1 o' hW ho, cell_put g2 o' hW ho, cell_put g3 o' hW ho, cell_put g4 o' hW ho, g5⟩
        · intro l1 x V0 K hz hK
          obtain ⟨⟨xa, xb⟩, ⟨ya, yb⟩⟩ := x
          simp only [encPP, vPt] at hK ⊢
          gi_wp2
          exact hK _ _ (((Ext.refl V0).alloc _).alloc _) ⟨V0.heap.size, V0.heap.size + 1, by go_simp, by go_simp, by go_simp, by go_simp, rfl⟩
        · rintro l1 pre x suf a' Wr ⟨j1, j2⟩ ⟨H1, H2, k1, k2, k3, k4, rfl⟩ hsp hz
          have hxm : x ∈ sidesP b := by rw [hsp]; simp
          obtain ⟨m1, m2, m3⟩ := side_in hxm
          have hwd := diff_wide (HWB.out _ m1) (HWB.out _ m2)
          have JW : Ext W Wr := h1.trans j1
          have HJ2 := Lib.hid j2
          have HHZ := Lib.hid hz
          clear hxm m1 m2 hsp j2 hz
          obtain ⟨⟨xa, xb⟩, ⟨ya, yb⟩⟩ := x
          simp only at m3 hwd k1 k2 k3 k4
          obtain ⟨X', hX'⟩ : ∃ X', ya - xa = X' := ⟨_, rfl⟩
          obtain ⟨Y', hY'⟩ : ∃ Y', yb - xb = Y' := ⟨_, rfl⟩
          have HXY := Lib.hid (And.intro hX' hY')
          rw [hX', hY'] at m3 hwd
          have HM3 := Lib.hid m3
          have hwd2 : wideD (X', Y') := hwd
          unfold wideD at hwd2
          simp only at hwd2
          have u1 := IntWalk.i64_in X' (by omega)
          have u2 := IntWalk.i64_in Y' (by omega)
          have u3 := IntWalk.i64_in (-X') (by omega)
          have u4 := IntWalk.i64_in (-Y') (by omega)
          have hwall : ∀ d ∈ pdP (X', Y'), wideD d := by
            intro d hd
            simp only [pdP, List.mem_cons, List.not_mem_nil, or_false] at hd
            unfold wideD
            rcases hd with h | h | h | h <;> rw [h] <;> simp only <;> omega
          have TR0 := Lib.hid (fun V (h : Ext Wr V) (bd : Nat) (hblk : V.heap[bd]? = some (.cells #[.int .i64 Y', .int .i64 (-X'), .int .i64 0, .int .i64 (-Y'), .int .i64 X', .int .i64 0, .int .i64 X', .int .i64 Y', .int .i64 0, .int .i64 (-X'), .int .i64 (-Y'), .int .i64 0] 43 (0, 0))) => try_c _ _ a b bd 4 (pdP (X', Y')) V (HPA.out.ext ((HEW.out.trans JW).trans h)) (HPB.out.ext ((HEW.out.trans JW).trans h)) ha0 hb0 HWA.out HWB.out (pd_cells X' Y' hblk) hwall (by simp [pdP]))
          obtain ⟨oo, hoo⟩ : ∃ oo, (pdP (X', Y')).find? (sepB a b) = oo := ⟨_, rfl⟩
          rw [hoo] at TR0
          have HOO := Lib.hid hoo
          obtain ⟨dx, dy, dk, hshape⟩ := tryV_shape a oo
          rw [hshape] at TR0
          unfold lnV at TR0
          obtain ⟨okk, hok⟩ : ∃ okk, oo.isSome = okk := ⟨_, rfl⟩
          rw [hok] at TR0
          have HSH := Lib.hid (And.intro hshape hok)
          have y0r := JW.cell y0
          have y1r := JW.cell y1
          have bL := blk_ext HBl.out.2.2.1 JW
          have bO := blk_ext HBl.out.2.2.2 JW
          have HBB := Lib.hid (And.intro bL bO)
          have zJ := JW.size
          clear hwd hwall hoo hshape hok m3 hwd2 bL bO
          gi_wp2
          refine region_quiet_roundC (F := Fence.wide) (fun w' => Ext Wr w') rfl (by kernel_rfl) (by rfl) (by kernel_rfl) ((Ext.refl _).drew) ?_
          repeat
            refine wpQuietIn_step (fun _ _ _ _ => trivial) (fun K hK => ?_)
            go_simp
            first
              | (refine hK _ ?_; clear hK K)
              | (apply Exists.intro
                 refine ⟨fun w' hC => ?_, hK _ ?_⟩
                 · first
                     | rfl
                     | (have q1 := hC.cell k1; have q2 := hC.cell k2; have q3 := hC.cell k3; have q4 := hC.cell k4; go_simp; done)
                     | (have q1 := hC.cell k1; have q2 := hC.cell k2; have q3 := hC.cell k3; have q4 := hC.cell k4; go_simp; exact ⟨rfl, rfl⟩)
                     | (have q1 := hC.cell k1; have q2 := hC.cell k2; have q3 := hC.cell k3; have q4 := hC.cell k4; go_simp; rfl)
                 clear hK K)
          refine wpQuietIn_nil ?_
          intro wq hEq
          have y0q := hEq.cell y0r
          have y1q := hEq.cell y1r
          have EJ := JW.trans hEq
          clear y0r y1r k1 k2 k3 k4
          have HY01 := Lib.hid (And.intro y0q y1q)
          cases okk
          · gi_wp2_with (refine ⟨trivial, ?_⟩; gi_at_call 72; refine (callsIn_roundH (TR0.out _ (by (repeat' (first | exact Ext.refl _ | assumption | refine Ext.alloc ?_ _ | refine Ext.drew ?_ | refine Ext.drewN ?_ _ | refine Ext.set ?_ (by first | exact Nat.le_refl _ | exact le1 _ | exact le2 _ | exact le3 _ | exact le4 _ | exact le5 _ | exact le6 _) _ | refine Ext.trans ?_ (by assumption)))) _ (World.alloc_heap_new _ _))).mono ?_; rintro e w3 ⟨rfl, hb3⟩)
            have EV : Ext Wr (w3.alloc (.cells #[.int .i64 dx, .int .i64 dy, .int .i64 dk] 43)) := ((hEq.alloc _).trans hb3).alloc _
            refine ⟨keeps_ext EV, KpT.ext EV, j1.trans EV, ?_⟩
            rw [List.flatMap_append, List.any_append, HJ2.out, List.flatMap_cons, List.flatMap_nil, List.append_nil, Bool.false_or]
            simp only
            rw [HXY.out.1, HXY.out.2, ← find_any, HOO.out, HSH.out.2]
          · gi_wp2_with (refine ⟨trivial, ?_⟩; gi_at_call 72; refine (callsIn_roundH (TR0.out _ (by (repeat' (first | exact Ext.refl _ | assumption | refine Ext.alloc ?_ _ | refine Ext.drew ?_ | refine Ext.drewN ?_ _ | refine Ext.set ?_ (by first | exact Nat.le_refl _ | exact le1 _ | exact le2 _ | exact le3 _ | exact le4 _ | exact le5 _ | exact le6 _) _ | refine Ext.trans ?_ (by assumption)))) _ (World.alloc_heap_new _ _))).mono ?_; rintro e w3 ⟨rfl, hb3⟩; have E3 := (hEq.alloc _).trans hb3; have bL3 := blk_ext HBB.out.1 E3; have bO3 := blk_ext HBB.out.2 E3; have r0 : w3.cell? ⟨w.heap.size + 1 + 1, 0, none⟩ = some (.int .i64 0) := World.news_of_block bL3 0 _ rfl; have r1 : w3.cell? ⟨w.heap.size + 1 + 1, 1, none⟩ = some (.int .i64 0) := World.news_of_block bL3 1 _ rfl; have r2 : w3.cell? ⟨w.heap.size + 1 + 1, 2, none⟩ = some (.int .i64 0) := World.news_of_block bL3 2 _ rfl; have r3 : w3.cell? ⟨w.heap.size + 1 + 1 + 1, 0, none⟩ = some (.bool false) := World.news_of_block bO3 0 _ rfl; have f0 := blk_frzH bL3 0; have f1 := blk_frzH bL3 1; have f2 := blk_frzH bL3 2; have f3 := blk_frzH bO3 0; have lL := (Array.getElem?_eq_some_iff.1 bL3).1; have lO := (Array.getElem?_eq_some_iff.1 bO3).1; have HB3 := Lib.hid (And.intro bL3 bO3); clear bL3 bO3)
            have hhh := tryV_some HSH.out.1 HSH.out.2
            obtain ⟨hq1, rfl⟩ := hhh
            have hfs := HOO.out
            rw [hq1] at hfs
            have hmem := HM3.out _ (List.mem_of_find?_eq_some hfs)
            have hsp := List.find?_some hfs
            clear hfs hq1
            have ew3 : Ext w w3 := (HEW.out.trans JW).trans E3
            have kw3 := keeps_ext E3
            have b0 := HB3.out.1
            have b1 := HB3.out.2
            have bL5 := blk_old (c := w.heap.size + 1 + 1 + 1) (i := 0) (u := .bool true) (blk_setH 2 (.int .i64 (hiP (dx, dy) a)) (blk_setH 1 (.int .i64 dy) (blk_setH 0 (.int .i64 dx) b0))) (by omega)
            have bO5 := blk_setH 0 (.bool true) (blk_old (c := w.heap.size + 1 + 1) (i := 2) (u := .int .i64 (hiP (dx, dy) a)) (blk_old (c := w.heap.size + 1 + 1) (i := 1) (u := .int .i64 dy) (blk_old (c := w.heap.size + 1 + 1) (i := 0) (u := .int .i64 dx) b1 (by omega)) (by omega)) (by omega))
            refine ⟨((((kw3.trans (KeepsOthers.setCell _ _ _)).trans (KeepsOthers.setCell _ _ _)).trans (KeepsOthers.setCell _ _ _)).trans (KeepsOthers.setCell _ _ _)).trans (KeepsOthers.alloc _ _), rfl, (((((ew3.set (p := ⟨w.heap.size + 1 + 1, 0, none⟩) (show w.heap.size ≤ w.heap.size + 1 + 1 by omega) _).set (p := ⟨w.heap.size + 1 + 1, 1, none⟩) (show w.heap.size ≤ w.heap.size + 1 + 1 by omega) _).set (p := ⟨w.heap.size + 1 + 1, 2, none⟩) (show w.heap.size ≤ w.heap.size + 1 + 1 by omega) _).set (p := ⟨w.heap.size + 1 + 1 + 1, 0, none⟩) (show w.heap.size ≤ w.heap.size + 1 + 1 + 1 by omega) _).alloc _), ?_, (dx, dy), List.mem_append.2 (.inr hmem), hsp, ?_, ?_⟩
            · have d3 : w3.heap[D]? = some (.deferred (some [])) := blk_ext hDD (j1.trans E3)
              have lDw : w.heap.size + 4 ≤ D := by omega
              exact blk_ext ((Below.heap_setCell _ _ _ D (show D ≠ w.heap.size + 1 + 1 + 1 by omega)).trans ((Below.heap_setCell _ _ _ D (show D ≠ w.heap.size + 1 + 1 by omega)).trans ((Below.heap_setCell _ _ _ D (show D ≠ w.heap.size + 1 + 1 by omega)).trans ((Below.heap_setCell _ _ _ D (show D ≠ w.heap.size + 1 + 1 by omega)).trans d3)))) ((Ext.refl _).alloc _)
            · exact blk_ext bL5 ((Ext.refl _).alloc _)
            · exact blk_ext bO5 ((Ext.refl _).alloc _)
        · rintro D2 V0 hD2 ⟨g1, g2⟩ hDD2
          have gE := h1.trans g1
          have gD := blk_ext hDD g1
          have bL := blk_ext HBl.out.2.2.1 gE
          have bO := blk_ext HBl.out.2.2.2 gE
          have r0 : V0.cell? ⟨w.heap.size + 1 + 1, 0, none⟩ = some (.int .i64 0) := World.news_of_block bL 0 _ rfl
          have r1 : V0.cell? ⟨w.heap.size + 1 + 1, 1, none⟩ = some (.int .i64 0) := World.news_of_block bL 1 _ rfl
          have r2 : V0.cell? ⟨w.heap.size + 1 + 1, 2, none⟩ = some (.int .i64 0) := World.news_of_block bL 2 _ rfl
          have r3 : V0.cell? ⟨w.heap.size + 1 + 1 + 1, 0, none⟩ = some (.bool false) := World.news_of_block bO 0 _ rfl
          have f0 := blk_frzH bL 0
          have f1 := blk_frzH bL 1
          have f2 := blk_frzH bL 2
          have f3 := blk_frzH bO 0
          have hS1 := sides_none h2
          have hS2 := sides_none g2
          have HS12 := Lib.hid (And.intro hS1 hS2)
          have HDs := Lib.hid (And.intro gD hDD2)
          have HBB2 := Lib.hid (And.intro bL bO)
          have HGE := Lib.hid (HEW.out.trans gE)
          clear hS1 hS2 h2 g2 gD hDD2 bL bO
          refine (‹∀ (a : Act) (w : World), Code.wp Try.prog _ _ a w → _›) _ _ ?_
          go_wp2_with fail
          refine HR1.out _ _ ?_
          go_wp2_with fail
          have nD : D ≠ w.heap.size + 1 + 1 ∧ D ≠ w.heap.size + 1 + 1 + 1 ∧ D2 ≠ w.heap.size + 1 + 1 ∧ D2 ≠ w.heap.size + 1 + 1 + 1 ∧ D ≠ D2 := by omega
          have bL5 := blk_old (c := w.heap.size + 1 + 1 + 1) (i := 0) (u := .bool false) (blk_setH 2 (.int .i64 0) (blk_setH 1 (.int .i64 0) (blk_setH 0 (.int .i64 0) HBB2.out.1))) (by omega)
          have bO5 := blk_setH 0 (.bool false) (blk_old (c := w.heap.size + 1 + 1) (i := 2) (u := .int .i64 0) (blk_old (c := w.heap.size + 1 + 1) (i := 1) (u := .int .i64 0) (blk_old (c := w.heap.size + 1 + 1) (i := 0) (u := .int .i64 0) HBB2.out.2 (by omega)) (by omega)) (by omega))
          have bD5 := blk_old (c := w.heap.size + 1 + 1 + 1) (i := 0) (u := .bool false) (blk_old (c := w.heap.size + 1 + 1) (i := 2) (u := .int .i64 0) (blk_old (c := w.heap.size + 1 + 1) (i := 1) (u := .int .i64 0) (blk_old (c := w.heap.size + 1 + 1) (i := 0) (u := .int .i64 0) HDs.out.1 nD.1) nD.1) nD.1) nD.2.1
          have bE5 := blk_old (c := w.heap.size + 1 + 1 + 1) (i := 0) (u := .bool false) (blk_old (c := w.heap.size + 1 + 1) (i := 2) (u := .int .i64 0) (blk_old (c := w.heap.size + 1 + 1) (i := 1) (u := .int .i64 0) (blk_old (c := w.heap.size + 1 + 1) (i := 0) (u := .int .i64 0) HDs.out.2 nD.2.2.1) nD.2.2.1) nD.2.2.1) nD.2.2.2.1
          have e5 : Ext w ((((V0.setCell ⟨w.heap.size + 1 + 1, 0, none⟩ (.int .i64 0)).setCell ⟨w.heap.size + 1 + 1, 1, none⟩ (.int .i64 0)).setCell ⟨w.heap.size + 1 + 1, 2, none⟩ (.int .i64 0)).setCell ⟨w.heap.size + 1 + 1 + 1, 0, none⟩ (.bool false)) := (((HGE.out.set (p := ⟨w.heap.size + 1 + 1, 0, none⟩) (show w.heap.size ≤ w.heap.size + 1 + 1 by omega) _).set (p := ⟨w.heap.size + 1 + 1, 1, none⟩) (show w.heap.size ≤ w.heap.size + 1 + 1 by omega) _).set (p := ⟨w.heap.size + 1 + 1, 2, none⟩) (show w.heap.size ≤ w.heap.size + 1 + 1 by omega) _).set (p := ⟨w.heap.size + 1 + 1 + 1, 0, none⟩) (show w.heap.size ≤ w.heap.size + 1 + 1 + 1 by omega) _
          generalize ((((V0.setCell ⟨w.heap.size + 1 + 1, 0, none⟩ (.int .i64 0)).setCell ⟨w.heap.size + 1 + 1, 1, none⟩ (.int .i64 0)).setCell ⟨w.heap.size + 1 + 1, 2, none⟩ (.int .i64 0)).setCell ⟨w.heap.size + 1 + 1 + 1, 0, none⟩ (.bool false)) = V5 at *
          have gD' : (V5.putObj D2 (.deferred none)).heap[D]? = some (.deferred (some [])) := (World.putObj_heap_other (by omega)).trans bD5
          have bL6 : ((V5.putObj D2 (.deferred none)).putObj D (.deferred none)).heap[w.heap.size + 1 + 1]? = _ := (World.putObj_heap_other (by omega)).trans ((World.putObj_heap_other (by omega)).trans bL5)
          have bO6 : ((V5.putObj D2 (.deferred none)).putObj D (.deferred none)).heap[w.heap.size + 1 + 1 + 1]? = _ := (World.putObj_heap_other (by omega)).trans ((World.putObj_heap_other (by omega)).trans bO5)
          have n0 : ((V5.putObj D2 (.deferred none)).putObj D (.deferred none)).cell? ⟨w.heap.size + 1 + 1, 0, none⟩ = some (.int .i64 0) := World.news_of_block bL6 0 _ rfl
          have n1 : ((V5.putObj D2 (.deferred none)).putObj D (.deferred none)).cell? ⟨w.heap.size + 1 + 1, 1, none⟩ = some (.int .i64 0) := World.news_of_block bL6 1 _ rfl
          have n2 : ((V5.putObj D2 (.deferred none)).putObj D (.deferred none)).cell? ⟨w.heap.size + 1 + 1, 2, none⟩ = some (.int .i64 0) := World.news_of_block bL6 2 _ rfl
          have n3 : ((V5.putObj D2 (.deferred none)).putObj D (.deferred none)).cell? ⟨w.heap.size + 1 + 1 + 1, 0, none⟩ = some (.bool false) := World.news_of_block bO6 0 _ rfl
          refine ⟨by simp, .inl ⟨_, _, rfl, run_takeDeferred bE5, ?_⟩⟩
          refine ⟨by simp, .inl ⟨_, _, rfl, run_takeDeferred gD', ?_⟩⟩
          refine ⟨.tuple #[lnV 0 0 0, .bool false], by simp [results, Try.results54, go_sem, n0, n1, n2, n3, lnV], ?_⟩
          refine ⟨⟨none, rfl, fun _ => ?_, (fun d hd => by cases hd)⟩, (e5.put (by omega) _).put (by omega) _⟩
          rw [List.any_eq_false]
          intro d hd
          unfold adirs at hd
          rcases List.mem_append.1 hd with hd | hd
          · rcases List.mem_append.1 hd with hd | hd
            · have hn := HT.out.2
              rw [find_any] at hn
              rw [List.any_eq_false] at hn
              exact hn d hd
            · rw [HS12.out.1 d hd]; simp
          · rw [HS12.out.2 d hd]; simp
        · rintro D2 c pre V0 hD2 ⟨rfl, g1, gD, d, g2, g3, g4, g5⟩ hDD2
          have gD' : (V0.putObj D2 (.deferred none)).heap[D]? = some (.deferred (some [])) := (World.putObj_heap_other (by omega)).trans gD
          have bL5 : ((V0.putObj D2 (.deferred none)).putObj D (.deferred none)).heap[w.heap.size + 1 + 1]? = _ := (World.putObj_heap_other (by omega)).trans ((World.putObj_heap_other (by omega)).trans g4)
          have bO5 : ((V0.putObj D2 (.deferred none)).putObj D (.deferred none)).heap[w.heap.size + 1 + 1 + 1]? = _ := (World.putObj_heap_other (by omega)).trans ((World.putObj_heap_other (by omega)).trans g5)
          have n0 : ((V0.putObj D2 (.deferred none)).putObj D (.deferred none)).cell? ⟨w.heap.size + 1 + 1, 0, none⟩ = some (.int .i64 d.1) := World.news_of_block bL5 0 _ rfl
          have n1 : ((V0.putObj D2 (.deferred none)).putObj D (.deferred none)).cell? ⟨w.heap.size + 1 + 1, 1, none⟩ = some (.int .i64 d.2) := World.news_of_block bL5 1 _ rfl
          have n2 : ((V0.putObj D2 (.deferred none)).putObj D (.deferred none)).cell? ⟨w.heap.size + 1 + 1, 2, none⟩ = some (.int .i64 (hiP d a)) := World.news_of_block bL5 2 _ rfl
          have n3 : ((V0.putObj D2 (.deferred none)).putObj D (.deferred none)).cell? ⟨w.heap.size + 1 + 1 + 1, 0, none⟩ = some (.bool true) := World.news_of_block bO5 0 _ rfl
          refine wpIn_wide.2 ?_
          go_wp2_with fail
          refine ⟨by simp, .inl ⟨_, _, rfl, run_takeDeferred hDD2, ?_⟩⟩
          refine ⟨by simp, .inl ⟨_, _, rfl, run_takeDeferred gD', ?_⟩⟩
          refine ⟨.tuple #[lnV d.1 d.2 (hiP d a), .bool true], by simp [results, Try.results54, go_sem, n0, n1, n2, n3, lnV], ?_⟩
          refine ⟨⟨some d, rfl, by simp, ?_⟩, (g1.put (by omega) _).put (by omega) _⟩
          intro d' e
          cases e
          exact ⟨g2, g3⟩
      · rintro D c pre W0 hD ⟨rfl, h1, d, h2, h3, h4, h5⟩ hDD
        have zE := E2.size
        have bL5 : (W0.putObj D (.deferred none)).heap[w.heap.size + 1 + 1]? = _ := (World.putObj_heap_other (by omega)).trans h4
        have bO5 : (W0.putObj D (.deferred none)).heap[w.heap.size + 1 + 1 + 1]? = _ := (World.putObj_heap_other (by omega)).trans h5
        have n0 : (W0.putObj D (.deferred none)).cell? ⟨w.heap.size + 1 + 1, 0, none⟩ = some (.int .i64 d.1) := World.news_of_block bL5 0 _ rfl
        have n1 : (W0.putObj D (.deferred none)).cell? ⟨w.heap.size + 1 + 1, 1, none⟩ = some (.int .i64 d.2) := World.news_of_block bL5 1 _ rfl
        have n2 : (W0.putObj D (.deferred none)).cell? ⟨w.heap.size + 1 + 1, 2, none⟩ = some (.int .i64 (hiP d a)) := World.news_of_block bL5 2 _ rfl
        have n3 : (W0.putObj D (.deferred none)).cell? ⟨w.heap.size + 1 + 1 + 1, 0, none⟩ = some (.bool true) := World.news_of_block bO5 0 _ rfl
        refine wpIn_wide.2 ?_
        go_wp2_with fail
        refine ⟨by simp, .inl ⟨_, _, rfl, run_takeDeferred hDD, ?_⟩⟩
        refine ⟨.tuple #[lnV d.1 d.2 (hiP d a), .bool true], by simp [results, Try.results54, go_sem, n0, n1, n2, n3, lnV], ?_⟩
        refine ⟨⟨some d, rfl, by simp, ?_⟩, h1.put (by omega) _⟩
        intro d' e
        cases e
        exact ⟨h2, h3⟩
    · have bL := blk_ext2 E1 HBl.out.2.2.1
      have bO := blk_ext2 E1 HBl.out.2.2.2
      have r0 : W1.cell? ⟨w.heap.size + 1 + 1, 0, none⟩ = some (.int .i64 0) := World.news_of_block bL 0 _ rfl
      have r1 : W1.cell? ⟨w.heap.size + 1 + 1, 1, none⟩ = some (.int .i64 0) := World.news_of_block bL 1 _ rfl
      have r2 : W1.cell? ⟨w.heap.size + 1 + 1, 2, none⟩ = some (.int .i64 0) := World.news_of_block bL 2 _ rfl
      have r3 : W1.cell? ⟨w.heap.size + 1 + 1 + 1, 0, none⟩ = some (.bool false) := World.news_of_block bO 0 _ rfl
      have f0 := blk_frzH bL 0
      have f1 := blk_frzH bL 1
      have f2 := blk_frzH bL 2
      have f3 := blk_frzH bO 0
      clear TC HPA HPB HWA HWB HF
      go_wp2_with fail
      have bL5 := blk_old (c := w.heap.size + 1 + 1 + 1) (i := 0) (u := .bool true) (blk_setH 2 (.int .i64 k1) (blk_setH 1 (.int .i64 y1') (blk_setH 0 (.int .i64 x1) bL))) (by omega)
      have bO5 := blk_setH 0 (.bool true) (blk_old (c := w.heap.size + 1 + 1) (i := 2) (u := .int .i64 k1) (blk_old (c := w.heap.size + 1 + 1) (i := 1) (u := .int .i64 y1') (blk_old (c := w.heap.size + 1 + 1) (i := 0) (u := .int .i64 x1) bO (by omega)) (by omega)) (by omega))
      have e5 : Ext w ((((W1.setCell ⟨w.heap.size + 1 + 1, 0, none⟩ (.int .i64 x1)).setCell ⟨w.heap.size + 1 + 1, 1, none⟩ (.int .i64 y1')).setCell ⟨w.heap.size + 1 + 1, 2, none⟩ (.int .i64 k1)).setCell ⟨w.heap.size + 1 + 1 + 1, 0, none⟩ (.bool true)) := ((((HEW.out.trans E1).set (p := ⟨w.heap.size + 1 + 1, 0, none⟩) (show w.heap.size ≤ w.heap.size + 1 + 1 by omega) _).set (p := ⟨w.heap.size + 1 + 1, 1, none⟩) (show w.heap.size ≤ w.heap.size + 1 + 1 by omega) _).set (p := ⟨w.heap.size + 1 + 1, 2, none⟩) (show w.heap.size ≤ w.heap.size + 1 + 1 by omega) _).set (p := ⟨w.heap.size + 1 + 1 + 1, 0, none⟩) (show w.heap.size ≤ w.heap.size + 1 + 1 + 1 by omega) _
      generalize ((((W1.setCell ⟨w.heap.size + 1 + 1, 0, none⟩ (.int .i64 x1)).setCell ⟨w.heap.size + 1 + 1, 1, none⟩ (.int .i64 y1')).setCell ⟨w.heap.size + 1 + 1, 2, none⟩ (.int .i64 k1)).setCell ⟨w.heap.size + 1 + 1 + 1, 0, none⟩ (.bool true)) = W5 at *
      have n0 : W5.cell? ⟨w.heap.size + 1 + 1, 0, none⟩ = some (.int .i64 x1) := World.news_of_block bL5 0 _ rfl
      have n1 : W5.cell? ⟨w.heap.size + 1 + 1, 1, none⟩ = some (.int .i64 y1') := World.news_of_block bL5 1 _ rfl
      have n2 : W5.cell? ⟨w.heap.size + 1 + 1, 2, none⟩ = some (.int .i64 k1) := World.news_of_block bL5 2 _ rfl
      have n3 : W5.cell? ⟨w.heap.size + 1 + 1 + 1, 0, none⟩ = some (.bool true) := World.news_of_block bO5 0 _ rfl
      refine ⟨.tuple #[lnV x1 y1' k1, .bool true], by simp [results, Try.results54, go_sem, n0, n1, n2, n3, lnV], ?_⟩
      refine ⟨⟨[fdP a b].find? (sepB a b), by rw [HT.out.1], ?_, ?_⟩, e5⟩
      · intro h
        have := HT.out.2
        rw [h] at this
        cases this
      · intro d h
        have hm := List.mem_of_find?_eq_some h
        have hs := List.find?_some h
        rw [List.mem_singleton] at hm
        subst hm
        exact ⟨by simp [adirs], hs⟩
end Go.Proofs.Ytlndcpjaeoppmaa
