
/- LRigAll: several texts in one. -/
import Derived.Test.YtkkeblgahbpmmaaLAround
/- Contract: the points of a friction area. -/
namespace Go.Proofs.Ytkkeblgahbpmmaa
open Go.RowKit Go.Shelf Go.Lib

def fricA (n fr : Int) : Int := (n * fr).tdiv 1000
def fricB (a : Int) : Int := (a * 707).tdiv 1000
def fricP (a b x y : Int) : List HPt := [((x + a), y), ((x + b), (y + b)), (x, (y + a)), ((x + (-b)), (y + b)), ((x + (-a)), y), ((x + (-b)), (y + (-b))), (x, (y + (-a))), ((x + b), (y + (-b)))]
def fricL (n fr x y : Int) : List HPt := fricP (fricA n fr) (fricB (fricA n fr)) x y
/-- a rig in memory -/
def rigCs (l : LLoad) (vp ve : Value) (mass : Int) (vu : Value) : Array Value := #[.string l.name, vp, ve, .int .i64 l.friction, .int .i64 mass, vu]
theorem tdiv_small (n d B : Int) (hd : 1 ≤ d) (hB : 0 ≤ B) (h1 : -B ≤ n) (h2 : n ≤ B) : -B ≤ n.tdiv d ∧ n.tdiv d ≤ B + 1 := Pl.tdiv_bd n d B hd hB h1 h2
set_option maxRecDepth 100000 in
set_option maxHeartbeats 6400000 in
theorem friction_c (l : LLoad) (vp ve vu : Value) (mass : Int) (rb : Nat) (n x y : Int) (w : World) (hr : w.heap[rb]? = some (.cells (rigCs l vp ve mass vu) 103 (0, 0))) (hf : 0 ≤ l.friction ∧ l.friction ≤ 1000)
    (hn : -134217728 ≤ n ∧ n ≤ 134217728) (hx : -536870912 ≤ x ∧ x ≤ 536870912) (hy : -536870912 ≤ y ∧ y ≤ 536870912) :
    Calls Try.prog 74 #[.pointer (some ⟨rb, 0, none⟩), .int .i64 n, .int .i64 x, .int .i64 y] w fun e w' => ∃ v', e = .returned v' ∧ OwnP w.heap.size w' v' (fricL n l.friction x y) ∧ Ext w w' := by
  obtain ⟨ip, hi0, hii⟩ := Option.map_eq_some_iff.1 infoPoint
  simp only [Prod.mk.injEq] at hii
  obtain ⟨hi1, hi2, hi3⟩ := hii
  have c3 : w.cell? ⟨rb, 3, none⟩ = some (.int .i64 l.friction) := lb_cell hr 3 _ rfl
  have hbr := lb_lt hr
  unfold fricL
  have b1 := Pl.mul_bd (a := n) (b := l.friction) (A := 134217728) (B := 1000) hn.1 hn.2 (by omega) hf.2
  have b2 := tdiv_small (n * l.friction) 1000 134217728000 (by omega) (by omega) (by omega) (by omega)
  have hA : fricA n l.friction = (n * l.friction).tdiv 1000 := rfl
  have hB : fricB (fricA n l.friction) = (fricA n l.friction * 707).tdiv 1000 := rfl
  have w1 := IntWalk.i64_in (n * l.friction) (by omega)
  have b3 := tdiv_small (fricA n l.friction * 707) 1000 94892000000000 (by omega) (by omega) (by omega) (by omega)
  have w2 := IntWalk.i64_in (fricA n l.friction * 707) (by omega)
  have w3 := IntWalk.i64_in (fricA n l.friction) (by omega)
  have w4 := IntWalk.i64_in (fricB (fricA n l.friction)) (by omega)
  rw [hA] at w3
  rw [← hA] at b2
  rw [← hB] at b3
  generalize hFB : fricB (fricA n l.friction) = b at *
  generalize hFA : fricA n l.friction = a at *
  have wA : IntKind.i64.wrap a = a := by rw [← hA] at w3; exact w3
  have na := IntWalk.i64_in (-a) (by omega)
  have nb := IntWalk.i64_in (-b) (by omega)
  have HWX := Lib.hid (And.intro (IntWalk.i64_in (x + a) (by omega)) (And.intro (IntWalk.i64_in (x + b) (by omega)) (And.intro (IntWalk.i64_in x (by omega)) (And.intro (IntWalk.i64_in (x + -b) (by omega)) (IntWalk.i64_in (x + -a) (by omega))))))
  have HWY := Lib.hid (And.intro (IntWalk.i64_in (y + a) (by omega)) (And.intro (IntWalk.i64_in (y + b) (by omega)) (And.intro (IntWalk.i64_in y (by omega)) (And.intro (IntWalk.i64_in (y + -b) (by omega)) (IntWalk.i64_in (y + -a) (by omega))))))
  have hA' := hA.symm
  have hB' := hB.symm
  clear hA hB hFA hFB w3 b1 b2 b3 hn hx hy hf hr
  obtain ⟨P, hP⟩ : ∃ P, fricP a b x y = P := ⟨_, rfl⟩
  rw [hP]
  have HP := Lib.hid hP
  clear hP
  go_enter Try.func74, Try.ntmps74
  go_wp2
  clear w1 w2 wA na nb w4 hA' hB' c3
  go_loopw [11, 52] (fun s i wr => ∃ k : Nat, k ≤ 8 ∧ i = .int .i64 k ∧ Ext w wr ∧ OwnP w.heap.size wr s (P.take k)) (fun _ i _ => 8 - (intOf i).toNat)
  case atStart => exact ⟨0, by omega, rfl, by (repeat' (first | exact Ext.refl _ | assumption | refine Ext.alloc ?_ _ | refine Ext.drew ?_ | refine Ext.drewN ?_ _ | refine Ext.set ?_ (by first | exact Nat.le_refl _ | exact le1 _ | exact le2 _ | exact le3 _ | exact le4 _ | exact le5 _ | exact le6 _) _ | refine Ext.trans ?_ (by assumption))), OwnP.none0⟩
  case round =>
    obtain ⟨k, hk, rfl, hE, hO⟩ := hrel
    obtain ⟨A9, c9, rfl, hl9⟩ := hO.shape
    generalize hN : (P.take k).length = N at *
    have R := Lib.hid (And.intro hE hO)
    have HN := Lib.hid hN
    clear hE hO hN
    rcases (show k = 0 ∨ k = 1 ∨ k = 2 ∨ k = 3 ∨ k = 4 ∨ k = 5 ∨ k = 6 ∨ k = 7 ∨ k = 8 by omega) with rfl | rfl | rfl | rfl | rfl | rfl | rfl | rfl | rfl
    · have hl : (P.take 0).length = 0 := by rw [← HP.out]; rfl
      obtain rfl : N = 0 := HN.out.symm.trans hl
      have hE := R.out.1
      have hO := R.out.2
      have HL := Lib.hid hl
      clear hl
      have ix : ∀ W, (Instr.index 137 (.agg #[.int .i64 a, .int .i64 0, .int .i64 b, .int .i64 b, .int .i64 0, .int .i64 a, .int .i64 (-b), .int .i64 b, .int .i64 (-a), .int .i64 0, .int .i64 (-b), .int .i64 (-b), .int .i64 0, .int .i64 (-a), .int .i64 b, .int .i64 (-b)]) (.int .i64 0)).run Try.prog W = .ok (.agg #[.int .i64 a, .int .i64 0]) W := fun _ => by rfl
      have wx := HWX.out.1
      have wy := HWY.out.2.2.1
      have hown := hO
      unfold OwnP at hown
      rw [HL.out] at hown
      have HOW := Lib.hid hown
      have hsz := hE.size
      clear hown hE hO
      go_wp2_with (at_builtin; refine wpList_append_own _ rfl _ _ 48 rfl w.heap.size 52 ip _ 2 16 Try.underlying48 hi0 hi1 hi2 hi3 rfl (by decide) _ _ _ rfl ((HOW.out.alloc _).alloc _) ⟨wr.heap.size + 1, 0, none⟩ 1 1 [.int .i64 (x + a), .int .i64 y] rfl rfl (World.news_of_block (cs := #[.int .i64 (x + a), .int .i64 y]) (t := 52) (fr := (0, 0)) (h2_second wr _ _)) (by simp [Value.oneCell']) (by unfold maxLen; omega) (by omega) (by simp; omega) ?_; intro v' w4 hown' hg3 _)
      have E9 := Ext.grown ((R.out.1.alloc (.cells #[.int .i64 a, .int .i64 0] 136)).alloc (.cells #[.int .i64 (x + a), .int .i64 y] 52)) hg3 (fun k hk => own_ge HOW.out k hk)
      have hx9 : P[0]? = some ((x + a), y) := by rw [← HP.out]; rfl
      have O9 : OwnP w.heap.size w4 v' (P.take (0 + 1)) := by
        rw [take_some hx9]
        exact OwnP.snoc (by rw [HL.out]; exact hown')
      exact ⟨⟨0 + 1, by omega, by go_num, E9, O9⟩, by simp [intOf]⟩
    · have hl : (P.take 1).length = 1 := by rw [← HP.out]; rfl
      obtain rfl : N = 1 := HN.out.symm.trans hl
      have hE := R.out.1
      have hO := R.out.2
      have HL := Lib.hid hl
      clear hl
      have ix : ∀ W, (Instr.index 137 (.agg #[.int .i64 a, .int .i64 0, .int .i64 b, .int .i64 b, .int .i64 0, .int .i64 a, .int .i64 (-b), .int .i64 b, .int .i64 (-a), .int .i64 0, .int .i64 (-b), .int .i64 (-b), .int .i64 0, .int .i64 (-a), .int .i64 b, .int .i64 (-b)]) (.int .i64 1)).run Try.prog W = .ok (.agg #[.int .i64 b, .int .i64 b]) W := fun _ => by rfl
      have wx := HWX.out.2.1
      have wy := HWY.out.2.1
      have hown := hO
      unfold OwnP at hown
      rw [HL.out] at hown
      have HOW := Lib.hid hown
      have hsz := hE.size
      clear hown hE hO
      go_wp2_with (at_builtin; refine wpList_append_own _ rfl _ _ 48 rfl w.heap.size 52 ip _ 2 16 Try.underlying48 hi0 hi1 hi2 hi3 rfl (by decide) _ _ _ rfl ((HOW.out.alloc _).alloc _) ⟨wr.heap.size + 1, 0, none⟩ 1 1 [.int .i64 (x + b), .int .i64 (y + b)] rfl rfl (World.news_of_block (cs := #[.int .i64 (x + b), .int .i64 (y + b)]) (t := 52) (fr := (0, 0)) (h2_second wr _ _)) (by simp [Value.oneCell']) (by unfold maxLen; omega) (by omega) (by simp; omega) ?_; intro v' w4 hown' hg3 _)
      have E9 := Ext.grown ((R.out.1.alloc (.cells #[.int .i64 b, .int .i64 b] 136)).alloc (.cells #[.int .i64 (x + b), .int .i64 (y + b)] 52)) hg3 (fun k hk => own_ge HOW.out k hk)
      have hx9 : P[1]? = some ((x + b), (y + b)) := by rw [← HP.out]; rfl
      have O9 : OwnP w.heap.size w4 v' (P.take (1 + 1)) := by
        rw [take_some hx9]
        exact OwnP.snoc (by rw [HL.out]; exact hown')
      exact ⟨⟨1 + 1, by omega, by go_num, E9, O9⟩, by simp [intOf]⟩
    · have hl : (P.take 2).length = 2 := by rw [← HP.out]; rfl
      obtain rfl : N = 2 := HN.out.symm.trans hl
      have hE := R.out.1
      have hO := R.out.2
      have HL := Lib.hid hl
      clear hl
      have ix : ∀ W, (Instr.index 137 (.agg #[.int .i64 a, .int .i64 0, .int .i64 b, .int .i64 b, .int .i64 0, .int .i64 a, .int .i64 (-b), .int .i64 b, .int .i64 (-a), .int .i64 0, .int .i64 (-b), .int .i64 (-b), .int .i64 0, .int .i64 (-a), .int .i64 b, .int .i64 (-b)]) (.int .i64 2)).run Try.prog W = .ok (.agg #[.int .i64 0, .int .i64 a]) W := fun _ => by rfl
      have wx := HWX.out.2.2.1
      have wy := HWY.out.1
      have hown := hO
      unfold OwnP at hown
      rw [HL.out] at hown
      have HOW := Lib.hid hown
      have hsz := hE.size
      clear hown hE hO
      go_wp2_with (at_builtin; refine wpList_append_own _ rfl _ _ 48 rfl w.heap.size 52 ip _ 2 16 Try.underlying48 hi0 hi1 hi2 hi3 rfl (by decide) _ _ _ rfl ((HOW.out.alloc _).alloc _) ⟨wr.heap.size + 1, 0, none⟩ 1 1 [.int .i64 x, .int .i64 (y + a)] rfl rfl (World.news_of_block (cs := #[.int .i64 x, .int .i64 (y + a)]) (t := 52) (fr := (0, 0)) (h2_second wr _ _)) (by simp [Value.oneCell']) (by unfold maxLen; omega) (by omega) (by simp; omega) ?_; intro v' w4 hown' hg3 _)
      have E9 := Ext.grown ((R.out.1.alloc (.cells #[.int .i64 0, .int .i64 a] 136)).alloc (.cells #[.int .i64 x, .int .i64 (y + a)] 52)) hg3 (fun k hk => own_ge HOW.out k hk)
      have hx9 : P[2]? = some (x, (y + a)) := by rw [← HP.out]; rfl
      have O9 : OwnP w.heap.size w4 v' (P.take (2 + 1)) := by
        rw [take_some hx9]
        exact OwnP.snoc (by rw [HL.out]; exact hown')
      exact ⟨⟨2 + 1, by omega, by go_num, E9, O9⟩, by simp [intOf]⟩
    · have hl : (P.take 3).length = 3 := by rw [← HP.out]; rfl
      obtain rfl : N = 3 := HN.out.symm.trans hl
      have hE := R.out.1
      have hO := R.out.2
      have HL := Lib.hid hl
      clear hl
      have ix : ∀ W, (Instr.index 137 (.agg #[.int .i64 a, .int .i64 0, .int .i64 b, .int .i64 b, .int .i64 0, .int .i64 a, .int .i64 (-b), .int .i64 b, .int .i64 (-a), .int .i64 0, .int .i64 (-b), .int .i64 (-b), .int .i64 0, .int .i64 (-a), .int .i64 b, .int .i64 (-b)]) (.int .i64 3)).run Try.prog W = .ok (.agg #[.int .i64 (-b), .int .i64 b]) W := fun _ => by rfl
      have wx := HWX.out.2.2.2.1
      have wy := HWY.out.2.1
      have hown := hO
      unfold OwnP at hown
      rw [HL.out] at hown
      have HOW := Lib.hid hown
      have hsz := hE.size
      clear hown hE hO
      go_wp2_with (at_builtin; refine wpList_append_own _ rfl _ _ 48 rfl w.heap.size 52 ip _ 2 16 Try.underlying48 hi0 hi1 hi2 hi3 rfl (by decide) _ _ _ rfl ((HOW.out.alloc _).alloc _) ⟨wr.heap.size + 1, 0, none⟩ 1 1 [.int .i64 (x + (-b)), .int .i64 (y + b)] rfl rfl (World.news_of_block (cs := #[.int .i64 (x + (-b)), .int .i64 (y + b)]) (t := 52) (fr := (0, 0)) (h2_second wr _ _)) (by simp [Value.oneCell']) (by unfold maxLen; omega) (by omega) (by simp; omega) ?_; intro v' w4 hown' hg3 _)
      have E9 := Ext.grown ((R.out.1.alloc (.cells #[.int .i64 (-b), .int .i64 b] 136)).alloc (.cells #[.int .i64 (x + (-b)), .int .i64 (y + b)] 52)) hg3 (fun k hk => own_ge HOW.out k hk)
      have hx9 : P[3]? = some ((x + (-b)), (y + b)) := by rw [← HP.out]; rfl
      have O9 : OwnP w.heap.size w4 v' (P.take (3 + 1)) := by
        rw [take_some hx9]
        exact OwnP.snoc (by rw [HL.out]; exact hown')
      exact ⟨⟨3 + 1, by omega, by go_num, E9, O9⟩, by simp [intOf]⟩
    · have hl : (P.take 4).length = 4 := by rw [← HP.out]; rfl
      obtain rfl : N = 4 := HN.out.symm.trans hl
      have hE := R.out.1
      have hO := R.out.2
      have HL := Lib.hid hl
      clear hl
      have ix : ∀ W, (Instr.index 137 (.agg #[.int .i64 a, .int .i64 0, .int .i64 b, .int .i64 b, .int .i64 0, .int .i64 a, .int .i64 (-b), .int .i64 b, .int .i64 (-a), .int .i64 0, .int .i64 (-b), .int .i64 (-b), .int .i64 0, .int .i64 (-a), .int .i64 b, .int .i64 (-b)]) (.int .i64 4)).run Try.prog W = .ok (.agg #[.int .i64 (-a), .int .i64 0]) W := fun _ => by rfl
      have wx := HWX.out.2.2.2.2
      have wy := HWY.out.2.2.1
      have hown := hO
      unfold OwnP at hown
      rw [HL.out] at hown
      have HOW := Lib.hid hown
      have hsz := hE.size
      clear hown hE hO
      go_wp2_with (at_builtin; refine wpList_append_own _ rfl _ _ 48 rfl w.heap.size 52 ip _ 2 16 Try.underlying48 hi0 hi1 hi2 hi3 rfl (by decide) _ _ _ rfl ((HOW.out.alloc _).alloc _) ⟨wr.heap.size + 1, 0, none⟩ 1 1 [.int .i64 (x + (-a)), .int .i64 y] rfl rfl (World.news_of_block (cs := #[.int .i64 (x + (-a)), .int .i64 y]) (t := 52) (fr := (0, 0)) (h2_second wr _ _)) (by simp [Value.oneCell']) (by unfold maxLen; omega) (by omega) (by simp; omega) ?_; intro v' w4 hown' hg3 _)
      have E9 := Ext.grown ((R.out.1.alloc (.cells #[.int .i64 (-a), .int .i64 0] 136)).alloc (.cells #[.int .i64 (x + (-a)), .int .i64 y] 52)) hg3 (fun k hk => own_ge HOW.out k hk)
      have hx9 : P[4]? = some ((x + (-a)), y) := by rw [← HP.out]; rfl
      have O9 : OwnP w.heap.size w4 v' (P.take (4 + 1)) := by
        rw [take_some hx9]
        exact OwnP.snoc (by rw [HL.out]; exact hown')
      exact ⟨⟨4 + 1, by omega, by go_num, E9, O9⟩, by simp [intOf]⟩
    · have hl : (P.take 5).length = 5 := by rw [← HP.out]; rfl
      obtain rfl : N = 5 := HN.out.symm.trans hl
      have hE := R.out.1
      have hO := R.out.2
      have HL := Lib.hid hl
      clear hl
      have ix : ∀ W, (Instr.index 137 (.agg #[.int .i64 a, .int .i64 0, .int .i64 b, .int .i64 b, .int .i64 0, .int .i64 a, .int .i64 (-b), .int .i64 b, .int .i64 (-a), .int .i64 0, .int .i64 (-b), .int .i64 (-b), .int .i64 0, .int .i64 (-a), .int .i64 b, .int .i64 (-b)]) (.int .i64 5)).run Try.prog W = .ok (.agg #[.int .i64 (-b), .int .i64 (-b)]) W := fun _ => by rfl
      have wx := HWX.out.2.2.2.1
      have wy := HWY.out.2.2.2.1
      have hown := hO
      unfold OwnP at hown
      rw [HL.out] at hown
      have HOW := Lib.hid hown
      have hsz := hE.size
      clear hown hE hO
      go_wp2_with (at_builtin; refine wpList_append_own _ rfl _ _ 48 rfl w.heap.size 52 ip _ 2 16 Try.underlying48 hi0 hi1 hi2 hi3 rfl (by decide) _ _ _ rfl ((HOW.out.alloc _).alloc _) ⟨wr.heap.size + 1, 0, none⟩ 1 1 [.int .i64 (x + (-b)), .int .i64 (y + (-b))] rfl rfl (World.news_of_block (cs := #[.int .i64 (x + (-b)), .int .i64 (y + (-b))]) (t := 52) (fr := (0, 0)) (h2_second wr _ _)) (by simp [Value.oneCell']) (by unfold maxLen; omega) (by omega) (by simp; omega) ?_; intro v' w4 hown' hg3 _)
      have E9 := Ext.grown ((R.out.1.alloc (.cells #[.int .i64 (-b), .int .i64 (-b)] 136)).alloc (.cells #[.int .i64 (x + (-b)), .int .i64 (y + (-b))] 52)) hg3 (fun k hk => own_ge HOW.out k hk)
      have hx9 : P[5]? = some ((x + (-b)), (y + (-b))) := by rw [← HP.out]; rfl
      have O9 : OwnP w.heap.size w4 v' (P.take (5 + 1)) := by
        rw [take_some hx9]
        exact OwnP.snoc (by rw [HL.out]; exact hown')
      exact ⟨⟨5 + 1, by omega, by go_num, E9, O9⟩, by simp [intOf]⟩
    · have hl : (P.take 6).length = 6 := by rw [← HP.out]; rfl
      obtain rfl : N = 6 := HN.out.symm.trans hl
      have hE := R.out.1
      have hO := R.out.2
      have HL := Lib.hid hl
      clear hl
      have ix : ∀ W, (Instr.index 137 (.agg #[.int .i64 a, .int .i64 0, .int .i64 b, .int .i64 b, .int .i64 0, .int .i64 a, .int .i64 (-b), .int .i64 b, .int .i64 (-a), .int .i64 0, .int .i64 (-b), .int .i64 (-b), .int .i64 0, .int .i64 (-a), .int .i64 b, .int .i64 (-b)]) (.int .i64 6)).run Try.prog W = .ok (.agg #[.int .i64 0, .int .i64 (-a)]) W := fun _ => by rfl
      have wx := HWX.out.2.2.1
      have wy := HWY.out.2.2.2.2
      have hown := hO
      unfold OwnP at hown
      rw [HL.out] at hown
      have HOW := Lib.hid hown
      have hsz := hE.size
      clear hown hE hO
      go_wp2_with (at_builtin; refine wpList_append_own _ rfl _ _ 48 rfl w.heap.size 52 ip _ 2 16 Try.underlying48 hi0 hi1 hi2 hi3 rfl (by decide) _ _ _ rfl ((HOW.out.alloc _).alloc _) ⟨wr.heap.size + 1, 0, none⟩ 1 1 [.int .i64 x, .int .i64 (y + (-a))] rfl rfl (World.news_of_block (cs := #[.int .i64 x, .int .i64 (y + (-a))]) (t := 52) (fr := (0, 0)) (h2_second wr _ _)) (by simp [Value.oneCell']) (by unfold maxLen; omega) (by omega) (by simp; omega) ?_; intro v' w4 hown' hg3 _)
      have E9 := Ext.grown ((R.out.1.alloc (.cells #[.int .i64 0, .int .i64 (-a)] 136)).alloc (.cells #[.int .i64 x, .int .i64 (y + (-a))] 52)) hg3 (fun k hk => own_ge HOW.out k hk)
      have hx9 : P[6]? = some (x, (y + (-a))) := by rw [← HP.out]; rfl
      have O9 : OwnP w.heap.size w4 v' (P.take (6 + 1)) := by
        rw [take_some hx9]
        exact OwnP.snoc (by rw [HL.out]; exact hown')
      exact ⟨⟨6 + 1, by omega, by go_num, E9, O9⟩, by simp [intOf]⟩
    · have hl : (P.take 7).length = 7 := by rw [← HP.out]; rfl
      obtain rfl : N = 7 := HN.out.symm.trans hl
      have hE := R.out.1
      have hO := R.out.2
      have HL := Lib.hid hl
      clear hl
      have ix : ∀ W, (Instr.index 137 (.agg #[.int .i64 a, .int .i64 0, .int .i64 b, .int .i64 b, .int .i64 0, .int .i64 a, .int .i64 (-b), .int .i64 b, .int .i64 (-a), .int .i64 0, .int .i64 (-b), .int .i64 (-b), .int .i64 0, .int .i64 (-a), .int .i64 b, .int .i64 (-b)]) (.int .i64 7)).run Try.prog W = .ok (.agg #[.int .i64 b, .int .i64 (-b)]) W := fun _ => by rfl
      have wx := HWX.out.2.1
      have wy := HWY.out.2.2.2.1
      have hown := hO
      unfold OwnP at hown
      rw [HL.out] at hown
      have HOW := Lib.hid hown
      have hsz := hE.size
      clear hown hE hO
      go_wp2_with (at_builtin; refine wpList_append_own _ rfl _ _ 48 rfl w.heap.size 52 ip _ 2 16 Try.underlying48 hi0 hi1 hi2 hi3 rfl (by decide) _ _ _ rfl ((HOW.out.alloc _).alloc _) ⟨wr.heap.size + 1, 0, none⟩ 1 1 [.int .i64 (x + b), .int .i64 (y + (-b))] rfl rfl (World.news_of_block (cs := #[.int .i64 (x + b), .int .i64 (y + (-b))]) (t := 52) (fr := (0, 0)) (h2_second wr _ _)) (by simp [Value.oneCell']) (by unfold maxLen; omega) (by omega) (by simp; omega) ?_; intro v' w4 hown' hg3 _)
      have E9 := Ext.grown ((R.out.1.alloc (.cells #[.int .i64 b, .int .i64 (-b)] 136)).alloc (.cells #[.int .i64 (x + b), .int .i64 (y + (-b))] 52)) hg3 (fun k hk => own_ge HOW.out k hk)
      have hx9 : P[7]? = some ((x + b), (y + (-b))) := by rw [← HP.out]; rfl
      have O9 : OwnP w.heap.size w4 v' (P.take (7 + 1)) := by
        rw [take_some hx9]
        exact OwnP.snoc (by rw [HL.out]; exact hown')
      exact ⟨⟨7 + 1, by omega, by go_num, E9, O9⟩, by simp [intOf]⟩
    · have hl : (P.take 8).length = 8 := by rw [← HP.out]; rfl
      obtain rfl : N = 8 := HN.out.symm.trans hl
      have R' := R.out
      clear hl
      go_wp2
      go_ret
      have e8 : P.take 8 = P := by rw [← HP.out]; rfl
      have h9 := R'.2
      rw [e8] at h9
      exact ⟨_, rfl, h9, R'.1⟩
end Go.Proofs.Ytkkeblgahbpmmaa
/- Contracts: steady, away, need. -/
namespace Go.Proofs.Ytkkeblgahbpmmaa
open Go.RowKit Go.Shelf Go.Lib

def steadyB (a b c : Int) : Bool := inB a (-2000) 2000 && (inB b (-2000) 2000 && inB c 0 2000)
def awayN (n : Int) : Int := if n < 0 then n / 1000 else -((-n) / 1000)
def needP (m a b : Int) : HPt := (awayN (m * a), awayN (m * b))
set_option maxRecDepth 100000 in
set_option maxHeartbeats 1600000 in
theorem steady_c (a b c : Int) (w : World) : Calls Try.prog 53 #[.agg #[.int .i64 a, .int .i64 b, .int .i64 c]] w fun e w' => e = .returned (.bool (steadyB a b c)) ∧ Ext w w' := by
  unfold steadyB
  have B1 := Lib.hid (fun w => between_c a (-2000) 2000 w)
  have B2 := Lib.hid (fun w => between_c b (-2000) 2000 w)
  have B3 := Lib.hid (fun w => between_c c 0 2000 w)
  generalize inB a (-2000) 2000 = b1 at *
  generalize inB b (-2000) 2000 = b2 at *
  generalize inB c 0 2000 = b3 at *
  cases b1 <;> cases b2
  all_goals
    go_enter Try.func53, Try.ntmps53
    go_wp2_with (first
      | (go_at_call 34; refine (B1.out _).mono ?_; rintro r w1 ⟨rfl, rfl⟩; clear B1)
      | (go_at_call 34; refine (B2.out _).mono ?_; rintro r w1 ⟨rfl, rfl⟩; clear B2)
      | (go_at_call 34; refine (B3.out _).mono ?_; rintro r w1 ⟨rfl, rfl⟩; clear B3))
    go_ret
    exact ⟨ret_bool (by simp), by (repeat' (first | exact Ext.refl _ | assumption | refine Ext.alloc ?_ _ | refine Ext.drew ?_ | refine Ext.drewN ?_ _ | refine Ext.set ?_ (by first | exact Nat.le_refl _ | exact le1 _ | exact le2 _ | exact le3 _ | exact le4 _ | exact le5 _ | exact le6 _) _ | refine Ext.trans ?_ (by assumption)))⟩
set_option maxHeartbeats 1600000 in
theorem away_c (n : Int) (w : World) (h : -8000000000000000000 ≤ n ∧ n ≤ 8000000000000000000) : Calls Try.prog 76 #[.int .i64 n] w fun e w' => e = .returned (.int .i64 (awayN n)) ∧ w = w' := by
  unfold awayN
  by_cases h0 : n < 0
  · rw [if_pos h0]
    have D := Lib.hid (fun w => div_c n 1000 w (by omega) (by omega) (by omega) (by omega))
    generalize n / 1000 = q at *
    clear h
    go_enter Try.func76, Try.ntmps76
    go_wp2_with (go_at_call 43; refine (D.out _).mono ?_; rintro e w1 ⟨rfl, rfl⟩)
    go_ret
    exact ⟨rfl, rfl⟩
  · rw [if_neg h0]
    have D := Lib.hid (fun w => div_c (-n) 1000 w (by omega) (by omega) (by omega) (by omega))
    have e1 := IntWalk.i64_in (-n) (by omega)
    have e2 := IntWalk.i64_in (-(-n / 1000)) (by omega)
    generalize -n / 1000 = q at *
    clear h
    go_enter Try.func76, Try.ntmps76
    go_wp2_with (go_at_call 43; refine (D.out _).mono ?_; rintro e w1 ⟨rfl, rfl⟩)
    go_ret
    exact ⟨rfl, rfl⟩
set_option maxRecDepth 100000 in
set_option maxHeartbeats 1600000 in
theorem need_c (m a b c : Int) (w : World) (hm : 0 ≤ m ∧ m ≤ 16777216) (ha : -2000 ≤ a ∧ a ≤ 2000) (hb : -2000 ≤ b ∧ b ≤ 2000) :
    Calls Try.prog 56 #[.int .i64 m, .agg #[.int .i64 a, .int .i64 b, .int .i64 c]] w fun e w' => e = .returned (.agg #[.int .i64 (needP m a b).1, .int .i64 (needP m a b).2]) ∧ Ext w w' := by
  have k1 := Pl.mul_bd (a := m) (b := a) (A := 16777216) (B := 2000) (by omega) (by omega) ha.1 ha.2
  have k2 := Pl.mul_bd (a := m) (b := b) (A := 16777216) (B := 2000) (by omega) (by omega) hb.1 hb.2
  have W1 := Lib.hid (fun w => away_c (m * a) w (by omega))
  have W2 := Lib.hid (fun w => away_c (m * b) w (by omega))
  have e1 := IntWalk.i64_in (m * a) (by omega)
  have e2 := IntWalk.i64_in (m * b) (by omega)
  unfold needP
  simp only
  clear k1 k2 hm ha hb
  go_enter Try.func56, Try.ntmps56
  go_wp2
  have s0 := lb_alloc (lb_new w (.cells #[.int .i64 a, .int .i64 b, .int .i64 c] 60)) (.cells #[.int .i64 0, .int .i64 0] 52)
  have r0 := lb_new (w.alloc (.cells #[.int .i64 a, .int .i64 b, .int .i64 c] 60)) (.cells #[.int .i64 0, .int .i64 0] 52)
  rw [size_alloc] at r0
  have e0 : Ext w ((w.alloc (.cells #[.int .i64 a, .int .i64 b, .int .i64 c] 60)).alloc (.cells #[.int .i64 0, .int .i64 0] 52)) := ((Ext.refl w).alloc _).alloc _
  generalize ((w.alloc (.cells #[.int .i64 a, .int .i64 b, .int .i64 c] 60)).alloc (.cells #[.int .i64 0, .int .i64 0] 52)) = W0 at *
  have a0 : W0.cell? ⟨w.heap.size, 0, none⟩ = some (.int .i64 a) := lb_cell s0 0 _ rfl
  have a1 : W0.cell? ⟨w.heap.size, 1, none⟩ = some (.int .i64 b) := lb_cell s0 1 _ rfl
  (refine Tail.wp_region_qtail (C := fun w' => Ext W0 w') 11 (by kernel_rfl) (by kernel_rfl) (fun _ _ _ _ _ h => h) (by (repeat' (first | exact Ext.refl _ | assumption | refine Ext.alloc ?_ _ | refine Ext.drew ?_ | refine Ext.drewN ?_ _ | refine Ext.set ?_ (by first | exact Nat.le_refl _ | exact le1 _ | exact le2 _ | exact le3 _ | exact le4 _ | exact le5 _ | exact le6 _) _ | refine Ext.trans ?_ (by assumption)))) ?_; simp only [List.take_succ_cons, List.take_zero, List.drop_succ_cons, List.drop_zero]; (repeat (with_reducible refine wpQuiet_step (fun K hK => ?_); go_simp; first | (refine hK _ ?_; clear hK K) | (apply Exists.intro; refine ⟨fun w' hC => ?_, hK _ ?_⟩; (focus first | with_reducible rfl | (have q0 := hC.cell a0; have q1 := hC.cell a1; go_simp; done) | (have q0 := hC.cell a0; have q1 := hC.cell a1; go_simp; exact ⟨rfl, rfl⟩) | (have q0 := hC.cell a0; have q1 := hC.cell a1; go_simp; with_reducible rfl) | (exact (W1.out _).mono fun e w'' ⟨he, hw''⟩ => ⟨he, hw'' ▸ hC⟩) | (exact (W2.out _).mono fun e w'' ⟨he, hw''⟩ => ⟨he, hw'' ▸ hC⟩)); clear hK K))); refine wpQuiet_nil ?_; intro wq hEq)
  have hR := lb_ext r0 hEq
  have y0 := lb_cell hR 0 _ rfl
  have y1 := lb_cell hR 1 _ rfl
  have f0 := lb_frz hR 0
  have f1 := lb_frz hR 1
  have HE := Lib.hid (e0.trans hEq)
  clear hEq
  go_wp2
  exact bodyPost_ret (v := .agg #[.int .i64 (awayN (m * a)), .int .i64 (awayN (m * b))]) (by simp [results, Try.results56, go_sem, y0, y1]) rfl ⟨rfl, (HE.out.set (by simp) _).set (by simp) _⟩
end Go.Proofs.Ytkkeblgahbpmmaa
/- Contracts: newRig and reach where there are no lashings. -/
namespace Go.Proofs.Ytkkeblgahbpmmaa
open Go.RowKit Go.Shelf Go.Lib

theorem OwnP.cellsP {base : Nat} {w : World} {g n c : Nat} {l : List HPt} (h : OwnP base w (.slice (some ⟨g, 0, none⟩) n c) l) : PtCells w g 0 l := by
  intro i hi
  obtain ⟨p, hp⟩ := some_of_lt hi
  obtain ⟨g', c', e, _, _, h1, h2⟩ := h.at hp
  simp only [Value.slice.injEq, Option.some.injEq, Addr.mk.injEq, and_true] at e
  obtain ⟨rfl, _⟩ := e
  have hg : l.getD i (0, 0) = p := by rw [getD_lt hi]; exact (List.getElem?_eq_some_iff.1 hp).2
  rw [hg, Nat.zero_add]
  exact ⟨h1, h2⟩
theorem tdiv_thou {n B : Int} (h0 : 0 ≤ n) (h1 : n ≤ B * 1000) : 0 ≤ n.tdiv 1000 ∧ n.tdiv 1000 ≤ B := by
  rw [Int.tdiv_eq_ediv_of_nonneg h0]
  omega
theorem fric_bds {n fr : Int} (hn : 0 ≤ n) (hf : 0 ≤ fr ∧ fr ≤ 1000) : (0 ≤ fricA n fr ∧ fricA n fr ≤ n) ∧ 0 ≤ fricB (fricA n fr) ∧ fricB (fricA n fr) ≤ n := by
  have b1 : n * fr ≤ n * 1000 := Int.mul_le_mul_of_nonneg_left hf.2 hn
  have b0 : 0 ≤ n * fr := Int.mul_nonneg hn hf.1
  have h1 := tdiv_thou b0 b1
  have hA : fricA n fr = (n * fr).tdiv 1000 := rfl
  rw [← hA] at h1
  have h2 := tdiv_thou (n := fricA n fr * 707) (B := n) (by omega) (by omega)
  exact ⟨h1, h2⟩
theorem fric_wide {n fr x y : Int} (hn : 0 ≤ n ∧ n ≤ 67108864) (hf : 0 ≤ fr ∧ fr ≤ 1000) (hx : -134217728 ≤ x ∧ x ≤ 134217728) (hy : -134217728 ≤ y ∧ y ≤ 134217728) : ∀ p ∈ fricL n fr x y, wideB p := by
  have h := fric_bds hn.1 hf
  unfold fricL fricP
  generalize fricB (fricA n fr) = b at *
  generalize fricA n fr = a at *
  intro p hp
  simp only [List.mem_cons, List.not_mem_nil, or_false] at hp
  unfold wideB
  rcases hp with rfl | rfl | rfl | rfl | rfl | rfl | rfl | rfl <;> simp only <;> omega
theorem fric_len (n fr x y : Int) : (fricL n fr x y).length = 8 := rfl
set_option maxRecDepth 100000 in
set_option maxHeartbeats 6400000 in
theorem reach_nil_c (l : LLoad) (vp ve fv : Value) (mass : Int) (rb : Nat) (a b c : Int) (w : World) (hr : w.heap[rb]? = some (.cells (rigCs l vp ve mass (.slice none 0 0)) 103 (0, 0))) (hf : 0 ≤ l.friction ∧ l.friction ≤ 1000)
    (hm : 0 ≤ mass ∧ mass ≤ 16777216) (hc : 0 ≤ c ∧ c ≤ 2000) :
    Calls Try.prog 54 #[.pointer (some ⟨rb, 0, none⟩), .agg #[.int .i64 a, .int .i64 b, .int .i64 c], fv] w fun e w' => ∃ v', e = .returned v' ∧ Pts w' v' (cornersP (fricL ((mass * c).tdiv 1000) l.friction 0 0)) ∧ Ext w w' ∧ Fresh w.heap.size v' := by
  have b1 : mass * c ≤ 16777216 * 2000 := Int.mul_le_mul hm.2 hc.2 hc.1 (by omega)
  have b0 : 0 ≤ mass * c := Int.mul_nonneg hm.1 hc.1
  have b2 := tdiv_thou (n := mass * c) (B := 33554432) b0 (by omega)
  have w1 := IntWalk.i64_in (mass * c) (by omega)
  obtain ⟨n, hn⟩ : ∃ n, (mass * c).tdiv 1000 = n := ⟨_, rfl⟩
  rw [hn] at b2 ⊢
  have w2 : IntKind.i64.wrap n = n := IntWalk.i64_in n (by omega)
  have FR := Lib.hid (fun W (h : Ext w W) => friction_c l vp ve (.slice none 0 0) mass rb n 0 0 W (lb_ext hr h) hf ⟨by omega, by omega⟩ (by decide) (by decide))
  have HWF := Lib.hid (fric_wide (n := n) (fr := l.friction) (x := 0) (y := 0) ⟨by omega, by omega⟩ hf (by decide) (by decide))
  have c4 : w.cell? ⟨rb, 4, none⟩ = some (.int .i64 mass) := lb_cell hr 4 _ rfl
  have c5 : w.cell? ⟨rb, 5, none⟩ = some (.slice none 0 0) := lb_cell hr 5 _ rfl
  have hbr := lb_lt hr
  have HL := Lib.hid (fric_len n l.friction 0 0)
  clear hr hf hm hc b0 b1 b2
  obtain ⟨L, hL⟩ : ∃ L, fricL n l.friction 0 0 = L := ⟨_, rfl⟩
  rw [hL] at FR HWF HL ⊢
  go_enter Try.func54, Try.ntmps54
  go_wp2
  have s0 := lb_new w (.cells #[.int .i64 a, .int .i64 b, .int .i64 c] 60)
  have e0 : Ext w (w.alloc (.cells #[.int .i64 a, .int .i64 b, .int .i64 c] 60)) := (Ext.refl w).alloc _
  replace c4 := e0.cell c4
  replace c5 := e0.cell c5
  have d2 : (w.alloc (.cells #[.int .i64 a, .int .i64 b, .int .i64 c] 60)).cell? ⟨w.heap.size, 2, none⟩ = some (.int .i64 c) := lb_cell s0 2 _ rfl
  generalize (w.alloc (.cells #[.int .i64 a, .int .i64 b, .int .i64 c] 60)) = W0 at *
  have HE0 := Lib.hid e0
  clear s0 e0
  go_region_with (first
    | (go_at_call 74; refine (FR.out _ (HE0.out.trans (by (repeat' (first | exact Ext.refl _ | assumption | refine Ext.alloc ?_ _ | refine Ext.drew ?_ | refine Ext.drewN ?_ _ | refine Ext.set ?_ (by first | exact Nat.le_refl _ | exact le1 _ | exact le2 _ | exact le3 _ | exact le4 _ | exact le5 _ | exact le6 _) _ | refine Ext.trans ?_ (by assumption)))))).mono ?_; rintro e w3 ⟨v3, rfl, o3, h3⟩; obtain ⟨g3, k3, rfl, _, hg3, _, _⟩ := o3.form (by rw [HL.out]; decide); have e3 : Ext W0 w3 := Ext.trans (by (repeat' (first | exact Ext.refl _ | assumption | refine Ext.alloc ?_ _ | refine Ext.drew ?_ | refine Ext.drewN ?_ _ | refine Ext.set ?_ (by first | exact Nat.le_refl _ | exact le1 _ | exact le2 _ | exact le3 _ | exact le4 _ | exact le5 _ | exact le6 _) _ | refine Ext.trans ?_ (by assumption)))) h3; clear h3)
    | (go_at_call 73; refine (around_c g3 0 k3 L w3 o3.cellsP (by rw [HL.out]; decide) HWF.out (by rw [HL.out]; decide)).mono ?_; rintro e w4 ⟨v4, rfl, hp4, h4, hf4⟩; have e4 := e3.trans h4; have c5 := e4.cell c5; have HP4 := Lib.hid (And.intro hp4 (And.intro (HE0.out.trans e4) (fun k hk => Nat.le_trans (HE0.out.trans e3).size (hf4 k hk)))); clear hp4 e4 h4 e3 o3 hf4))
  all_goals
    go_wp2
    go_loopw [7, 26] (fun s i wr => v4 = s ∧ i = .int .i64 0 ∧ w4 = wr) (fun _ _ _ => 0)
    case atStart => exact ⟨rfl, rfl, rfl⟩
    case round =>
      obtain ⟨rfl, rfl, rfl⟩ := hrel
      go_wp2
      go_ret
      exact ⟨_, rfl, HP4.out.1, HP4.out.2.1, HP4.out.2.2⟩

set_option maxRecDepth 100000 in
set_option maxHeartbeats 6400000 in
theorem newRig_nil_c (l : LLoad) (vp ve : Value) (w : World) (hl : IsLoad w l vp ve) :
    Calls Try.prog 52 #[loadV l vp ve, .slice none 0 0] w fun e w' => Ext w w' ∧ ((¬ loadE l = 0 ∧ e = .returned (.tuple #[.pointer none, .int .i64 (loadE l)])) ∨
      (loadE l = 0 ∧ ∃ rb, e = .returned (.tuple #[.pointer (some ⟨rb, 0, none⟩), .int .i64 0]) ∧ w'.heap[rb]? = some (.cells (rigCs l vp ve (massN l.pieces) (.slice none 0 0)) 103 (0, 0)))) := by
  have C := Lib.hid (fun W (h : Ext w W) => LCheck_c l vp ve W (hl.ext h))
  have hok := @load_ok l
  have hs := hl.pieces
  obtain ⟨A, cap, rfl, hl1, hl2⟩ := hl.pieces.shape
  obtain ⟨B, cbp, rfl, hm1, hm2⟩ := hl.eyes.shape
  clear hl
  unfold loadV at *
  obtain ⟨E, hE0⟩ : ∃ E, loadE l = E := ⟨_, rfl⟩
  have HEE := Lib.hid hE0
  rw [hE0] at C hok
  clear hE0
  by_cases hE : E = 0
  · subst hE
    have K := hok rfl
    have T := Lib.hid (fun W (h : Ext w W) => total_c l.pieces _ W (hs.ext RPiece.stable h) K.pieces (Nat.le_trans K.n2 (by omega)))
    clear hok hs K
    have hfm := fun W => field_mass (massN l.pieces) (momX l.pieces) (momY l.pieces) (momZ l.pieces) W
    unfold totalV weightCs at T
    go_enter Try.func52, Try.ntmps52
    go_upto_region 6 with (go_at_call 21; refine (C.out _ ((Ext.refl w).alloc _)).mono ?_; rintro e w2 ⟨rfl, h2⟩; have b2 := lb_ext (lb_new w _) h2; have e2 := Ext.trans ((Ext.refl w).alloc _) h2; clear h2)
    have s0 := lb_cell b2 0 _ rfl
    have s1 := lb_cell b2 1 _ rfl
    have s2 := lb_cell b2 2 _ rfl
    have s3 := lb_cell b2 3 _ rfl
    have hlt := lb_lt b2
    have HB := Lib.hid (And.intro b2 e2)
    clear b2 e2
    go_cut [7] from 20 to 26 (fun s wc => ∃ rb : Nat, s = .pointer (some ⟨rb, 0, none⟩) ∧ Ext w wc ∧ wc.heap[rb]? = some (.cells (rigCs l (.slice A l.pieces.length cap) (.slice B l.eyes.length cbp) (massN l.pieces) (.slice none 0 0)) 103 (0, 0)))
    case first =>
      go_region_with (go_at_call 42; refine (T.out _ (HB.out.2.trans (by (repeat' (first | exact Ext.refl _ | assumption | refine Ext.alloc ?_ _ | refine Ext.drew ?_ | refine Ext.drewN ?_ _ | refine Ext.set ?_ (by first | exact Nat.le_refl _ | exact le1 _ | exact le2 _ | exact le3 _ | exact le4 _ | exact le5 _ | exact le6 _) _ | refine Ext.trans ?_ (by assumption)))))).mono ?_; rintro e w3 ⟨rfl, h3⟩; have x3 : Ext w2 w3 := Ext.trans (by (repeat' (first | exact Ext.refl _ | assumption | refine Ext.alloc ?_ _ | refine Ext.drew ?_ | refine Ext.drewN ?_ _ | refine Ext.set ?_ (by first | exact Nat.le_refl _ | exact le1 _ | exact le2 _ | exact le3 _ | exact le4 _ | exact le5 _ | exact le6 _) _ | refine Ext.trans ?_ (by assumption)))) h3; clear h3; have s0 := lb_cell (lb_ext HB.out.1 x3) 0 _ rfl; have s1 := lb_cell (lb_ext HB.out.1 x3) 1 _ rfl; have s2 := lb_cell (lb_ext HB.out.1 x3) 2 _ rfl; have s3 := lb_cell (lb_ext HB.out.1 x3) 3 _ rfl)
      all_goals
        go_wp2_with fail
        go_meet
        exact ⟨w3.heap.size, rfl, (HB.out.2.trans x3).alloc _, lb_new w3 _⟩
    case rest =>
      obtain ⟨rb, rfl, e5, h5⟩ := hcut
      have H5 := Lib.hid (And.intro e5 h5)
      clear e5 h5 s0 s1 s2 s3
      go_wp2
      go_loopw [29] (fun i wr => i = .int .i64 0 ∧ wc = wr) (fun _ _ => 0)
      case atStart => exact ⟨rfl, rfl⟩
      case round =>
        obtain ⟨rfl, rfl⟩ := hrel
        go_wp2
        exact bodyPost_ret (v := .tuple #[.pointer (some ⟨rb, 0, none⟩), .int .i64 0]) (by simp [results, Try.results52, go_sem]) rfl ⟨H5.out.1, .inr ⟨HEE.out, rb, rfl, H5.out.2⟩⟩
  · have HE := Lib.hid hE
    clear hok hs
    go_enter Try.func52, Try.ntmps52
    go_wp2_with (go_at_call 21; refine (C.out _ ((Ext.refl w).alloc _)).mono ?_; rintro e w2 ⟨rfl, h2⟩; have e2 := Ext.trans ((Ext.refl w).alloc _) h2; clear h2)
    exact bodyPost_ret (v := .tuple #[.pointer none, .int .i64 E]) (by simp [results, Try.results52, go_sem]) rfl ⟨e2, .inl ⟨by rw [HEE.out]; exact HE.out, by rw [HEE.out]⟩⟩
end Go.Proofs.Ytkkeblgahbpmmaa
