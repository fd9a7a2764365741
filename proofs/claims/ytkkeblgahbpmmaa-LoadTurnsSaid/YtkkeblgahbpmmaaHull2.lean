
/- Contracts: how the program compares two points, and slices.SortFunc, Clone, Reverse at points. -/
import Derived.Test.YtkkeblgahbpmmaaHull1
import Derived.Test.YtkkeblgahbpmmaaLib
namespace Go.Proofs.Ytkkeblgahbpmmaa
open Go.RowKit Go.Shelf Go.Lib Go.Sort

/-- A point's two cells. -/
def encP (x : HPt) : List Value := [.int .i64 x.1, .int .i64 x.2]
/-- What compare says of two points. -/
def cmpP (a b : HPt) : Int := if a.1 = b.1 then Lib.compareInt a.2 b.2 else Lib.compareInt a.1 b.1
theorem lt_cmpP (a b : HPt) : ltOf cmpP a b = decide (ltP a b) := by
  unfold ltOf cmpP ltP Lib.compareInt
  rw [Bool.eq_iff_iff]
  simp only [decide_eq_true_eq]
  by_cases h : a.1 = b.1
  · rw [if_pos h]
    by_cases h2 : a.2 < b.2
    · simp [h2, h]
    · by_cases h3 : b.2 < a.2 <;> simp [h2, h3, h]
  · rw [if_neg h]
    by_cases h2 : a.1 < b.1
    · simp [h2]
    · by_cases h3 : b.1 < a.1 <;> simp [h2, h3, h]
theorem swo_cmpP : SWO (ltOf cmpP) where
  irrefl x := by rw [lt_cmpP]; simp [ltP_irrefl]
  trans x y z h1 h2 := by rw [lt_cmpP] at *; simp only [decide_eq_true_eq] at *; exact ltP_trans h1 h2
  ntrans x y z h1 h2 := by rw [lt_cmpP] at *; simp only [decide_eq_false_iff_not] at *; unfold ltP at *; omega
theorem tot_cmpP (x y : HPt) (h1 : ltOf cmpP x y = false) (h2 : ltOf cmpP y x = false) : x = y := by
  rw [lt_cmpP] at *
  simp only [decide_eq_false_iff_not] at *
  by_cases h : x = y
  · exact h
  · exact absurd (ltP_total h1 h) h2

set_option maxHeartbeats 1000000 in
theorem compare_c (x y : HPt) (W : World) : Calls Try.prog 101 #[.agg #[.int .i64 x.1, .int .i64 x.2], .agg #[.int .i64 y.1, .int .i64 y.2]] W fun e w' => e = .returned (.int .i64 (cmpP x y)) ∧ ∃ q os', w' = grow (W.drewN q) os' := by
  have c1 := fun W' => AnyG.cmp_Compare_int Try.lCmp x.1 y.1 W'
  have c2 := fun W' => AnyG.cmp_Compare_int Try.lCmp x.2 y.2 W'
  change ∀ W', Calls Try.prog 118 _ _ _ at c1
  change ∀ W', Calls Try.prog 118 _ _ _ at c2
  unfold cmpP
  generalize Lib.compareInt x.1 y.1 = r1 at c1 ⊢
  generalize Lib.compareInt x.2 y.2 = r2 at c2 ⊢
  by_cases h : x.1 = y.1
  · rw [if_pos h]
    clear c1
    go_enter Try.func101, Try.ntmps101
    go_wp2_with (go_at_call 118; refine (c2 _).mono ?_; rintro e w' ⟨rfl, rfl⟩)
    go_ret
    exact ⟨rfl, 0, _, by rw [alloc_eq_grow, alloc_eq_grow, grow_grow]; rfl⟩
  · rw [if_neg h]
    clear c2
    go_enter Try.func101, Try.ntmps101
    go_wp2_with (go_at_call 118; refine (c1 _).mono ?_; rintro e w' ⟨rfl, rfl⟩)
    go_ret
    exact ⟨rfl, 0, _, by rw [alloc_eq_grow, alloc_eq_grow, grow_grow]; rfl⟩

theorem cmpLays_c (blk off size : Nat) (w : World) : CmpLays Try.prog 101 #[] encP 2 cmpP blk off size w :=
  fun _ _ _ _ x y => compare_c x y _

/-- the points in order, doubles too -/
def srtD (l : List HPt) : List HPt := l.mergeSort fun x y => !(ltOf cmpP) y x
theorem srtD_mem (l : List HPt) (y : HPt) : y ∈ srtD l ↔ y ∈ l := List.mem_mergeSort
theorem srtD_len (l : List HPt) : (srtD l).length = l.length := List.length_mergeSort l
theorem srtD_srt (l : List HPt) : SrtLe (srtD l) := by
  have h := List.pairwise_mergeSort (le := fun x y => !(ltOf cmpP) y x) (by
    intro a b c h1 h2
    simp only [Bool.not_eq_true'] at *
    exact swo_cmpP.ntrans c b a h2 h1) (by
    intro a b
    simp only [lt_cmpP, Bool.or_eq_true, Bool.not_eq_true', decide_eq_false_iff_not]
    unfold ltP
    omega) l
  refine h.imp ?_
  intro a b h
  simpa [lt_cmpP] using h
/-- sorted by the library, then without doubles: the list of the definition -/
theorem compact_srtD (l : List HPt) : compactP (srtD l) = sortP l := compact_sort (srtD_srt l) (srtD_mem l)

theorem encP_len (x : HPt) : (encP x).length = 2 := rfl
theorem encP_one (x : HPt) : ∀ v ∈ encP x, v.oneCell' = true := by
  intro v hv
  simp [encP] at hv
  rcases hv with rfl | rfl <;> rfl
theorem compare_enters : ∀ args w, (callFunc 101 args).run Try.prog w = .ok (.enter 101 args) w := enters_of Try.func101 (by kernel_rfl) rfl
theorem sort_c (blk off cap : Nat) (l : List HPt) (w : World) (hH : HoldsK encP 2 w blk off l.toArray) (hblk : blk < w.heap.size) (hsz : l.length < 4611686018427387904) :
    Calls Try.prog 85 #[.slice (some ⟨blk, off, none⟩) l.length cap, .func (.func 101) #[] #[]] w fun e w' => e = .returned (.tuple #[]) ∧ ∃ n os, w' = sortWorldK encP 2 w blk off n (srtD l).toArray os := by
  have h := AnyQ.slices_SortFunc_total Try.lSort 2 Try.isAgg52 Try.sizeOf52 encP encP_len encP_one cmpP swo_cmpP 101 #[] blk off cap l.toArray w compare_enters (cmpLays_c blk off l.toArray.size w) hH hblk (by simpa using hsz) tot_cmpP
  exact h
theorem sort_none_c (p : Option Addr) (cap : Nat) (fv : Value) (w : World) :
    Calls Try.prog 85 #[.slice p 0 cap, fv] w fun e w' => e = .returned (.tuple #[]) ∧ w' = w := AnyF.slices_SortFunc_none Try.lSort p cap fv w
theorem rev_c (blk off cap : Nat) (l : List HPt) (w : World) (hH : HoldsK encP 2 w blk off l.toArray) (hsz : l.length ≤ 9223372036854775807) :
    Calls Try.prog 89 #[.slice (some ⟨blk, off, none⟩) l.length cap] w fun e w' => e = .returned (.tuple #[]) ∧ ∃ n, w' = putRowK encP 2 (Sort.ahead w n) blk off l.reverse.toArray := by
  have h := AnyQ.slices_Reverse Try.lRev 2 Try.isAgg52 Try.sizeOf52 encP encP_len encP_one blk off cap l.toArray w hH (by simpa using hsz)
  simp only [List.size_toArray, List.reverse_toArray] at h
  exact h
theorem clone_none_c (n c : Nat) (w : World) :
    Calls Try.prog 84 #[.slice none n c] w fun e w' => e = .returned (.slice none 0 0) ∧ w' = w := AnyE.slices_Clone_nil Try.lClone n c w
end Go.Proofs.Ytkkeblgahbpmmaa
