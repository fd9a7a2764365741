
/- Contracts: how load.around compares two points, and slices.SortFunc with it. -/
import Derived.Test.YtkkeblgahbpmmaaLSide
namespace Go.Proofs.Ytkkeblgahbpmmaa
open Go.RowKit Go.Shelf Go.Lib Go.Sort

/-- points for which a difference is right -/
abbrev WPt := {p : HPt // wideB p}
instance : Inhabited WPt := ⟨⟨(0, 0), by unfold wideB; simp⟩⟩
def encW (x : WPt) : List Value := encP x.1
def cmpW (x y : WPt) : Int := cmpP x.1 y.1
theorem swo_cmpW : SWO (ltOf cmpW) where
  irrefl x := swo_cmpP.irrefl x.1
  trans x y z h1 h2 := swo_cmpP.trans x.1 y.1 z.1 h1 h2
  ntrans x y z h1 h2 := swo_cmpP.ntrans x.1 y.1 z.1 h1 h2
theorem tot_cmpW (x y : WPt) (h1 : ltOf cmpW x y = false) (h2 : ltOf cmpW y x = false) : x = y := Subtype.ext (tot_cmpP x.1 y.1 h1 h2)
theorem encW_len (x : WPt) : (encW x).length = 2 := rfl
theorem encW_one (x : WPt) : ∀ v ∈ encW x, v.oneCell' = true := encP_one x.1
theorem flatW (l : List WPt) : flatK encW 2 l.toArray = flatK encP 2 (l.map Subtype.val).toArray := by
  apply Array.ext
  · simp
  · intro t h1 h2
    have ht : t < l.length * 2 := by simpa using h1
    have hi : t / 2 < l.length := by omega
    simp only [flatK, Array.getElem_map, Array.getElem_range]
    congr 1
    rw [getElem!_pos l.toArray (t / 2) (by simpa using hi), getElem!_pos (l.map Subtype.val).toArray (t / 2) (by simpa using hi)]
    simp [encW]
set_option maxHeartbeats 1000000 in
theorem lcmp_c (x y : HPt) (hx : wideB x) (hy : wideB y) (W : World) : Calls Try.prog 86 #[.agg #[.int .i64 x.1, .int .i64 x.2], .agg #[.int .i64 y.1, .int .i64 y.2]] W fun e w' => e = .returned (.int .i64 (cmpP x y)) ∧ ∃ q os', w' = grow (W.drewN q) os' := by
  unfold wideB at hx hy
  have e1 := IntWalk.i64_in (x.1 - y.1) (by omega)
  have e2 := IntWalk.i64_in (x.2 - y.2) (by omega)
  unfold cmpP
  obtain ⟨x1, x2⟩ := x
  obtain ⟨y1, y2⟩ := y
  simp only at *
  clear hx hy
  by_cases h : x1 = y1
  · rw [if_pos h]
    clear e1
    obtain ⟨r, hr⟩ : ∃ r, Lib.compareInt x2 y2 = r := ⟨_, rfl⟩
    rw [hr]
    have HR := Lib.hid hr
    clear hr
    go_enter Try.func86, Try.ntmps86
    go_wp2
    go_ret
    exact ⟨ret_int (by rw [← HR.out]; unfold Lib.compareInt; split <;> (try split) <;> omega), 0, _, by rw [alloc_eq_grow, alloc_eq_grow, grow_grow]; rfl⟩
  · rw [if_neg h]
    clear e2
    obtain ⟨r, hr⟩ : ∃ r, Lib.compareInt x1 y1 = r := ⟨_, rfl⟩
    rw [hr]
    have HR := Lib.hid hr
    clear hr
    go_enter Try.func86, Try.ntmps86
    go_wp2
    go_ret
    exact ⟨ret_int (by rw [← HR.out]; unfold Lib.compareInt; split <;> (try split) <;> omega), 0, _, by rw [alloc_eq_grow, alloc_eq_grow, grow_grow]; rfl⟩
theorem lcmp_enters : ∀ args w, (callFunc 86 args).run Try.prog w = .ok (.enter 86 args) w := enters_of Try.func86 (by kernel_rfl) rfl
theorem wide_list : ∀ (l : List HPt), (∀ p ∈ l, wideB p) → ∃ m : List WPt, m.map Subtype.val = l
  | [], _ => ⟨[], rfl⟩
  | p :: l, h => by
    obtain ⟨m, hm⟩ := wide_list l (fun q hq => h q (List.mem_cons_of_mem _ hq))
    exact ⟨⟨p, h p (by simp)⟩ :: m, by rw [List.map_cons, hm]⟩
theorem lsort_c (blk off cap : Nat) (l : List HPt) (hw : ∀ p ∈ l, wideB p) (w : World) (hH : HoldsK encP 2 w blk off l.toArray) (hblk : blk < w.heap.size) (hsz : l.length < 4611686018427387904) :
    Calls Try.prog 85 #[.slice (some ⟨blk, off, none⟩) l.length cap, .func (.func 86) #[] #[]] w fun e w' => e = .returned (.tuple #[]) ∧ ∃ (n : Nat) (os : Array Obj) (d : List HPt), SrtLe d ∧ (∀ y, y ∈ d ↔ y ∈ l) ∧ d.length = l.length ∧ w' = sortWorldK encP 2 w blk off n d.toArray os := by
  obtain ⟨m, hm⟩ : ∃ m : List WPt, m.map Subtype.val = l := wide_list l hw
  have hH' : HoldsK encW 2 w blk off m.toArray := by unfold HoldsK at *; rw [flatW, hm]; exact hH
  have hml : m.length = l.length := by rw [← hm, List.length_map]
  have h := AnyQ.slices_SortFunc_total Try.lSort 2 Try.isAgg52 Try.sizeOf52 encW encW_len encW_one cmpW swo_cmpW 86 #[] blk off cap m.toArray w lcmp_enters (fun _ _ _ _ x y => lcmp_c x.1 y.1 x.2 y.2 _) hH' hblk (by simp; omega) tot_cmpW
  rw [List.size_toArray, hml] at h
  refine h.mono ?_
  rintro e w' ⟨rfl, n, os, rfl⟩
  refine ⟨rfl, n, os, (m.mergeSort fun x y => !(ltOf cmpW) y x).map Subtype.val, ?_, ?_, ?_, ?_⟩
  · have hp := List.pairwise_mergeSort (le := fun x y : WPt => !(ltOf cmpW) y x) (by
      intro a b c h1 h2
      simp only [Bool.not_eq_true'] at *
      exact swo_cmpW.ntrans c b a h2 h1) (by
      intro a b
      show (!(ltOf cmpP) b.1 a.1 || !(ltOf cmpP) a.1 b.1) = true
      simp only [lt_cmpP, Bool.or_eq_true, Bool.not_eq_true', decide_eq_false_iff_not]
      unfold ltP
      omega) m
    unfold SrtLe
    rw [List.pairwise_map]
    refine hp.imp ?_
    intro a b h
    have h' : (!(ltOf cmpP) b.1 a.1) = true := h
    simpa [lt_cmpP] using h'
  · intro y
    rw [← hm]
    simp only [List.mem_map]
    constructor
    · rintro ⟨x, hx, rfl⟩; exact ⟨x, List.mem_mergeSort.1 hx, rfl⟩
    · rintro ⟨x, hx, rfl⟩; exact ⟨x, List.mem_mergeSort.2 hx, rfl⟩
  · rw [List.length_map, List.length_mergeSort, hml]
  · unfold sortWorldK putRowK
    rw [← flatW]
end Go.Proofs.Ytkkeblgahbpmmaa
