/- The chapter's example, as data; contracts: Example, Trip. -/
import Derived.Test.YtaomlmkcifpfkaaPConflict
namespace Go.Proofs.Ytaomlmkcifpfkaa
open Go.RowKit Go.Shelf Go.Maps

def exR1 : PRule := ⟨⟨#[110, 105, 103, 104, 116]⟩, [⟨#[97, 49]⟩], [⟨1, 3500⟩], 1320, 360, 127, 0, 0, false, [⟨⟨#[101, 115, 99, 111, 114, 116]⟩, 1, 10⟩], 30⟩
def exR2 : PRule := ⟨⟨#[100, 97, 121]⟩, [⟨#[97, 49]⟩], [⟨2, 60000⟩], 360, 1200, 31, 0, 0, false, [], 0⟩
def exA : PAuth := ⟨⟨#[99, 111, 117, 110, 116, 121]⟩, 120, 2880, [exR1, exR2]⟩
def exT (weight : Int) : PTrip := ⟨4200, 4000, weight, 9000, 30000, 15000, [⟨⟨#[99, 111, 117, 110, 116, 121]⟩, ⟨#[97, 49]⟩, 90⟩]⟩
theorem sl_one {α : Type} {n : Nat} {R : World → List Value → α → Prop} {W : World} {b cap : Nat} {t : TypeId} {fr : Nat × Nat} {cs : List Value} {x : α} (h : W.heap[b]? = some (.cells cs.toArray t fr)) (hn : cs.length = n) (hr : R W cs x) (hc : 1 ≤ cap) : Sl n R W (.slice (some ⟨b, 0, none⟩) 1 cap) [x] := by
  refine ⟨some ⟨b, 0, none⟩, cap, rfl, by simp, hc, fun i y hi => ?_⟩
  cases i with
  | zero =>
    simp only [List.getElem?_cons_zero, Option.some.injEq] at hi
    subst hi
    refine ⟨b, 0, cs, rfl, hn, hr, fun j c hj => ?_⟩
    have := World.news_of_block h j c (by simpa using hj)
    rw [add_none] at this
    simpa using this
  | succ i => simp at hi
theorem sl_two {α : Type} {n : Nat} {R : World → List Value → α → Prop} {W : World} {b cap : Nat} {t : TypeId} {fr : Nat × Nat} {cs ds : List Value} {x y : α} (h : W.heap[b]? = some (.cells (cs ++ ds).toArray t fr)) (hn : cs.length = n) (hd : ds.length = n) (hr : R W cs x) (hr2 : R W ds y) (hc : 2 ≤ cap) : Sl n R W (.slice (some ⟨b, 0, none⟩) 2 cap) [x, y] := by
  refine ⟨some ⟨b, 0, none⟩, cap, rfl, by simp, hc, fun i z hi => ?_⟩
  match i, hi with
  | 0, hi =>
    simp only [List.getElem?_cons_zero, Option.some.injEq] at hi
    subst hi
    refine ⟨b, 0, cs, rfl, hn, hr, fun j c hj => ?_⟩
    have := World.news_of_block h j c (by simp only []; rw [List.getElem?_append_left (lt_of_some hj)]; exact hj)
    rw [add_none] at this
    simpa using this
  | 1, hi =>
    simp only [List.getElem?_cons_succ, List.getElem?_cons_zero, Option.some.injEq] at hi
    subst hi
    refine ⟨b, 0, ds, rfl, hd, hr2, fun j c hj => ?_⟩
    have := World.news_of_block h (n + j) c (by simp only []; rw [List.getElem?_append_right (by omega), hn, show n + j - n = j by omega]; exact hj)
    rw [add_none] at this
    simpa using this
  | i + 2, hi => simp at hi
set_option maxRecDepth 100000 in
set_option maxHeartbeats 1600000 in
theorem Trip_c (x : Int) (w : World) : Calls Try.prog 46 #[.int .i64 x] w fun e w' => ∃ vp, e = .returned (tripV (exT x) vp) ∧ Sl 3 RPass w' vp (exT x).passages ∧ Ext w w' := by
  go_enter Try.func46, Try.ntmps46
  go_wp2
  have h := World.alloc_heap_new (w.alloc (.cells #[.int .i64 4200, .int .i64 4000, .int .i64 x, .int .i64 9000, .int .i64 30000, .int .i64 15000, .slice (some ⟨w.heap.size + 1, 0, none⟩) 1 1] 26)) (.cells #[.string ⟨#[99, 111, 117, 110, 116, 121]⟩, .string ⟨#[97, 49]⟩, .int .i64 90] 47)
  rw [size_alloc] at h
  exact bodyPost_ret (v := tripV (exT x) (.slice (some ⟨w.heap.size + 1, 0, none⟩) 1 1)) (by simp [results, Try.results46, go_sem, tripV, exT]) rfl ⟨_, rfl, sl_one h rfl rfl (by decide), by (repeat' (first | exact Ext.refl _ | assumption | refine Ext.alloc ?_ _ | refine Ext.drew ?_ | refine Ext.drewN ?_ _ | refine Ext.set ?_ (by first | exact Nat.le_refl _ | exact le1 _ | exact le2 _ | exact le3 _ | exact le4 _ | exact le5 _ | exact le6 _) _ | refine Ext.trans ?_ (by assumption)))⟩
theorem ext_fold : ∀ (os : List Obj) (w : World), Ext w (os.foldl World.alloc w)
  | [], w => Ext.refl w
  | o :: os, w => ((Ext.refl w).alloc o).trans (ext_fold os (w.alloc o))
theorem heap_fold : ∀ (os : List Obj) (w : World) (i : Nat) (o : Obj), os[i]? = some o → (os.foldl World.alloc w).heap[w.heap.size + i]? = some o
  | [], w, i, o, h => by simp at h
  | a :: os, w, 0, o, h => by
    simp only [List.getElem?_cons_zero, Option.some.injEq] at h
    subst h
    have h1 := World.alloc_heap_new w a
    exact ((ext_fold os (w.alloc a)).block _ (Array.getElem?_eq_some_iff.1 h1).1).trans h1
  | a :: os, w, i + 1, o, h => by
    have := heap_fold os (w.alloc a) i o (by simpa using h)
    rw [size_alloc] at this
    rw [List.foldl_cons, show w.heap.size + (i + 1) = w.heap.size + 1 + i by omega]
    exact this
set_option maxRecDepth 100000 in
set_option maxHeartbeats 1600000 in
theorem Example_c (w : World) : Calls Try.prog 45 #[] w fun e w' => ∃ v, e = .returned (.agg #[.string exA.name, .int .i64 120, .int .i64 2880, v]) ∧ Sl 11 RRule w' v exA.rules ∧ Ext w w' := by
  go_enter Try.func45, Try.ntmps45
  go_wp2
  have H := heap_fold [.cells #[.string ⟨#[99, 111, 117, 110, 116, 121]⟩, .int .i64 120, .int .i64 2880, .slice (some ⟨w.heap.size + 1 + 1 + 1 + 1 + 1 + 1, 0, none⟩) 2 2] 64, .cells #[.string ⟨#[97, 49]⟩] 9, .cells #[.int .i64 1, .int .i64 3500] 132, .cells #[.string ⟨#[101, 115, 99, 111, 114, 116]⟩, .int .i64 1, .int .i64 10] 122, .cells #[.string ⟨#[97, 49]⟩] 9, .cells #[.int .i64 2, .int .i64 60000] 132, .cells #[.string ⟨#[110, 105, 103, 104, 116]⟩, .slice (some ⟨w.heap.size + 1, 0, none⟩) 1 1, .slice (some ⟨w.heap.size + 1 + 1, 0, none⟩) 1 1, .int .i64 1320, .int .i64 360, .int .i64 127, .int .i64 0, .int .i64 0, .bool false, .slice (some ⟨w.heap.size + 1 + 1 + 1, 0, none⟩) 1 1, .int .i64 30, .string ⟨#[100, 97, 121]⟩, .slice (some ⟨w.heap.size + 1 + 1 + 1 + 1, 0, none⟩) 1 1, .slice (some ⟨w.heap.size + 1 + 1 + 1 + 1 + 1, 0, none⟩) 1 1, .int .i64 360, .int .i64 1200, .int .i64 31, .int .i64 0, .int .i64 0, .bool false, .slice none 0 0, .int .i64 0] 58] w
  have hE := ext_fold [.cells #[.string ⟨#[99, 111, 117, 110, 116, 121]⟩, .int .i64 120, .int .i64 2880, .slice (some ⟨w.heap.size + 1 + 1 + 1 + 1 + 1 + 1, 0, none⟩) 2 2] 64, .cells #[.string ⟨#[97, 49]⟩] 9, .cells #[.int .i64 1, .int .i64 3500] 132, .cells #[.string ⟨#[101, 115, 99, 111, 114, 116]⟩, .int .i64 1, .int .i64 10] 122, .cells #[.string ⟨#[97, 49]⟩] 9, .cells #[.int .i64 2, .int .i64 60000] 132, .cells #[.string ⟨#[110, 105, 103, 104, 116]⟩, .slice (some ⟨w.heap.size + 1, 0, none⟩) 1 1, .slice (some ⟨w.heap.size + 1 + 1, 0, none⟩) 1 1, .int .i64 1320, .int .i64 360, .int .i64 127, .int .i64 0, .int .i64 0, .bool false, .slice (some ⟨w.heap.size + 1 + 1 + 1, 0, none⟩) 1 1, .int .i64 30, .string ⟨#[100, 97, 121]⟩, .slice (some ⟨w.heap.size + 1 + 1 + 1 + 1, 0, none⟩) 1 1, .slice (some ⟨w.heap.size + 1 + 1 + 1 + 1 + 1, 0, none⟩) 1 1, .int .i64 360, .int .i64 1200, .int .i64 31, .int .i64 0, .int .i64 0, .bool false, .slice none 0 0, .int .i64 0] 58] w
  simp only [List.foldl_cons, List.foldl_nil] at H hE
  have h1 := H 1 _ rfl
  have h2 := H 2 _ rfl
  have h3 := H 3 _ rfl
  have h4 := H 4 _ rfl
  have h5 := H 5 _ rfl
  have h6 := H 6 _ rfl
  have h0 := H 0 _ rfl
  clear H
  generalize (((((((w.alloc (.cells #[.string ⟨#[99, 111, 117, 110, 116, 121]⟩, .int .i64 120, .int .i64 2880, .slice (some ⟨w.heap.size + 1 + 1 + 1 + 1 + 1 + 1, 0, none⟩) 2 2] 64)).alloc (.cells #[.string ⟨#[97, 49]⟩] 9)).alloc (.cells #[.int .i64 1, .int .i64 3500] 132)).alloc (.cells #[.string ⟨#[101, 115, 99, 111, 114, 116]⟩, .int .i64 1, .int .i64 10] 122)).alloc (.cells #[.string ⟨#[97, 49]⟩] 9)).alloc (.cells #[.int .i64 2, .int .i64 60000] 132)).alloc (.cells #[.string ⟨#[110, 105, 103, 104, 116]⟩, .slice (some ⟨w.heap.size + 1, 0, none⟩) 1 1, .slice (some ⟨w.heap.size + 1 + 1, 0, none⟩) 1 1, .int .i64 1320, .int .i64 360, .int .i64 127, .int .i64 0, .int .i64 0, .bool false, .slice (some ⟨w.heap.size + 1 + 1 + 1, 0, none⟩) 1 1, .int .i64 30, .string ⟨#[100, 97, 121]⟩, .slice (some ⟨w.heap.size + 1 + 1 + 1 + 1, 0, none⟩) 1 1, .slice (some ⟨w.heap.size + 1 + 1 + 1 + 1 + 1, 0, none⟩) 1 1, .int .i64 360, .int .i64 1200, .int .i64 31, .int .i64 0, .int .i64 0, .bool false, .slice none 0 0, .int .i64 0] 58)) = W at *
  have c0 := World.news_of_block h0 0 _ rfl
  have c1 := World.news_of_block h0 1 _ rfl
  have c2 := World.news_of_block h0 2 _ rfl
  have c3 := World.news_of_block h0 3 _ rfl
  simp only [add_none, Nat.zero_add, Nat.add_zero] at c0 c1 c2 c3
  refine bodyPost_ret (v := .agg #[.string ⟨#[99, 111, 117, 110, 116, 121]⟩, .int .i64 120, .int .i64 2880, .slice (some ⟨w.heap.size + 1 + 1 + 1 + 1 + 1 + 1, 0, none⟩) 2 2]) (by simp [results, Try.results45, go_sem, c0, c1, c2, c3]) rfl ⟨_, rfl, ?_, hE⟩
  exact sl_two (cs := [.string ⟨#[110, 105, 103, 104, 116]⟩, .slice (some ⟨w.heap.size + 1, 0, none⟩) 1 1, .slice (some ⟨w.heap.size + 1 + 1, 0, none⟩) 1 1, .int .i64 1320, .int .i64 360, .int .i64 127, .int .i64 0, .int .i64 0, .bool false, .slice (some ⟨w.heap.size + 1 + 1 + 1, 0, none⟩) 1 1, .int .i64 30]) (ds := [.string ⟨#[100, 97, 121]⟩, .slice (some ⟨w.heap.size + 1 + 1 + 1 + 1, 0, none⟩) 1 1, .slice (some ⟨w.heap.size + 1 + 1 + 1 + 1 + 1, 0, none⟩) 1 1, .int .i64 360, .int .i64 1200, .int .i64 31, .int .i64 0, .int .i64 0, .bool false, .slice none 0 0, .int .i64 0]) h6 rfl rfl ⟨_, _, _, rfl, sl_one h1 rfl rfl (by decide), sl_one h2 rfl rfl (by decide), sl_one h3 rfl rfl (by decide)⟩ ⟨_, _, _, rfl, sl_one h4 rfl rfl (by decide), sl_one h5 rfl rfl (by decide), sl_nil⟩ (by decide)
end Go.Proofs.Ytaomlmkcifpfkaa
