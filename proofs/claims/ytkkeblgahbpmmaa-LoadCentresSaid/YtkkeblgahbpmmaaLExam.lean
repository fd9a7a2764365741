
/- Contract: the Example of the chapter. -/
import Derived.Test.YtkkeblgahbpmmaaLRow
namespace Go.Proofs.Ytkkeblgahbpmmaa
open Go.RowKit

def exampleL : LLoad := ⟨⟨#[98, 111, 120]⟩, [⟨0, 0, 0, 2000, 1000, 1000, 4000⟩, ⟨0, 0, 1000, 1000, 1000, 500, 1000⟩], [⟨0, 0, 500, 10000⟩, ⟨2000, 1000, 500, 10000⟩], 300⟩
theorem OwnR.blk {α : Type} {enc : α → List Value} {k : Nat} {e : TypeId} {base g : Nat} {w : World} {l : List α} {cs : Array Value} (hb : base ≤ g) (hg : w.heap[g]? = some (.cells cs e (0, 0))) (hl : (l.map enc).flatten.length = l.length * k) (hm : l.length ≤ maxLen) (hcs : cs.toList = (l.map enc).flatten) :
    OwnR enc k e base w (.slice (some ⟨g, 0, none⟩) l.length l.length) l :=
  ⟨hl, .inr ⟨g, l.length, cs, rfl, hb, hg, Nat.le_refl _, hm, by rw [← hl, ← hcs]; simp, by rw [hcs, ← hl, List.take_length]⟩⟩
set_option maxRecDepth 100000 in
set_option maxHeartbeats 3200000 in
theorem Example_c (w : World) : Calls Try.prog 25 #[] w fun e w' => ∃ vp ve, e = .returned (loadV exampleL vp ve) ∧ IsLoad w' exampleL vp ve ∧ Ext w w' := by
  go_enter Try.func25, Try.ntmps25
  go_wp2
  have bp := lb_alloc (lb_new (w.alloc (.cells #[.string ⟨#[98, 111, 120]⟩, .slice (some ⟨w.heap.size + 1, 0, none⟩) 2 2, .slice (some ⟨w.heap.size + 1 + 1, 0, none⟩) 2 2, .int .i64 300] 25)) (.cells #[.int .i64 0, .int .i64 0, .int .i64 0, .int .i64 2000, .int .i64 1000, .int .i64 1000, .int .i64 4000, .int .i64 0, .int .i64 0, .int .i64 1000, .int .i64 1000, .int .i64 1000, .int .i64 500, .int .i64 1000] 64)) (.cells #[.int .i64 0, .int .i64 0, .int .i64 500, .int .i64 10000, .int .i64 2000, .int .i64 1000, .int .i64 500, .int .i64 10000] 66)
  have be := lb_new ((w.alloc (.cells #[.string ⟨#[98, 111, 120]⟩, .slice (some ⟨w.heap.size + 1, 0, none⟩) 2 2, .slice (some ⟨w.heap.size + 1 + 1, 0, none⟩) 2 2, .int .i64 300] 25)).alloc (.cells #[.int .i64 0, .int .i64 0, .int .i64 0, .int .i64 2000, .int .i64 1000, .int .i64 1000, .int .i64 4000, .int .i64 0, .int .i64 0, .int .i64 1000, .int .i64 1000, .int .i64 1000, .int .i64 500, .int .i64 1000] 64)) (.cells #[.int .i64 0, .int .i64 0, .int .i64 500, .int .i64 10000, .int .i64 2000, .int .i64 1000, .int .i64 500, .int .i64 10000] 66)
  simp only [size_alloc] at bp be
  refine bodyPost_ret (v := .agg #[.string ⟨#[98, 111, 120]⟩, .slice (some ⟨w.heap.size + 1, 0, none⟩) 2 2, .slice (some ⟨w.heap.size + 1 + 1, 0, none⟩) 2 2, .int .i64 300]) (by simp [results, Try.results25, go_sem]) rfl ?_
  have op : OwnR pieceCs 7 64 w.heap.size _ (.slice (some ⟨w.heap.size + 1, 0, none⟩) exampleL.pieces.length exampleL.pieces.length) exampleL.pieces := OwnR.blk (by omega) bp rfl (by decide) rfl
  have oe : OwnR eyeCs 4 66 w.heap.size _ (.slice (some ⟨w.heap.size + 1 + 1, 0, none⟩) exampleL.eyes.length exampleL.eyes.length) exampleL.eyes := OwnR.blk (by omega) be rfl (by decide) rfl
  exact ⟨_, _, rfl, ⟨op.sl pieceCs_len (fun _ _ => rfl), oe.sl eyeCs_len (fun _ _ => rfl)⟩, (((Ext.refl w).alloc _).alloc _).alloc _⟩
end Go.Proofs.Ytkkeblgahbpmmaa
