/- newDesk: what a condition that is laid behind the others, and a passage's rules that are laid behind the others, leave alone. -/
import Derived.Test.YtaomlmkcifpfkaaPDesk
namespace Go.Proofs.Ytaomlmkcifpfkaa
open Go.RowKit Go.Maps
variable {D Ln B R O n : Nat} {W W' wo w2 w0 : World} {vc vp vl vn : Value} {cl : List PCond} {fee notice m cost : Int} {us : Nat → Bool} {M : DataW Unit} {road : ByteArray} {Ls : List PRule} {Ns : List Int}
theorem St24.cond {W4 : World} (h : St24 D Ln B R O wo w2 w0 W vc cl fee notice vp us n M road cost vl vn vl vn Ls Ns m) (e1 : w2.heap.size = D) (e2 : D + 1 < B) (e3 : wo.heap.size = B) (e4 : B < O) (hRO : O < R) (hvc : ∀ g, vc.ownBlock = some g → g < B ∨ O < g) (hvR : vc.ownBlock ≠ some R)
    {css : List (List Value)} (hl : css.length = cl.length) (hx : ∀ (i : Nat) (cs : List Value) (x : PCond), css[i]? = some cs → cl[i]? = some x → cs.length = 3 ∧ RCond W cs x) (ob : Obj) {g cap : Nat} {c : PCond}
    (hown : W.ownsRow (D + 1 + 1) 102 3 vc cl.length css.flatten)
    (h1 : W4.ownsRow (D + 1 + 1) 102 3 (.slice (some ⟨g, 0, none⟩) (cl.length + 1) cap) (cl.length + 1) (css.flatten ++ condCs c)) (hg : (W.alloc ob).grownBy W4 vc.ownBlock) :
    DSt D (W4.setCell ⟨D, 0, none⟩ (.slice (some ⟨g, 0, none⟩) (cl.length + 1) cap)) (.slice (some ⟨g, 0, none⟩) (cl.length + 1) cap) (cl ++ [c]) fee notice vp ∧
    USt D Ln (W4.setCell ⟨D, 0, none⟩ (.slice (some ⟨g, 0, none⟩) (cl.length + 1) cap)) us n M ∧ KT D wo (W4.setCell ⟨D, 0, none⟩ (.slice (some ⟨g, 0, none⟩) (cl.length + 1) cap)) ∧ Ext w2 (W4.setCell ⟨D, 0, none⟩ (.slice (some ⟨g, 0, none⟩) (cl.length + 1) cap)) ∧
    (W4.setCell ⟨D, 0, none⟩ (.slice (some ⟨g, 0, none⟩) (cl.length + 1) cap)).cell? ⟨B, 1, none⟩ = some (.string road) ∧ (W4.setCell ⟨D, 0, none⟩ (.slice (some ⟨g, 0, none⟩) (cl.length + 1) cap)).cell? ⟨R, 10, none⟩ = some (.int .i64 cost) ∧
    OSt w0 O (O + 1) (W4.setCell ⟨D, 0, none⟩ (.slice (some ⟨g, 0, none⟩) (cl.length + 1) cap)) vl vn Ls Ns m := by
  have ha := h.alloc ob
  have nD1 : vc.ownBlock ≠ some (D + 1) := h.u.ne_row hown
  have nO : vc.ownBlock ≠ some O := fun e => by have := hvc O e; omega
  have nB : vc.ownBlock ≠ some B := fun e => by have := hvc B e; omega
  obtain ⟨_, _, hol, _⟩ := ha.ol
  obtain ⟨_, _, hon, _⟩ := ha.on
  have howna : (W.alloc ob).ownsRow (D + 1 + 1) 102 3 vc cl.length css.flatten := hown.alloc ob
  have hO : OSt w0 O (O + 1) (W.alloc ob) vl vn Ls Ns m := ⟨ha.o0, ha.o1, ha.o2, ha.g0, ha.g1, ha.ol, ha.on⟩
  refine ⟨h.d.app hl hx ob hown h1 hg, (ha.u.kept hg nD1).set (by simp) _, (ha.k.grown hg (fun g e => .inr (.inr ?_))).set (.inl rfl) _, (ha.e.grown hg (fun g e => by have := own_ge hown g e; omega)).set (by simp; omega) _,
    cell_blk (by omega) ((hg.cell_far ⟨B, 1, none⟩ (lt_of_cell ha.b1) (fun e => nB e.symm)).trans ha.b1), cell_blk (by omega) ((hg.cell_far ⟨R, 10, none⟩ (lt_of_cell ha.rc) (fun e => hvR e.symm)).trans ha.rc), ?_⟩
  · rcases howna.2 with ⟨rfl, _⟩ | ⟨g1, cap1, cur, rfl, _, hh, _⟩
    · simp [Value.ownBlock] at e
    · simp only [Value.ownBlock, Option.some.injEq] at e
      subst e
      exact ⟨cur, (0, 0), hh⟩
  · exact (hO.grown hg nO (fun g e => own_types hol howna (by decide) e) (fun g e => own_types hon howna (by decide) e)).set (by omega) (by omega) _
theorem RRow.ext {w0 W W' : World} {B : Nat} {cs : List Value} {p : PRules} (h : RRow w0 B W cs p) (he : Ext W W') : RRow w0 B W' cs p := by
  obtain ⟨vl, vn, e, h1, h2⟩ := h
  exact ⟨vl, vn, e, h1.ext (fun _ _ _ _ _ h => h) he, h2.ext RInt.stable he⟩
theorem OwnL.lower {α : Type} {n : Nat} {e : TypeId} {R : World → List Value → α → Prop} {base base' : Nat} {w : World} {v : Value} {l : List α} (h : OwnL n e R base w v l) (hb : base' ≤ base) : OwnL n e R base' w v l := by
  obtain ⟨css, hl, hown, hx⟩ := h
  refine ⟨css, hl, ⟨hown.1, ?_⟩, hx⟩
  rcases hown.2 with h0 | ⟨g, cap, cur, hv, hg, hr⟩
  · exact .inl h0
  · exact .inr ⟨g, cap, cur, hv, Nat.le_trans hb hg, hr⟩
/-- a passage's rules are laid behind the others -/
theorem desk_snoc {W4 : World} {vd : Value} {L : List PRules} (hD : DSt D W vc cl fee notice vd) (hU : USt D Ln W us n M) (hO : OSt w0 O (O + 1) W vl vn Ls Ns m) (he : Ext w2 W) (e1 : w2.heap.size = D) (e2 : D + 1 < O)
    {css : List (List Value)} (hl : css.length = L.length) (hx : ∀ (i : Nat) (cs : List Value) (x : PRules), css[i]? = some cs → L[i]? = some x → cs.length = 3 ∧ RRow w0 (D + 1 + 1) W cs x) (ob : Obj) {g cap : Nat}
    (hown : W.ownsRow (D + 1 + 1) 111 3 vd L.length css.flatten)
    (h1 : W4.ownsRow (D + 1 + 1) 111 3 (.slice (some ⟨g, 0, none⟩) (L.length + 1) cap) (L.length + 1) (css.flatten ++ [vl, vn, .int .i64 m])) (hg : (W.alloc ob).grownBy W4 vd.ownBlock) :
    DSt D (W4.setCell ⟨D, 3, none⟩ (.slice (some ⟨g, 0, none⟩) (L.length + 1) cap)) vc cl fee notice (.slice (some ⟨g, 0, none⟩) (L.length + 1) cap) ∧
    USt D Ln (W4.setCell ⟨D, 3, none⟩ (.slice (some ⟨g, 0, none⟩) (L.length + 1) cap)) us n M ∧
    OwnL 3 111 (RRow w0 (D + 1 + 1)) (D + 1 + 1) (W4.setCell ⟨D, 3, none⟩ (.slice (some ⟨g, 0, none⟩) (L.length + 1) cap)) (.slice (some ⟨g, 0, none⟩) (L.length + 1) cap) (L ++ [⟨Ls, Ns, m⟩]) ∧
    Ext w2 (W4.setCell ⟨D, 3, none⟩ (.slice (some ⟨g, 0, none⟩) (L.length + 1) cap)) := by
  have EA : Ext W (W.alloc ob) := (Ext.refl W).alloc ob
  have hDa := hD.ext EA
  have hUa := hU.ext EA
  have hOa := hO.ext EA
  have howna := hown.alloc ob
  have nD : vd.ownBlock ≠ some D := own_ne hown (by omega)
  have nD1 : vd.ownBlock ≠ some (D + 1) := hU.ne_row hown
  obtain ⟨_, _, hoc, _⟩ := hDa.own
  have keep : ∀ (cs : List Value) (x : PRules), RRow w0 (D + 1 + 1) (W.alloc ob) cs x → RRow w0 (D + 1 + 1) W4 cs x := fun cs x ⟨a, b, e, k1, k2⟩ => by
    obtain ⟨_, _, o1, _⟩ := k1
    obtain ⟨_, _, o2, _⟩ := k2
    exact ⟨a, b, e, OwnL.grown ⟨_, ‹_›, o1, ‹_›⟩ (fun _ _ k => k) hg (fun g e => own_types o1 howna (by decide) e), OwnL.grown ⟨_, ‹_›, o2, ‹_›⟩ (fun _ _ k => k) hg (fun g e => own_types o2 howna (by decide) e)⟩
  have hset : ∀ (cs : List Value) (x : PRules), RRow w0 (D + 1 + 1) W4 cs x → RRow w0 (D + 1 + 1) (W4.setCell ⟨D, 3, none⟩ (.slice (some ⟨g, 0, none⟩) (L.length + 1) cap)) cs x := fun cs x ⟨a, b, e, k1, k2⟩ =>
    ⟨a, b, e, k1.set (fun _ _ k => k) (show D < D + 1 + 1 by omega), k2.set (fun _ _ k => k) (show D < D + 1 + 1 by omega)⟩
  have hrow : RRow w0 (D + 1 + 1) W4 [vl, vn, .int .i64 m] ⟨Ls, Ns, m⟩ := keep _ _ ⟨vl, vn, rfl, hOa.ol.lower (by omega), hOa.on.lower (by omega)⟩
  refine ⟨(hDa.grown hg nD (fun g e => own_types hoc howna (by decide) e)).passes' _, (hUa.kept hg nD1).set (by simp) _, ?_, ((he.trans EA).grown hg (fun g e => by have := own_ge hown g e; omega)).set (by simp; omega) _⟩
  exact (OwnL.snoc (R := RRow w0 (D + 1 + 1)) hl (fun i cs x a b => ⟨(hx i cs x a b).1, keep _ _ ((hx i cs x a b).2.ext EA)⟩) h1 rfl hrow).set hset (show D < D + 1 + 1 by omega)
end Go.Proofs.Ytaomlmkcifpfkaa
