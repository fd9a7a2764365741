
/- HRowsAll: several texts in one. -/
import Derived.RangeFuncKeeps
import Derived.RangeFuncNested
import Derived.RangeFuncBound
import Derived.RangeFuncCalls
import Derived.RangeFuncLeaves
import Derived.RangeFuncGives
import Derived.RangeFuncBox
import Derived.OwnWalkIn
import Derived.TacticsInMore
import Derived.LoopNIn
import Derived.LoopIn
import Derived.Test.YtcbjecpfijogcaaGreatPlaneA
import Derived.Test.YtcbjecpfijogcaaGreatHullAll
import Derived.Deep.DeepCutAuto
import Derived.Test.YtcbjecpfijogcaaGreatCStr2
import Derived.Deep.RegionHeld3
import Derived.Deep.AppendLies
import Derived.Lib.OwnBridge
import Derived.Lib.AppendIntMem
import Derived.Sort.QuietTacIn
/- A range over an iterator that keeps cells of its own: what the caller says abides stores into cells of the iterator's type. -/
namespace Go.Proofs.YtcbjecpfijogcaaGreat
open Go.RowKit

section
variable {α : Type} {F : Fence} {n : Nat} {P : Program}
/-- cells of some types, from a block on, are left as they are -/
def KpT (T : TypeId → Prop) (B : Nat) (W W' : World) : Prop := W.heap.size ≤ W'.heap.size ∧ ∀ b cs t fr, T t → B ≤ b → W.heap[b]? = some (.cells cs t fr) → W'.heap[b]? = some (.cells cs t fr)
theorem KpT.trans {T : TypeId → Prop} {B : Nat} {W1 W2 W3 : World} (h : KpT T B W1 W2) (k : KpT T B W2 W3) : KpT T B W1 W3 :=
  ⟨Nat.le_trans h.1 k.1, fun b cs t fr ht hb h1 => k.2 b cs t fr ht hb (h.2 b cs t fr ht hb h1)⟩
theorem KpT.ext {T : TypeId → Prop} {B : Nat} {W W' : World} (h : Ext W W') : KpT T B W W' :=
  ⟨h.size, fun b _ _ _ _ _ h1 => (h.block b (Array.getElem?_eq_some_iff.1 h1).1).trans h1⟩
theorem KpT.put {T : TypeId → Prop} {B : Nat} {W : World} {l : Nat} {o : Obj} (o' : Obj) (h : W.heap[l]? = some o) (ho : o.isCells = false) : KpT T B W (W.putObj l o') :=
  ⟨by simp, fun b _ _ _ _ _ h1 => (World.putObj_heap_other (fun e => by rw [e, h] at h1; cases h1; cases ho)).trans h1⟩
/-- what is said of a world abides new memory, and stores into cells of a type, from a block on -/
def AbT (t : TypeId) (B : Nat) (J : List α → World → Prop) : Prop :=
  (∀ s W W', J s W → Ext W W' → J s W') ∧ ∀ s W p u cs fr, J s W → W.heap[p.block]? = some (.cells cs t fr) → B ≤ p.block → J s (W.setCell p u)
/-- an iterator that yields a list, unless it is stopped -/
def SeqT (F : Fence) (n : Nat) (P : Program) (g : Nat) (lb : Array Value) (enc : α → Value) (T : TypeId → Prop) (t : TypeId) (xs : List α) (w0 w : World) : Prop :=
  ∀ (l : Nat) (J Jx : List α → World → Prop) (W : World), Ext w W → (∀ s W', J s W' → Ext w0 W') → AbT t W.heap.size J →
    (∀ pre x suf W1, J pre W1 → xs = pre ++ x :: suf → YieldAt F (n - 1) P l #[enc x] W1 fun e W' =>
      (e = .returned (.bool true) ∧ J (pre ++ [x]) W' ∧ KpT T w0.heap.size W1 W') ∨ (e = .returned (.bool false) ∧ Jx (pre ++ [x]) W')) →
    J [] W →
    CallsIn F n P g (#[.func (.yield l) #[] #[]] ++ lb) W fun e W' => (∃ v, e = .returned v) ∧ (J xs W' ∨ ∃ pre, Jx pre W')
/-- how the body of a round may be left -/
def postT (T : TypeId → Prop) (B : Nat) (I : List α → World → Prop) (Ix : Code → List α → World → Prop) (xs : List α) (W : World) : Exit → Act → World → Prop
  | .normal, _, W' => KeepsOthers W W' ∧ KpT T B W W' ∧ I xs W'
  | .ret, _, W' => KeepsOthers W W' ∧ Ix .ret xs W'
  | .exit id, _, W' => KeepsOthers W W' ∧ Ix (.exit id) xs W'
  | .goto c, _, W' => KeepsOthers W W' ∧ Ix (.goto c) xs W'
  | .panic _, _, _ => False
  | .outgrown, _, _ => False

theorem wpIn_rangeFunc_T {g : Operand} {ps : Array Tmp} {assign body : Code} {Q : Exit → Act → World → Prop} {a : Act} {w : World}
    (hro : F.round = none) (h1 : 1 ≤ n) {gf : Nat} {lb : Array Value} (hg : a.eval g = .func (.func gf) #[] lb) (hFg : F.fn gf) (eg : ∀ args w, (callFunc gf args).run P w = .ok (.enter gf args) w)
    {enc : α → Value} {T : TypeId → Prop} {t : TypeId} {xs : List α} {w0 wc : World} (hseq : SeqT F (n - 1) P gf lb enc T t xs w0 wc) (hb0 : Ext wc w) (hps : ps.size = 1)
    (I : List α → World → Prop) (Ix : Code → List α → World → Prop)
    (hIb : ∀ s W, I s W → Ext w0 W)
    (hIe : ∀ s W W', I s W → Ext W W' → I s W')
    (hIs : ∀ s W p u cs fr, I s W → W.heap[p.block]? = some (.cells cs t fr) → w.heap.size + 2 ≤ p.block → I s (W.setCell p u))
    (hIp : ∀ s W l o o', I s W → w.heap.size ≤ l → W.heap[l]? = some o → o.isCells = false → I s (W.putObj l o'))
    (hIxp : ∀ c s W l o o', Ix c s W → w.heap.size ≤ l → W.heap[l]? = some o → o.isCells = false → Ix c s (W.putObj l o'))
    (h0 : I [] w) (Ax : α → Act → World → Prop)
    (hAx : ∀ x a' W l o o', Ax x a' W → w.heap.size ≤ l → W.heap[l]? = some o → o.isCells = false → Ax x a' (W.putObj l o'))
    (hassign : ∀ (l : Nat) (x : α) (W : World) (K : Act → World → Prop), w.heap.size ≤ W.heap.size → (∀ a' W', Ext W W' → Ax x a' W' → K a' W') →
      assign.wpIn (F.inRound l) (n - 1 - 1) P (Exit.then K (fun _ _ _ => False)) { tmps := (ps.zip #[enc x]).foldl (fun t (p, v) => t.setIfInBounds p v) a.tmps, defers := [] } W)
    (hbody : ∀ (l : Nat) (pre : List α) (x : α) (suf : List α) (a' : Act) (W : World), I pre W → Ax x a' W → xs = pre ++ x :: suf → w.heap.size + 2 ≤ W.heap.size →
      body.wpIn (F.inRound l) (n - 1 - 1) P (postT T w0.heap.size I Ix (pre ++ [x]) W) a' W)
    (hdone : ∀ (D : Nat) (W : World), w.heap.size ≤ D → I xs W → W.heap[D]? = some (.deferred (some [])) → Q .normal { a with defers := { target := .collected D, args := #[] } :: a.defers } W)
    (hstop : ∀ (D : Nat) (c : Code) (pre : List α) (W : World), w.heap.size ≤ D → Ix c pre W → W.heap[D]? = some (.deferred (some [])) → c.wpIn F n P Q { a with defers := { target := .collected D, args := #[] } :: a.defers } W) :
    (Code.rangeFunc g ps assign body).wpIn F n P Q a w := by
  refine wpIn_rangeFunc ?_
  intro fn hfn
  rw [hro]
  obtain ⟨rec, hrec⟩ : ∃ rec : LoopState → Option Code → Loop, rec = fun st pe => { state := st, pending := pe, fn, tmps := a.tmps, params := ps, assign, body, defers := w.heap.size } := ⟨_, rfl⟩
  obtain ⟨W1, hW1⟩ : ∃ W1, (w.alloc (.deferred (some []))).alloc (.loop (rec .ready none)) = W1 := ⟨_, rfl⟩
  have hs1 : W1.heap.size = w.heap.size + 2 := by rw [← hW1]; simp
  have hL1 : W1.heap[w.heap.size + 1]? = some (.loop (rec .ready none)) := by
    rw [← hW1]; have := World.alloc_heap_new (w.alloc (.deferred (some []))) (.loop (rec .ready none)); rwa [World.size_alloc] at this
  have hK1 : W1.heap[w.heap.size]? = some (.deferred (some [])) := by
    rw [← hW1]; exact (Below.heap_alloc _ _ _ (by simp)).trans (World.alloc_heap_new w _)
  have hE1 : Ext w W1 := by rw [← hW1]; exact ((Ext.refl w).alloc _).alloc _
  have hI1 : I [] W1 := hIe _ _ _ h0 hE1
  refine ⟨w.heap.size + 1, [{ target := .collected w.heap.size, args := #[] }], W1, { target := .fn (.func gf) lb, args := #[.func (.yield (w.heap.size + 1)) #[] #[]] }, W1, gf,
    #[.func (.yield (w.heap.size + 1)) #[] #[]] ++ lb, W1, ?_, ?_, ?_, ?_, fun _ => h1, ?_⟩
  · rw [← hW1, hrec]; exact run_enterLoop_outer _ _ _ _ _
  · simp only [resolve, hg]
    simp [go_sem]
  · intro f' hf'; simp [Target.leads] at hf'; subst hf'; exact hFg
  · simp [invoke, go_sem, eg]
  · refine (hseq (w.heap.size + 1)
      (fun pre W => I pre W ∧ W.heap[w.heap.size + 1]? = some (.loop (rec .ready none)) ∧ W.heap[w.heap.size]? = some (.deferred (some [])) ∧ w.heap.size + 2 ≤ W.heap.size)
      (fun pre W => ∃ c, Ix c pre W ∧ W.heap[w.heap.size + 1]? = some (.loop (rec .done (some c))) ∧ W.heap[w.heap.size]? = some (.deferred (some [])))
      W1 (hb0.trans hE1) (fun s A ⟨i1, _⟩ => hIb s A i1)
      ⟨fun s A B ⟨i1, i2, i3, i4⟩ he => ⟨hIe _ _ _ i1 he, (he.block _ (Array.getElem?_eq_some_iff.1 i2).1).trans i2, (he.block _ (Array.getElem?_eq_some_iff.1 i3).1).trans i3, Nat.le_trans i4 he.size⟩,
       fun s A p u cs fr ⟨i1, i2, i3, i4⟩ hp hB => ⟨hIs _ _ _ _ _ _ i1 hp (by rw [hs1] at hB; exact hB), (Below.heap_setCell A p u _ (by omega)).trans i2, (Below.heap_setCell A p u _ (by omega)).trans i3, by rw [size_setCell]; exact i4⟩⟩
      ?_ ⟨hI1, hL1, hK1, by omega⟩).mono ?_
    · rintro pre x suf W ⟨hi, hl, hk, hz⟩ hsp
      have hlt : w.heap.size + 1 < W.heap.size := (Array.getElem?_eq_some_iff.1 hl).1
      have hy := run_yield (P := P) (args := #[enc x]) hl (by rw [hrec]; exact hps.symm)
      rw [hrec] at hy
      refine ⟨fn, _, assign, body, hy, roundIn_of_wpIn hfn (hassign _ x W _ (by omega) (fun a' Wa hea hax => ⟨_, run_beginRound ((hea.block _ hlt).trans hl) (by rw [hrec]), ?_⟩))⟩
      have hla := (hea.block _ hlt).trans hl
      have hka := (hea.block _ (by omega)).trans hk
      have hza := hea.size
      have hl2 : (Wa.putObj (w.heap.size + 1) (.loop { rec .ready none with state := .busy })).heap[w.heap.size + 1]? = some (.loop { rec .ready none with state := .busy }) := World.putObj_heap_same (by omega)
      have hk2 : (Wa.putObj (w.heap.size + 1) (.loop { rec .ready none with state := .busy })).heap[w.heap.size]? = some (.deferred (some [])) := (World.putObj_heap_other (by omega)).trans hka
      have hw2 : KpT T w0.heap.size W (Wa.putObj (w.heap.size + 1) (.loop { rec .ready none with state := .busy })) := (KpT.ext hea).trans (KpT.put _ hla rfl)
      refine wpIn_mono (hbody _ pre x suf a' _ (hIp _ _ _ _ _ (hIe _ _ _ hi hea) (by omega) hla rfl) (hAx _ _ _ _ _ _ hax (by omega) hla rfl) hsp (by simp; omega)) ?_
      have fin : ∀ (jump : Option Code) (W3 : World), KeepsOthers (Wa.putObj (w.heap.size + 1) (.loop { rec .ready none with state := .busy })) W3 →
          (Instr.endRound (w.heap.size + 1) jump).run P W3 = .ok (.bool jump.isNone) (W3.putObj (w.heap.size + 1) (.loop (rec (if jump.isNone then .ready else .done) jump))) ∧
          W3.heap[w.heap.size + 1]? = some (.loop { rec .ready none with state := .busy }) ∧
          (W3.putObj (w.heap.size + 1) (.loop (rec (if jump.isNone then .ready else .done) jump))).heap[w.heap.size + 1]? = some (.loop (rec (if jump.isNone then .ready else .done) jump)) ∧
          (W3.putObj (w.heap.size + 1) (.loop (rec (if jump.isNone then .ready else .done) jump))).heap[w.heap.size]? = some (.deferred (some [])) ∧ Wa.heap.size ≤ W3.heap.size := fun jump W3 hk3 => by
        have hl3 := hk3.same _ _ hl2 rfl
        have := run_endRound (P := P) jump hl3
        rw [hrec] at this ⊢
        exact ⟨this, by rw [hrec] at hl3; exact hl3, World.putObj_heap_same (Array.getElem?_eq_some_iff.1 hl3).1, (World.putObj_heap_other (by omega)).trans (hk3.same _ _ hk2 rfl), by simpa using hk3.size⟩
      rintro e a3 W3 hp
      cases e with
      | normal =>
        obtain ⟨hk3, hkp3, hi3⟩ := hp
        obtain ⟨hr, hl3, hl4, hk4, hz4⟩ := fin none W3 hk3
        exact ⟨_, _, hr, .inl ⟨rfl, ⟨hIp _ _ _ _ _ hi3 (by omega) hl3 rfl, hl4, hk4, by simp; omega⟩, (hw2.trans hkp3).trans (KpT.put _ hl3 rfl)⟩⟩
      | ret =>
        obtain ⟨hk3, hi3⟩ := hp
        obtain ⟨hr, hl3, hl4, hk4, hz4⟩ := fin (some .ret) W3 hk3
        exact ⟨_, _, hr, .inr ⟨rfl, .ret, hIxp _ _ _ _ _ _ hi3 (by omega) hl3 rfl, hl4, hk4⟩⟩
      | exit id =>
        obtain ⟨hk3, hi3⟩ := hp
        obtain ⟨hr, hl3, hl4, hk4, hz4⟩ := fin (some (.exit id)) W3 hk3
        exact ⟨_, _, hr, .inr ⟨rfl, .exit id, hIxp _ _ _ _ _ _ hi3 (by omega) hl3 rfl, hl4, hk4⟩⟩
      | goto c =>
        obtain ⟨hk3, hi3⟩ := hp
        obtain ⟨hr, hl3, hl4, hk4, hz4⟩ := fin (some (.goto c)) W3 hk3
        exact ⟨_, _, hr, .inr ⟨rfl, .goto c, hIxp _ _ _ _ _ _ hi3 (by omega) hl3 rfl, hl4, hk4⟩⟩
      | panic ch => exact hp.elim
      | outgrown => exact hp.elim
    · rintro e W2 ⟨⟨v, rfl⟩, (⟨hi, hl, hk, _⟩ | ⟨pre, c, hi, hl, hk⟩)⟩
      · exact ⟨none, _, by have := run_endLoop (P := P) hl (by rw [hrec]; simp); rw [hrec] at this; exact this, hdone _ _ (Nat.le_refl _) (hIp _ _ _ _ _ hi (by omega) hl rfl) ((World.putObj_heap_other (by omega)).trans hk)⟩
      · exact ⟨some c, _, by have := run_endLoop (P := P) hl (by rw [hrec]; simp); rw [hrec] at this; exact this, hstop _ c pre _ (Nat.le_refl _) (hIxp _ _ _ _ _ _ hi (by omega) hl rfl) ((World.putObj_heap_other (by omega)).trans hk)⟩
end
end Go.Proofs.YtcbjecpfijogcaaGreat
/- The iterator over a slice of points, walked: it yields the points. -/
namespace Go.Proofs.YtcbjecpfijogcaaGreat
open Go.RowKit Go.Shelf

theorem box_ext {W W' : World} {B : Nat} {t : TypeId} {v : Value} (h : Boxed W B t v) (he : Ext W W') : Boxed W' B t v := (he.block _ (Array.getElem?_eq_some_iff.1 h).1).trans h
set_option maxRecDepth 100000 in
set_option maxHeartbeats 4000000 in
theorem values_seq (Bl : Nat) (v : Value) (l : List HPt) (w0 w : World) (hw : Ext w0 w) (hs : Pts w0 v l) (cl : Boxed w Bl 27 v) (T : TypeId → Prop) (t : TypeId) :
    SeqT Fence.wide 4 Tryz.prog 94 #[.pointer (some ⟨Bl, 0, none⟩)] vPt T t l w0 w := by
  intro L J Jx W hE hJb hJ hY hJ0
  refine callsIn_wide.2 ?_
  have cl' : Boxed W Bl 27 v := box_ext cl hE
  have f0 := cl'.cell
  have hz0 := (hw.trans hE).size
  have hsW := hs
  have hl0 : Ext w0 W := hw.trans hE
  rcases hsW with ⟨a0, c0, rfl, rfl⟩ | ⟨b, off, cap, rfl, hl, hcap, hc⟩
  · have HJ0 := Lib.hid hJ0
    have HY := Lib.hid hY
    have HJb := Lib.hid hJb
    clear hJ0 hY hJb hJ
    go_enter Tryz.func94, Tryz.ntmps94
    go_wp2
    go_loopw [7] (fun i wr => i = .int .i64 0 ∧ wr = W) (fun i _ => 0)
    case atStart => exact ⟨rfl, rfl⟩
    case round =>
      obtain ⟨rfl, rfl⟩ := hrel
      go_wp2
      go_end0
      exact ⟨⟨_, rfl⟩, .inl HJ0.out⟩
  · have HC := Lib.hid hc
    have HJ0 := Lib.hid hJ0
    have HY := Lib.hid hY
    have HJ := Lib.hid hJ
    have HJb := Lib.hid hJb
    clear hc hJ0 hY hJ hJb hs cl
    have hl2 : (l.length : Int) ≤ 9223372036854775807 := by omega
    go_enter Tryz.func94, Tryz.ntmps94
    go_wp2
    go_loopw [7] (fun i wr => ∃ k : Nat, k ≤ l.length ∧ i = .int .i64 k ∧ J (l.take k) wr) (fun i _ => l.length - (intOf i).toNat)
    case atStart => exact ⟨0, by omega, rfl, by simpa using HJ0.out⟩
    case round =>
      obtain ⟨k, hk, rfl, hJk⟩ := hrel
      have HJK := Lib.hid hJk
      clear hJk
      by_cases hlt : k < l.length
      · have E0 : Ext w0 wr := HJb.out _ _ HJK.out
        have c1 := E0.cell (HC.out k hlt).1
        have c2 := E0.cell (HC.out k hlt).2
        rw [getD_lt hlt] at c1 c2
        have hsplit : l = l.take k ++ l[k] :: l.drop (k + 1) := by rw [List.getElem_cons_drop, List.take_append_drop]
        have htk : l.take (k + 1) = l.take k ++ [l[k]] := List.take_succ_eq_append_getElem hlt
        have HTK := Lib.hid htk
        have HSP := Lib.hid hsplit
        clear htk hsplit
        generalize l[k] = p at *
        obtain ⟨p1, p2⟩ := p
        simp only at c1 c2
        go_upto_region 3 with fail
        obtain ⟨fn', tmps', asg', bod', hy, hR⟩ := HY.out (l.take k) (p1, p2) (l.drop (k + 1)) (wr.alloc (.cells #[.int .i64 p1, .int .i64 p2] 26)) (HJ.out.1 _ _ _ HJK.out ((Ext.refl wr).alloc _)) HSP.out
        dsimp only [vPt] at hy
        refine (wpIn_wide (n := 4)).1 ?_
        gi_wp2
        refine hR.mono ?_
        rintro e W4 (⟨rfl, hA4, hK4⟩ | ⟨rfl, hx4⟩)
        rotate_left
        · gi_wp2
          go_wp2_with fail
          refine bodyPost_ret (results_none rfl _ _ _) rfl ?_
          exact ⟨⟨_, rfl⟩, .inr ⟨_, hx4⟩⟩
        clear hK4 hR hy
        gi_wp2
        go_wp2_with fail
        go_roundw
        case rel => exact ⟨k + 1, by omega, by go_num, by rw [HTK.out]; exact hA4⟩
        case measure => simp [intOf]; omega
      · have hkl : k = l.length := by omega
        subst hkl
        go_wp2
        go_end0
        exact ⟨⟨_, rfl⟩, .inl (by simpa using HJK.out)⟩
end Go.Proofs.YtcbjecpfijogcaaGreat
/- A row of points of the call's own: it grows, it is cut, it reads as points. -/
namespace Go.Proofs.YtcbjecpfijogcaaGreat
open Go.RowKit Go.Shelf

theorem add_noneH (b o i : Nat) : (⟨b, o, none⟩ : Addr).add i = ⟨b, o + i, none⟩ := by unfold Addr.add; split <;> simp_all
theorem OwnP.none0 {base : Nat} {w : World} : OwnP base w (.slice none 0 0) [] := World.ownsRow_nil w base _ 2
theorem OwnP.snoc {base : Nat} {w : World} {v : Value} {l : List HPt} {p : HPt} (h : w.ownsRow base 26 2 v (l.length + 1) (flatP l ++ [.int .i64 p.1, .int .i64 p.2])) : OwnP base w v (l ++ [p]) := by
  unfold OwnP
  rw [flatP_snoc, List.length_append]
  exact h
theorem flatP_take : ∀ (l : List HPt) (m : Nat), flatP (l.take m) = (flatP l).take (m * 2)
  | [], m => by simp [flatP]
  | a :: l, 0 => by simp [flatP]
  | a :: l, m + 1 => by
    have e : flatP (a :: l) = .int .i64 a.1 :: .int .i64 a.2 :: flatP l := rfl
    rw [List.take_succ_cons, e, show (m + 1) * 2 = m * 2 + 1 + 1 by omega, List.take_succ_cons, List.take_succ_cons, ← flatP_take l m]
    rfl
/-- a row that is cut is a row of the call's own -/
theorem OwnP.cut {base : Nat} {w : World} {g cap : Nat} {l : List HPt} (h : OwnP base w (.slice (some ⟨g, 0, none⟩) l.length cap) l) (m : Nat) (hm : m ≤ l.length) :
    OwnP base w (.slice (some ⟨g, 0, none⟩) m cap) (l.take m) := by
  have hl : (l.take m).length = m := by rw [List.length_take, Nat.min_eq_left hm]
  refine ⟨by rw [flatP_len], ?_⟩
  rw [hl]
  rcases h.2 with ⟨h0, _⟩ | ⟨g', cap', cur, e, hb, hg, hc, hc2, hcs, ht⟩
  · cases h0
  · simp only [Value.slice.injEq, Option.some.injEq, Addr.mk.injEq, and_true] at e
    obtain ⟨rfl, _, rfl⟩ := e
    refine .inr ⟨g, cap, cur, rfl, hb, hg, by omega, hc2, hcs, ?_⟩
    rw [flatP_take, ← ht, List.take_take, Nat.min_eq_left (by omega)]
/-- the form of a row that is not empty -/
theorem OwnP.form {base : Nat} {w : World} {v : Value} {l : List HPt} (h : OwnP base w v l) (h0 : 0 < l.length) : ∃ g cap, v = .slice (some ⟨g, 0, none⟩) l.length cap ∧ base ≤ g ∧ g < w.heap.size ∧ l.length ≤ cap ∧ cap ≤ maxLen := by
  rcases h.2 with ⟨_, h1⟩ | ⟨g, cap, cur, rfl, hb, hg, hc, hc2, _⟩
  · omega
  · exact ⟨g, cap, rfl, hb, (Array.getElem?_eq_some_iff.1 hg).1, hc, hc2⟩
theorem OwnP.shape {base : Nat} {w : World} {v : Value} {l : List HPt} (h : OwnP base w v l) : ∃ a cap, v = .slice a l.length cap ∧ l.length ≤ maxLen := by
  rcases h.2 with ⟨rfl, h1⟩ | ⟨g, cap, cur, rfl, _, _, hc, hc2, _⟩
  · exact ⟨none, 0, by rw [h1], by rw [h1]; exact Nat.zero_le _⟩
  · exact ⟨_, cap, rfl, Nat.le_trans hc hc2⟩
end Go.Proofs.YtcbjecpfijogcaaGreat
/- slices.Clone at points: a row of the call's own that the sort can take. -/
namespace Go.Proofs.YtcbjecpfijogcaaGreat
open Go.RowKit Go.Shelf Go.Lib Go.Sort

theorem clone_c (b off c : Nat) (l : List HPt) (w : World) (hc : PtCells w b off l) (hn : l.length ≤ 1000000) :
    Calls Tryz.prog 68 #[.slice (some ⟨b, off, none⟩) l.length c] w fun e w' => ∃ v', e = .returned v' ∧ OwnP w.heap.size w' v' l ∧ v' ≠ .slice none 0 0 ∧ Ext w w' := by
  have hip := infoPoint
  obtain ⟨ip, hi, hi2⟩ := Option.map_eq_some_iff.1 hip
  simp only [Prod.mk.injEq] at hi2
  obtain ⟨hz0, hz1, hz2⟩ := hi2
  have key : ∀ j u, (flatP l)[j]? = some u → w.cell? ⟨b, off + j, none⟩ = some u := by
    intro j u hj
    have hlt : j < l.length * 2 := by rw [← flatP_len]; exact (List.getElem?_eq_some_iff.1 hj).1
    have hp : l[j / 2]? = some l[j / 2] := List.getElem?_eq_getElem (by omega)
    have h2 := flatP_at l (j / 2) _ hp
    have h3 := hc (j / 2) (by omega)
    rw [getD_lt (show j / 2 < l.length by omega)] at h3
    generalize l[j / 2] = q at h2 h3
    rcases (show j = j / 2 * 2 ∨ j = j / 2 * 2 + 1 by omega) with e | e
    · have h4 := h2.1
      rw [← e] at h4
      rw [h4] at hj
      have h5 := h3.1
      rw [← e] at h5
      rw [h5, Option.some.inj hj]
    · have h4 := h2.2
      rw [← e] at h4
      rw [h4] at hj
      have h5 := h3.2
      rw [Nat.add_assoc, ← e] at h5
      rw [h5, Option.some.inj hj]
  have h1 : ∀ u ∈ flatP l, u.oneCell' = true := by
    intro u hu
    simp only [flatP, List.mem_flatMap] at hu
    obtain ⟨p, _, hp⟩ := hu
    simp at hp
    rcases hp with rfl | rfl <;> rfl
  have h := AnyE.slices_Clone Tryz.lClone ip _ 2 16 hi hz0 hz1 hz2 rfl (by omega) Tryz.sizeOf26 b off l.length c (flatP l) w (flatP_len l) (by unfold maxLen; omega) (by omega) key h1
  exact h
/-- a row of the call's own is what the sort takes -/
theorem OwnP.holds {base : Nat} {w : World} {g cap : Nat} {l : List HPt} (h : OwnP base w (.slice (some ⟨g, 0, none⟩) l.length cap) l) : HoldsK encP 2 w g 0 l.toArray := by
  intro j hj
  rw [size_flatK, List.size_toArray] at hj
  rcases h.2 with ⟨h0, _⟩ | ⟨g', cap', cur, e, hb, hg, hc, hc2, hcs, ht⟩
  · cases h0
  · have ho := h
    simp only [Value.slice.injEq, Option.some.injEq, Addr.mk.injEq, and_true] at e
    obtain ⟨rfl, _, rfl⟩ := e
    have hp : l[j / 2]? = some l[j / 2] := List.getElem?_eq_getElem (by omega)
    have h2 := flatP_at l (j / 2) _ hp
    have hgt : l.toArray[j / 2]! = l[j / 2] := by rw [getElem!_def, List.getElem?_toArray, hp]
    have hf := World.ownsRow.frozenAt h j
    have hcell := World.ownsRow.cellAt h j hj
    rw [get_flatK _ _ _ _ (by simpa using hj), hgt, Nat.zero_add]
    refine ⟨?_, hf⟩
    rw [hcell]
    rcases (show j % 2 = 0 ∨ j % 2 = 1 by omega) with e | e
    · rw [e]
      have := h2.1
      rw [show j / 2 * 2 = j by omega] at this
      exact this
    · rw [e]
      have := h2.2
      rw [show j / 2 * 2 + 1 = j by omega] at this
      exact this

theorem ext_putRow {w0 w : World} {g q : Nat} {F : Array Value} (h : Ext w0 w) (hg : w0.heap.size ≤ g) : Ext w0 (putRow id (Sort.ahead w q) g 0 F) := below_putRow h hg
theorem ext_grow {w0 w : World} (h : Ext w0 w) (os : Array Obj) : Ext w0 (grow w os) := Ext.trans h (by
  have := below_grow w.heap.size w (Nat.le_refl _) 0 os
  exact this)
theorem ext_sortWorldK {w0 w : World} {g n : Nat} {d : Array HPt} {os : Array Obj} (h : Ext w0 w) (hg : w0.heap.size ≤ g) : Ext w0 (sortWorldK encP 2 w g 0 n d os) := ext_grow (ext_putRow h hg) os
/-- what the sort leaves is what Compact takes -/
theorem holds_sort {w : World} {g n : Nat} {l d : List HPt} {os : Array Obj} (hH : HoldsK encP 2 w g 0 l.toArray) (hg : g < w.heap.size) (hl : d.length = l.length) : HoldsK encP 2 (sortWorldK encP 2 w g 0 n d.toArray os) g 0 d.toArray :=
  holdsK_sortWorldK_c encP 2 w g 0 l.toArray d.toArray n os hH hg (by simp [hl])
theorem holds_rev {w : World} {g n : Nat} {l : List HPt} (hH : HoldsK encP 2 w g 0 l.toArray) : HoldsK encP 2 (putRowK encP 2 (Sort.ahead w n) g 0 l.reverse.toArray) g 0 l.reverse.toArray :=
  holdsK_putRowK encP 2 _ g 0 l.toArray l.reverse.toArray (holdsK_ahead encP 2 w n g 0 _ hH) (by simp)
/-- a row of points reads as a list -/
theorem holds_pts {w : World} {g cap : Nat} {l : List HPt} (h : HoldsK encP 2 w g 0 l.toArray) (hc : l.length ≤ cap) (hl : l.length ≤ 1000000) : Pts w (.slice (some ⟨g, 0, none⟩) l.length cap) l := by
  refine .inr ⟨g, 0, cap, rfl, by omega, hc, fun i hi => ?_⟩
  obtain ⟨⟨c1, _⟩, c2, _⟩ := cellsP h (i := i) (by simpa using hi)
  have hp : l[i]? = some l[i] := List.getElem?_eq_getElem hi
  have hgt : l.toArray[i]! = l[i] := by rw [getElem!_def, List.getElem?_toArray, hp]
  rw [hgt] at c1 c2
  rw [getD_lt hi]
  exact ⟨c1, c2⟩
end Go.Proofs.YtcbjecpfijogcaaGreat
/- slices.Values at points: the iterator that it makes. -/
namespace Go.Proofs.YtcbjecpfijogcaaGreat
open Go.RowKit Go.Shelf Go.Lib Go.Sort

set_option maxHeartbeats 800000 in
theorem Values_c (a : Option Addr) (n c : Nat) (w : World) :
    Calls Tryz.prog 75 #[.slice a n c] w fun e w' => e = .returned (.func (.func 94) #[] #[.pointer (some ⟨w.heap.size, 0, none⟩)]) ∧ w' = w.alloc (.cells #[.slice a n c] 27) := by
  go_enter Tryz.func75, Tryz.ntmps75
  go_wp2
  go_ret
  exact ⟨rfl, rfl⟩
end Go.Proofs.YtcbjecpfijogcaaGreat
/- A region that draws its order, walked once, within a round of a range over a function. -/
namespace Go.Proofs.YtcbjecpfijogcaaGreat
open Go.RowKit

section
variable {F : Fence} {n : Nat} {P : Program} {ops : Array Oper} {Q : Exit → Act → World → Prop} {md : Region.Mode}
theorem opIn_round {i l : Nat} {a : Act} {w : World} {K K' : Act → World → Prop} (hro : F.round = none) (hnd : ∀ (i : Nat) (o : Oper), ops[i]? = some o → ∀ c, o.op ≠ .defer c) (hK : ∀ a w, K a w → K' a w)
    (h : wpOpIn F n P ops Q i K a w) : wpOpIn (F.inRound l) n P ops Q i K' a w := by
  have h' := wpOpIn_mono hK h
  unfold wpOpIn at *
  cases ho : ops[i]? with
  | none => rw [ho] at h'; exact h'
  | some o =>
    rw [ho] at h'
    simp only at h' ⊢
    split
    · rename_i hw
      rw [if_pos hw] at h'
      obtain ⟨h1, h2⟩ := h'
      refine ⟨h1, ?_⟩
      rw [Oper.semAt_eq _ _ _ (hnd i o ho)]
      rw [hro, Oper.semAt_none] at h2
      exact h2
    · rename_i hw
      rw [if_neg hw] at h'
      exact h'
theorem anyIn_round {l : Nat} (hro : F.round = none) (hnd : ∀ (i : Nat) (o : Oper), ops[i]? = some o → ∀ c, o.op ≠ .defer c) : ∀ (fuel : Nat) (listed : Array Bool) (a : Act) (w : World), wpAnyIn F n P md ops Q fuel listed a w → wpAnyIn (F.inRound l) n P md ops Q fuel listed a w
  | 0, _, _, _, h => h
  | fuel + 1, _, _, _, h => ⟨h.1, fun i hi => opIn_round hro hnd (fun a w h => anyIn_round hro hnd fuel _ a w h) (h.2 i hi)⟩
/-- no operation of a list is a defer statement -/
def noDefer (l : List Oper) : Bool := l.all fun o => match o.op with | .defer _ => false | _ => true
theorem noDefer_spec {l : List Oper} (h : noDefer l = true) : ∀ (i : Nat) (o : Oper), l.toArray[i]? = some o → ∀ c, o.op ≠ .defer c := by
  intro i o ho c hc
  have hm : o ∈ l := by
    rw [List.getElem?_toArray] at ho
    exact List.mem_of_getElem? ho
  have := List.all_eq_true.1 h o hm
  rw [hc] at this
  cases this
theorem region_quiet_roundC {id l : Nat} {a : Act} {w : World} {lst : List Oper} (C : World → Prop) (hro : F.round = none) (hm : P.follows .mixedOrders = true) (hnd : noDefer lst = true) (hB : Region.lexB .any lst.toArray = true) (h0 : C w.drew)
    (h : wpQuietIn F n P lst.toArray C (fun a' => ∀ w', C w' → Q .normal a' w') lst a) : (Code.region id lst.toArray true).wpIn (F.inRound l) n P Q a w := by
  simp only [Region.lexB, Bool.and_eq_true] at hB
  refine wpIn_region_any hm (anyIn_round hro (noDefer_spec hnd) _ _ _ _ (wpAnyIn_of_quiet (C := C) (Q := fun a' => ∀ w', C w' → Q .normal a' w') hro (fun _ w' hw' h => h w' hw') _ _ _ _ h0 ?_))
  have := wpAnyQIn_lex (F := F) (n := n) (C := C) (md := .any) hB.1 lst.toArray.toList 0 (Array.replicate lst.toArray.size false) a (by simp) (by simpa using hB.2) (by simpa using h)
  simpa using this
end
end Go.Proofs.YtcbjecpfijogcaaGreat
