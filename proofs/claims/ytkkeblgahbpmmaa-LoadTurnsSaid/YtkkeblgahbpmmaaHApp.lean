
/- Appends of points in a region that draws its order; a region whose calls may make memory, walked once. -/
import Derived.Test.YtkkeblgahbpmmaaHOwn
import Derived.Deep.RegionLaw
import Derived.Deep.QuietTactic
import Derived.Deep.Upon
namespace Go.Proofs.Ytkkeblgahbpmmaa
open Go.RowKit Go.Shelf

/-- a region that draws its order, walked once, over any class of worlds -/
theorem wp_region_ext {P : Program} {id : Nat} {Q : Exit → Act → World → Prop} {a : Act} {w : World} {l : List Oper} {C : World → Prop} (hm : P.follows .mixedOrders = true) (hB : Region.lexB .any l.toArray = true) (hC : C w.drew)
    (h : wpQuiet P l.toArray C (fun a' => ∀ w', C w' → Q .normal a' w') l a) : (Code.region id l.toArray true).wp P Q a w :=
  wp_region_quiet (C := C) hm hB hC (by simpa using h)

theorem own_ge' {w : World} {base : Nat} {e : TypeId} {n m : Nat} {v : Value} {xs : List Value} (h : w.ownsRow base e n v m xs) : ∀ k, v.ownBlock = some k → base ≤ k := by
  intro k hk
  rcases h.2 with ⟨rfl, _⟩ | ⟨g, cap, cur, rfl, hb, _⟩
  · simp [Value.ownBlock] at hk
  · have : g = k := by simpa [Value.ownBlock] using hk
    omega
/-- what a slice of points holds, as an append takes it -/
theorem Pts.src {w : World} {v : Value} {l : List HPt} (h : Pts w v l) : ∃ (A : Option Addr) (c : Nat), v = .slice A l.length c ∧ ((A = none ∧ l = []) ∨ ∃ ad, A = some ad ∧ ∀ j u, (flatP l)[j]? = some u → w.cell? (ad.add j) = some u) := by
  rcases h with ⟨a, c, rfl, rfl⟩ | ⟨b, off, cap, rfl, _, _, hc⟩
  · rcases a with _ | ad
    · exact ⟨none, c, rfl, .inl ⟨rfl, rfl⟩⟩
    · exact ⟨_, c, rfl, .inr ⟨ad, rfl, fun j u h => by simp [flatP] at h⟩⟩
  · refine ⟨_, cap, rfl, .inr ⟨⟨b, off, none⟩, rfl, ?_⟩⟩
    intro j u hj
    rw [add_noneH]
    have hlt : j < l.length * 2 := by rw [← flatP_len]; exact (List.getElem?_eq_some_iff.1 hj).1
    have hp : l[j / 2]? = some l[j / 2] := List.getElem?_eq_getElem (by omega)
    have h2 := flatP_at l (j / 2) _ hp
    have h3 := hc (j / 2) (by omega)
    rw [getD_lt (show j / 2 < l.length by omega)] at h3
    generalize l[j / 2] = q at h2 h3
    rcases (show j = j / 2 * 2 ∨ j = j / 2 * 2 + 1 by omega) with e | e
    · have h4 := h2.1
      rw [← e, hj] at h4
      have h5 := h3.1
      rw [← e] at h5
      rw [h5, Option.some.inj h4]
    · have h4 := h2.2
      rw [← e, hj] at h4
      have h5 := h3.2
      rw [Nat.add_assoc, ← e] at h5
      rw [h5, Option.some.inj h4]
theorem flatP_one : ∀ (l : List HPt), ∀ u ∈ flatP l, u.oneCell' = true := by
  intro l u hu
  simp only [flatP, List.mem_flatMap] at hu
  obtain ⟨p, _, hp⟩ := hu
  simp at hp
  rcases hp with rfl | rfl <;> rfl
theorem flatP_append (l m : List HPt) : flatP (l ++ m) = flatP l ++ flatP m := by simp [flatP]
/-- an append of points to a row of the call's own -/
theorem step_append_pts {w : World} {ops : Array Oper} {o : Oper} {a : Act} {K : Act → World → Prop} {Q : Exit → Act → World → Prop} {E : Prop} (hgd : o.guard = none) (s x : Operand)
    (ho : o.op = .call { callee := .builtin .append, args := #[s, x], argTypes := #[48, 48] })
    (base : Nat) (v vx : Value) (l m : List HPt) (hs : a.eval s = v) (hown : OwnP base w v l) (hx : a.eval x = vx) (hp : Pts w vx m) (hn : l.length + m.length ≤ 8000000) (hbase : base ≤ w.heap.size)
    (h : ∀ v' w', OwnP base w' v' (l ++ m) → w.grownBy w' v.ownBlock → K (a.put o.dst v') w') :
    if Region.wanted o (yielded ops a.tmps) = true then Oper.wp Try.prog o a w K Q else E := by
  have hw : Region.wanted o (yielded ops a.tmps) = true := by simp [Region.wanted, hgd]
  rw [if_pos hw]
  obtain ⟨ip, hi0, hii⟩ := Option.map_eq_some_iff.1 infoPoint
  simp only [Prod.mk.injEq] at hii
  obtain ⟨hi1, hi2, hi3⟩ := hii
  have hown' : w.ownsRow base 52 2 v l.length (flatP l) := hown
  obtain ⟨A, c, rfl, hA⟩ := hp.src
  rcases hA with ⟨rfl, rfl⟩ | ⟨ad, rfl, hc⟩
  · obtain ⟨A0, c0, rfl, hle⟩ : ∃ (A0 : Option Addr) (c0 : Nat), v = .slice A0 l.length c0 ∧ l.length ≤ c0 := by
      rcases hown'.2 with ⟨rfl, h1⟩ | ⟨g, cp, _, rfl, _, _, hle, _⟩
      · exact ⟨none, 0, by rw [h1], by omega⟩
      · exact ⟨_, cp, rfl, hle⟩
    have hrun := run_append_nothing (P := Try.prog) w 48 48 o.type 52 ip Try.underlying48 hi0 A0 l.length c0 hle (.slice none 0 c) (Src.ofNil w Try.underlying48 c)
    have hK := h (.slice A0 l.length c0) w (by simpa using hown) ⟨rfl, rfl, rfl, Nat.le_refl _, fun _ _ _ => rfl⟩
    unfold Oper.wp
    simp only [List.length_nil] at hx
    simp [execOp, ho, resolve, invoke, builtin, hs, hx, hrun, Result.andThen]
    exact hK
  · refine wp_append_own w s x 48 ho base 52 ip _ 2 16 Try.underlying48 hi0 hi1 hi2 hi3 rfl (by decide) v l.length (flatP l) hs hown' ad m.length c (flatP m) hx (flatP_len m) hc (flatP_one m) (by unfold maxLen; omega) (by omega) hbase ?_
    intro v' w' h1 h2 _
    refine h v' w' ?_ h2
    unfold OwnP
    rw [List.length_append, flatP_append]
    exact h1
theorem OwnP.empty {w : World} {base b : Nat} (hb : w.heap[b]? = some (.cells #[] 52 (0, 0))) (h : base ≤ b) : OwnP base w (.slice (some ⟨b, 0, none⟩) 0 0) [] :=
  ⟨rfl, .inr ⟨b, 0, #[], rfl, h, hb, Nat.le_refl _, Nat.zero_le _, rfl, rfl⟩⟩
theorem Pts.one {w : World} {b : Nat} {x y : Int} (hb : w.heap[b]? = some (.cells #[.int .i64 x, .int .i64 y] 52 (0, 0))) : Pts w (.slice (some ⟨b, 0, none⟩) 1 1) [(x, y)] := by
  refine .inr ⟨b, 0, 1, rfl, by simp, by simp, fun i hi => ?_⟩
  have hi0 : i = 0 := by simp at hi; omega
  subst hi0
  exact ⟨World.news_of_block hb 0 _ rfl, World.news_of_block hb 1 _ rfl⟩
theorem heap2_first (W : World) (o1 o2 : Obj) : ((W.alloc o1).alloc o2).heap[W.heap.size]? = some o1 := (Below.heap_alloc (W.alloc o1) o2 W.heap.size (by rw [size_alloc]; omega)).trans (World.alloc_heap_new W o1)
theorem heap2_second (W : World) (o1 o2 : Obj) : ((W.alloc o1).alloc o2).heap[W.heap.size + 1]? = some o2 := by
  have h := World.alloc_heap_new (W.alloc o1) o2
  rwa [size_alloc] at h
theorem kept_blk' {w w' : World} {v : Value} {g k : Nat} {o : Obj} (hg : w.grownBy w' v.ownBlock) (hv : v.ownBlock = some g) (hk : w.heap[k]? = some o) (hne : k ≠ g) : w'.heap[k]? = some o := by
  have hlt := (Array.getElem?_eq_some_iff.1 hk).1
  rw [hv] at hg
  exact (hg.block k hlt (fun e => hne (Option.some.inj e))).trans hk
end Go.Proofs.Ytkkeblgahbpmmaa
