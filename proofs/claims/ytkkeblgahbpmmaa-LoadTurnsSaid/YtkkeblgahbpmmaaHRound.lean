
/- A region that draws its order, walked once, within a round of a range over a function. -/
import Derived.Sort.QuietTacIn
import Derived.Test.YtkkeblgahbpmmaaHSeq
namespace Go.Proofs.Ytkkeblgahbpmmaa
open Go.RowKit

section
variable {F : Fence} {n : Nat} {P : Program} {ops : Array Oper} {Q : Exit → Act → World → Prop} {md : Region.Mode}
theorem opIn_round {i l : Nat} {a : Act} {w : World} {K K' : Act → World → Prop} (hro : F.round = none) (hnd : ∀ (i : Nat) (o : Oper), ops[i]? = some o → ∀ c, o.op ≠ .defer c) (hK : ∀ a w, K a w → K' a w)
    (h : wpOpIn F n P ops Q i K a w) : wpOpIn (F.inRound l) n P ops Q i K' a w := by
  have h' := wpOpIn_mono hK h
  unfold wpOpIn at *
  cases ho : ops[i]? with
  | none => rw [ho] at h'; exact h'
  | some o =>
    rw [ho] at h'
    simp only at h' ⊢
    split
    · rename_i hw
      rw [if_pos hw] at h'
      obtain ⟨h1, h2⟩ := h'
      refine ⟨h1, ?_⟩
      rw [Oper.semAt_eq _ _ _ (hnd i o ho)]
      rw [hro, Oper.semAt_none] at h2
      exact h2
    · rename_i hw
      rw [if_neg hw] at h'
      exact h'
theorem anyIn_round {l : Nat} (hro : F.round = none) (hnd : ∀ (i : Nat) (o : Oper), ops[i]? = some o → ∀ c, o.op ≠ .defer c) : ∀ (fuel : Nat) (listed : Array Bool) (a : Act) (w : World), wpAnyIn F n P md ops Q fuel listed a w → wpAnyIn (F.inRound l) n P md ops Q fuel listed a w
  | 0, _, _, _, h => h
  | fuel + 1, _, _, _, h => ⟨h.1, fun i hi => opIn_round hro hnd (fun a w h => anyIn_round hro hnd fuel _ a w h) (h.2 i hi)⟩
/-- no operation of a list is a defer statement -/
def noDefer (l : List Oper) : Bool := l.all fun o => match o.op with | .defer _ => false | _ => true
theorem noDefer_spec {l : List Oper} (h : noDefer l = true) : ∀ (i : Nat) (o : Oper), l.toArray[i]? = some o → ∀ c, o.op ≠ .defer c := by
  intro i o ho c hc
  have hm : o ∈ l := by
    rw [List.getElem?_toArray] at ho
    exact List.mem_of_getElem? ho
  have := List.all_eq_true.1 h o hm
  rw [hc] at this
  cases this
theorem region_quiet_roundC {id l : Nat} {a : Act} {w : World} {lst : List Oper} (C : World → Prop) (hro : F.round = none) (hm : P.follows .mixedOrders = true) (hnd : noDefer lst = true) (hB : Region.lexB .any lst.toArray = true) (h0 : C w.drew)
    (h : wpQuietIn F n P lst.toArray C (fun a' => ∀ w', C w' → Q .normal a' w') lst a) : (Code.region id lst.toArray true).wpIn (F.inRound l) n P Q a w := by
  simp only [Region.lexB, Bool.and_eq_true] at hB
  refine wpIn_region_any hm (anyIn_round hro (noDefer_spec hnd) _ _ _ _ (wpAnyIn_of_quiet (C := C) (Q := fun a' => ∀ w', C w' → Q .normal a' w') hro (fun _ w' hw' h => h w' hw') _ _ _ _ h0 ?_))
  have := wpAnyQIn_lex (F := F) (n := n) (C := C) (md := .any) hB.1 lst.toArray.toList 0 (Array.replicate lst.toArray.size false) a (by simp) (by simpa using hB.2) (by simpa using h)
  simpa using this
end
end Go.Proofs.Ytkkeblgahbpmmaa
