/- How a rule and six small numbers among a law's arguments read. -/
import Derived.Test.YtaomlmkcifpfkaaPOpen
namespace Go.Proofs.Ytaomlmkcifpfkaa
open Go.ChangeShapes Go.WideShapes Go.ChangeAt Go.RowKit Go.Joins Go.Deep
section
variable {H : Type} {enc : TypeId × Value → H} {w : World} {base : Nat} {spare : Nat → Bool} {held : Bool}
set_option maxRecDepth 100000 in
theorem open_rule {rr : Reach} {b0 : Nat} {v : Value} {d : DataW H} {p : List MemPlace} (hv : Value.okWide Try.prog w rr b0 58 v) (h : DataW.Trod enc Try.prog w base spare held 58 v d p) :
    ∃ (r : PRule) (vr vw vc : Value), v = .agg #[.string r.name, vr, vw, .int .i64 r.h0, .int .i64 r.h1, .int .i64 r.days, .int .i64 r.s0, .int .i64 r.s1, .bool r.forbid, vc, .int .i64 r.cost] ∧ RSls w vr vw vc r := by
  obtain ⟨cs, rfl, hsz⟩ := okWide_struct Try.underlying58 hv
  obtain ⟨fuel, hf⟩ := h
  obtain ⟨r, vr, vw, vc, hcs, hr⟩ := opens_rule _ _ _ hf
  refine ⟨r, vr, vw, vc, ?_, hr⟩
  have h2 : cs.toList = ruleCs vr vw vc r := by simpa [Value.cells] using hcs
  congr 1
  apply Array.ext'
  rw [h2]
  rfl
theorem okWide_arr {P : Program} {rr : Reach} {b0 : Nat} {t e : TypeId} {n : Nat} {v : Value} (ht : P.underlying t = some (.array n e)) (h : Value.okWide P w rr b0 t v) : ∃ cs, v = .agg cs ∧ cs.size = P.cellsOf t := by
  simp only [Value.okWide, ht] at h
  obtain ⟨cs, h1, h2, _⟩ := h
  exact ⟨cs, h1, h2⟩
theorem arr6 {cs : Array Value} (h : cs.size = 6) : ∃ a b c d e f, cs = #[a, b, c, d, e, f] := by
  obtain ⟨l⟩ := cs
  match l, h with
  | [a, b, c, d, e, f], _ => exact ⟨a, b, c, d, e, f, rfl⟩
theorem wf_u16 {m : Int} (h : (Lit.int .u16 m).wf = true) : 0 ≤ m ∧ m ≤ 65535 := by
  simp [Lit.wf, IntKind.min, IntKind.max, IntKind.signed, IntKind.bits] at h
  exact h
theorem int_of2 {t : TypeId} {i : Nat} {k : IntKind} {n : Nat} {cs : List Value} {x : DataW H × List MemPlace} (ht : Try.prog.underlying t = some (.int k)) (h : DataW.trod enc Try.prog w base spare held n t ((cs.drop i).take 1) = some x) : ∃ m, cs[i]? = some (.int k m) ∧ (Lit.int k m).wf = true := by
  obtain ⟨m, e, _, hw⟩ := DataW.trod_int ht h
  refine ⟨m, ?_, hw⟩
  have := congrArg (fun l : List Value => l[0]?) e
  simpa [List.getElem?_take, List.getElem?_drop] using this
set_option maxRecDepth 100000 in
theorem open_six {rr : Reach} {b0 : Nat} {v : Value} {d : DataW H} {p : List MemPlace} (hv : Value.okWide Try.prog w rr b0 61 v) (h : DataW.Trod enc Try.prog w base spare held 61 v d p) :
    ∃ m0 m1 m2 m3 m4 m5 : Int, v = .agg #[.int .u16 m0, .int .u16 m1, .int .u16 m2, .int .u16 m3, .int .u16 m4, .int .u16 m5] ∧ (0 ≤ m0 ∧ m0 ≤ 65535) ∧ (0 ≤ m1 ∧ m1 ≤ 65535) ∧ (0 ≤ m2 ∧ m2 ≤ 65535) ∧ (0 ≤ m3 ∧ m3 ≤ 65535) ∧ (0 ≤ m4 ∧ m4 ≤ 65535) ∧ (0 ≤ m5 ∧ m5 ≤ 65535) := by
  obtain ⟨cs, rfl, hsz⟩ := okWide_arr Try.underlying61 hv
  obtain ⟨c0, c1, c2, c3, c4, c5, rfl⟩ := arr6 (hsz.trans (show Try.prog.cellsOf 61 = 6 from by kernel_rfl))
  obtain ⟨fuel, hf⟩ := h
  obtain ⟨xs, fu, _, _, _, hl, hg⟩ := DataW.trod_array Try.underlying61 hf
  have key : ∀ j, j < 6 → ∃ z, ([c0, c1, c2, c3, c4, c5] : List Value)[j]? = some (.int .u16 z) ∧ (Lit.int .u16 z).wf = true := by
    intro j hj
    have hj' := hg j hj
    rw [show Try.prog.cellsOf 38 = 1 from by kernel_rfl, List.getElem?_eq_getElem (by omega), Nat.mul_one] at hj'
    exact int_of2 Try.underlying38 hj'
  obtain ⟨z0, e0, w0⟩ := key 0 (by decide)
  obtain ⟨z1, e1, w1⟩ := key 1 (by decide)
  obtain ⟨z2, e2, w2⟩ := key 2 (by decide)
  obtain ⟨z3, e3, w3⟩ := key 3 (by decide)
  obtain ⟨z4, e4, w4⟩ := key 4 (by decide)
  obtain ⟨z5, e5, w5⟩ := key 5 (by decide)
  simp at e0 e1 e2 e3 e4 e5
  subst e0 e1 e2 e3 e4 e5
  exact ⟨z0, z1, z2, z3, z4, z5, rfl, wf_u16 w0, wf_u16 w1, wf_u16 w2, wf_u16 w3, wf_u16 w4, wf_u16 w5⟩
end
end Go.Proofs.Ytaomlmkcifpfkaa
