
/- PlaneParts: the given statement: for every input the law returns true, and each argument reads behind the call as it read before. -/
import Derived.Test.YtlndcpjaeoppmaaHPartsLaw
import Derived.Test.YtlndcpjaeoppmaaRows
import Derived.ProofKit
import Derived.OpenShut
import Derived.ChangeOld
import Derived.Lib.SmallJoins
import Derived.Deep.Slices
import Derived.Deep.Fields
import Derived.ChangeSame
namespace Go.Proofs.Ytlndcpjaeoppmaa
namespace OfPlaneParts
open Go.ChangeShapes Go.WideShapes Go.ChangeAt Go.RowKit Go.Joins Go.Deep

theorem own : ownKnob Try.prog.godebug = none := by kernel_rfl
theorem laidOut : laidOutB Try.prog = true := by kernel_rfl
theorem cells_43 : Try.prog.cellsOf 43 = 3 := by kernel_rfl
theorem cells_54 : Try.prog.cellsOf 54 = 2 := by kernel_rfl

set_option maxRecDepth 100000 in
theorem lifted (os : Os) (started : os.Started) (H : Type) (enc : TypeId × Value → H) :
    ReturnsInHanded {} Try.checked os 7 .any (Rows.planePartsSpec.pre6 enc Try.prog Try.f7 Rows.planePartsRow.domain false) (Rows.planePartsSpec.post enc Try.prog Try.f7 false true false false) := by
  refine returnsInHanded_of_change (C := Try.checked) own started (by kernel_rfl) Try.func7
    (ChangeSpec.witness6 (enc := enc) (C := Try.checked) false ⟨#[], #[.slice none 0 0, .slice none 0 0, .agg #[.int .i64 0, .int .i64 0, .int .i64 0], .agg #[.int .i8 0, .int .i8 0]], []⟩ 8 (by kernel_rfl) (by kernel_rfl) (by kernel_rfl) (by kernel_rfl)) ?_
  intro W base args ds gs before hval0 hW hcnd _
  have hval : ∀ (j : Nat) t v, Try.f7.params[j]? = some t → args[j]? = some v → Value.okWide Try.prog W .any base t v := hval0
  have hW' := hW
  obtain ⟨p, q, hA0, hV, rfl, hfz, hnd⟩ := hW
  have hA : DataW.TrodAll enc Try.prog W 0 (fun _ => true) true Try.f7.params.toList args.toList ds p := hA0
  rw [Try.params7] at hA hval
  obtain ⟨v0, vs0, d0, ds0, p0, q0, hargs, rfl, rfl, h0, r0⟩ := trodAll_cons hA
  obtain ⟨v1, vs1, d1, ds1, p1, q1, rfl, rfl, rfl, h1, r1⟩ := trodAll_cons r0
  obtain ⟨v2, vs2, d2, ds2, p2, q2, rfl, rfl, rfl, h2, r2⟩ := trodAll_cons r1
  obtain ⟨v3, vs3, d3, ds3, p3, q3, rfl, rfl, rfl, h3, r3⟩ := trodAll_cons r2
  obtain ⟨rfl, rfl, rfl⟩ := trodAll_nil r3
  obtain rfl : args = #[v0, v1, v2, v3] := by cases args; simp_all
  obtain ⟨rfl, rfl⟩ := trodVars_none hV
  have k0 := h0
  have lt0 : ∀ x ∈ p0, x.block < W.heap.size := by obtain ⟨m, hm⟩ := k0; exact DataW.trod_lt m _ _ _ hm
  have k1 := h1
  have lt1 : ∀ x ∈ p1, x.block < W.heap.size := by obtain ⟨m, hm⟩ := k1; exact DataW.trod_lt m _ _ _ hm
  have k2 := h2
  have lt2 : ∀ x ∈ p2, x.block < W.heap.size := by obtain ⟨m, hm⟩ := k2; exact DataW.trod_lt m _ _ _ hm
  have k3 := h3
  have lt3 : ∀ x ∈ p3, x.block < W.heap.size := by obtain ⟨m, hm⟩ := k3; exact DataW.trod_lt m _ _ _ hm
  obtain ⟨l0, s0, b0⟩ := open_pairs (k := .i8) Try.underlying22 Try.underlying54 (by kernel_rfl) cells_54 Try.underlying51 Try.underlying51 (hval 0 22 v0 rfl rfl) h0
  obtain ⟨l1, s1, b1⟩ := open_pairs (k := .i8) Try.underlying22 Try.underlying54 (by kernel_rfl) cells_54 Try.underlying51 Try.underlying51 (hval 1 22 v1 rfl rfl) h1
  obtain ⟨c2_0, c2_1, c2_2, y2_0, y2_1, y2_2, m2, rfl, rfl, _, hy2_0, hy2_1, hy2_2⟩ := open_agg3 Try.underlying43 (by kernel_rfl) cells_43 (hval 2 43 v2 rfl rfl) h2
  obtain ⟨x2_0, e2_0, _, w2_0⟩ := DataW.trod_int Try.underlying2 hy2_0
  obtain ⟨x2_1, e2_1, _, w2_1⟩ := DataW.trod_int Try.underlying2 hy2_1
  obtain ⟨x2_2, e2_2, _, w2_2⟩ := DataW.trod_int Try.underlying2 hy2_2
  simp at e2_0 e2_1 e2_2
  subst e2_0 e2_1 e2_2
  obtain ⟨c3_0, c3_1, y3_0, y3_1, m3, rfl, rfl, _, hy3_0, hy3_1⟩ := open_agg2 Try.underlying54 (by kernel_rfl) cells_54 (hval 3 54 v3 rfl rfl) h3
  obtain ⟨x3_0, e3_0, _, w3_0⟩ := DataW.trod_int Try.underlying51 hy3_0
  obtain ⟨x3_1, e3_1, _, w3_1⟩ := DataW.trod_int Try.underlying51 hy3_1
  simp at e3_0 e3_1
  subst e3_0 e3_1
  clear hA0 hval0
  refine (parts_law v0 l0 v1 l1 x2_0 x2_1 x2_2 x3_0 x3_1 W s0 b0 s1 b1 w2_0 w2_1 w2_2 w3_0 w3_1).mono fun e W' ⟨he, bel⟩ => ?_
  subst he
  exact ⟨_, rfl, _, _, _, [], _, [], hW', trodAll_mk1 (shut_bool Try.underlying4 _), (trodAll_cons_mk (Below.trod laidOut (by kernel_rfl) (of_decide_eq_true (by kernel_rfl)) k0 bel lt0) (trodAll_cons_mk (Below.trod laidOut (by kernel_rfl) (of_decide_eq_true (by kernel_rfl)) k1 bel lt1) (trodAll_cons_mk (Below.trod laidOut (by kernel_rfl) (of_decide_eq_true (by kernel_rfl)) k2 bel lt2) (trodAll_cons_mk (Below.trod laidOut (by kernel_rfl) (of_decide_eq_true (by kernel_rfl)) k3 bel lt3) trodAll_mk0)))), rfl, Below.frame bel _, fun h => by cases h⟩

theorem over : Rows.planePartsRow.holds Try.pinned (OpenSpec.ofChange Rows.planePartsSpec) :=
  OpenClaim.holds_of_wide 7 Try.f7 rfl rfl rfl rfl rfl rfl rfl ⟨rfl, rfl, rfl, rfl, rfl⟩ rfl rfl rfl rfl rfl (by kernel_rfl) Try.func7 (by kernel_rfl)
    (of_decide_eq_true (by kernel_rfl)) (by unfold Func.isWrapper; rw [if_neg (of_decide_eq_false (by kernel_rfl))]; exact ⟨rfl, rfl⟩)
    (fun os started H enc _ => lifted os started H enc)
end OfPlaneParts

theorem planeParts_holds : Rows.PlanePartsSaid := OfPlaneParts.over
end Go.Proofs.Ytlndcpjaeoppmaa
