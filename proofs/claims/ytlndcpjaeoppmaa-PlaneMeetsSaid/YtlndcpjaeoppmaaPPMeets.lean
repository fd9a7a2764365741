
/- PlaneMeets: the given statement: for every input the law returns true, and each argument reads behind the call as it read before. -/
import Derived.Test.YtlndcpjaeoppmaaHMeetsLaw
import Derived.Test.YtlndcpjaeoppmaaRows
import Derived.ProofKit
import Derived.OpenShut
import Derived.ChangeOld
import Derived.Lib.SmallJoins
import Derived.Deep.Slices
import Derived.Deep.Fields
import Derived.ChangeSame
namespace Go.Proofs.Ytlndcpjaeoppmaa
namespace OfPlaneMeets
open Go.ChangeShapes Go.WideShapes Go.ChangeAt Go.RowKit Go.Joins Go.Deep

theorem own : ownKnob Try.prog.godebug = none := by kernel_rfl
theorem laidOut : laidOutB Try.prog = true := by kernel_rfl
theorem cells_43 : Try.prog.cellsOf 43 = 3 := by kernel_rfl
theorem cells_31 : Try.prog.cellsOf 31 = 2 := by kernel_rfl

set_option maxRecDepth 100000 in
theorem lifted (os : Os) (started : os.Started) (H : Type) (enc : TypeId × Value → H) :
    ReturnsInHanded {} Try.checked os 5 .any (Rows.planeMeetsSpec.pre6 enc Try.prog Try.f5 Rows.planeMeetsRow.domain false) (Rows.planeMeetsSpec.post enc Try.prog Try.f5 false true false false) := by
  refine returnsInHanded_of_change (C := Try.checked) own started (by kernel_rfl) Try.func5
    (ChangeSpec.witness6 (enc := enc) (C := Try.checked) false ⟨#[], #[.slice none 0 0, .slice none 0 0, .agg #[.int .i64 0, .int .i64 0, .int .i64 0]], []⟩ 8 (by kernel_rfl) (by kernel_rfl) (by kernel_rfl) (by kernel_rfl)) ?_
  intro W base args ds gs before hval0 hW hcnd _
  have hval : ∀ (j : Nat) t v, Try.f5.params[j]? = some t → args[j]? = some v → Value.okWide Try.prog W .any base t v := hval0
  have hW' := hW
  obtain ⟨p, q, hA0, hV, rfl, hfz, hnd⟩ := hW
  have hA : DataW.TrodAll enc Try.prog W 0 (fun _ => true) true Try.f5.params.toList args.toList ds p := hA0
  rw [Try.params5] at hA hval
  obtain ⟨v0, vs0, d0, ds0, p0, q0, hargs, rfl, rfl, h0, r0⟩ := trodAll_cons hA
  obtain ⟨v1, vs1, d1, ds1, p1, q1, rfl, rfl, rfl, h1, r1⟩ := trodAll_cons r0
  obtain ⟨v2, vs2, d2, ds2, p2, q2, rfl, rfl, rfl, h2, r2⟩ := trodAll_cons r1
  obtain ⟨rfl, rfl, rfl⟩ := trodAll_nil r2
  obtain rfl : args = #[v0, v1, v2] := by cases args; simp_all
  obtain ⟨rfl, rfl⟩ := trodVars_none hV
  have k0 := h0
  have lt0 : ∀ x ∈ p0, x.block < W.heap.size := by obtain ⟨m, hm⟩ := k0; exact DataW.trod_lt m _ _ _ hm
  have k1 := h1
  have lt1 : ∀ x ∈ p1, x.block < W.heap.size := by obtain ⟨m, hm⟩ := k1; exact DataW.trod_lt m _ _ _ hm
  have k2 := h2
  have lt2 : ∀ x ∈ p2, x.block < W.heap.size := by obtain ⟨m, hm⟩ := k2; exact DataW.trod_lt m _ _ _ hm
  obtain ⟨l0, s0⟩ := open_pts Try.underlying23 Try.underlying31 (by kernel_rfl) cells_31 Try.underlying2 Try.underlying2 (hval 0 23 v0 rfl rfl) h0
  obtain ⟨l1, s1⟩ := open_pts Try.underlying23 Try.underlying31 (by kernel_rfl) cells_31 Try.underlying2 Try.underlying2 (hval 1 23 v1 rfl rfl) h1
  obtain ⟨c2_0, c2_1, c2_2, y2_0, y2_1, y2_2, m2, rfl, rfl, _, hy2_0, hy2_1, hy2_2⟩ := open_agg3 Try.underlying43 (by kernel_rfl) cells_43 (hval 2 43 v2 rfl rfl) h2
  obtain ⟨x2_0, e2_0, _, w2_0⟩ := DataW.trod_int Try.underlying2 hy2_0
  obtain ⟨x2_1, e2_1, _, w2_1⟩ := DataW.trod_int Try.underlying2 hy2_1
  obtain ⟨x2_2, e2_2, _, w2_2⟩ := DataW.trod_int Try.underlying2 hy2_2
  simp at e2_0 e2_1 e2_2
  subst e2_0 e2_1 e2_2
  clear hA0 hval0
  refine (meets_law2 v0 l0 v1 l1 x2_0 x2_1 x2_2 W s0 s1).mono fun e W' ⟨he, bel⟩ => ?_
  subst he
  exact ⟨_, rfl, _, _, _, [], _, [], hW', trodAll_mk1 (shut_bool Try.underlying4 _), (trodAll_cons_mk (Below.trod laidOut (by kernel_rfl) (of_decide_eq_true (by kernel_rfl)) k0 bel lt0) (trodAll_cons_mk (Below.trod laidOut (by kernel_rfl) (of_decide_eq_true (by kernel_rfl)) k1 bel lt1) (trodAll_cons_mk (Below.trod laidOut (by kernel_rfl) (of_decide_eq_true (by kernel_rfl)) k2 bel lt2) trodAll_mk0))), rfl, Below.frame bel _, fun h => by cases h⟩

theorem over : Rows.planeMeetsRow.holds Try.pinned (OpenSpec.ofChange Rows.planeMeetsSpec) :=
  OpenClaim.holds_of_wide 5 Try.f5 rfl rfl rfl rfl rfl rfl rfl ⟨rfl, rfl, rfl, rfl, rfl⟩ rfl rfl rfl rfl rfl (by kernel_rfl) Try.func5 (by kernel_rfl)
    (of_decide_eq_true (by kernel_rfl)) (by unfold Func.isWrapper; rw [if_neg (of_decide_eq_false (by kernel_rfl))]; exact ⟨rfl, rfl⟩)
    (fun os started H enc _ => lifted os started H enc)
end OfPlaneMeets

theorem planeMeets_holds : Rows.PlaneMeetsSaid := OfPlaneMeets.over
end Go.Proofs.Ytlndcpjaeoppmaa
