/- Contracts: which units cannot be led back; the iterator slices.Backward over units. -/
import Derived.RangeFuncNested
import Derived.RangeFuncLeaves
import Derived.Test.YtgikfliibimkdaaCBackS
import Derived.Test.YtgikfliibimkdaaCUnits
import Derived.Test.YtgikfliibimkdaaCCheck
namespace Go.Proofs.Ytgikfliibimkdaa
open Go.RowKit Go.Shelf
attribute [local go_sem] Oper.semAt_some

theorem Back1_c (v : Value) (u : CUnit) (w : World) (hs : Sl 3 RAxle w v u.axles) :
    Calls Try.prog 63 #[.agg #[.int .i64 u.kind, .int .i64 u.length, .int .i64 u.behind, .int .i64 u.front, .int .i64 u.rear, .int .i64 u.width, .int .i64 u.height, .int .i64 u.mass, .int .i64 u.steer, .int .i64 u.most, v]] w fun e w' => e = .returned (.bool (!backU u)) ∧ Ext w w' := by
  obtain ⟨A, cap, rfl, hl, hl2⟩ := hs.shape
  clear hs
  by_cases h : u.behind < 100
  · have hb : backU u = false := by unfold backU; simp [h]
    rw [hb]
    go_enter Try.func63, Try.ntmps63
    go_wp2
    go_ret
    exact ⟨rfl, by (repeat' (first | exact Ext.refl _ | assumption | refine Ext.alloc ?_ _ | refine Ext.drew ?_ | refine Ext.drewN ?_ _ | refine Ext.set ?_ (by first | exact Nat.le_refl _ | exact le1 _ | exact le2 _ | exact le3 _ | exact le4 _ | exact le5 _ | exact le6 _) _ | refine Ext.trans ?_ (by assumption)))⟩
  · by_cases h2 : u.steer = 0
    · have hb : backU u = true := by unfold backU; simp [h, h2]
      rw [hb]
      go_enter Try.func63, Try.ntmps63
      go_wp2
      go_ret
      exact ⟨ret_bool (by simp), by (repeat' (first | exact Ext.refl _ | assumption | refine Ext.alloc ?_ _ | refine Ext.drew ?_ | refine Ext.drewN ?_ _ | refine Ext.set ?_ (by first | exact Nat.le_refl _ | exact le1 _ | exact le2 _ | exact le3 _ | exact le4 _ | exact le5 _ | exact le6 _) _ | refine Ext.trans ?_ (by assumption)))⟩
    · have hb : backU u = false := by unfold backU; simp [h2]
      rw [hb]
      go_enter Try.func63, Try.ntmps63
      go_wp2
      go_ret
      exact ⟨ret_bool (by simp [h2]), by (repeat' (first | exact Ext.refl _ | assumption | refine Ext.alloc ?_ _ | refine Ext.drew ?_ | refine Ext.drewN ?_ _ | refine Ext.set ?_ (by first | exact Nat.le_refl _ | exact le1 _ | exact le2 _ | exact le3 _ | exact le4 _ | exact le5 _ | exact le6 _) _ | refine Ext.trans ?_ (by assumption)))⟩
theorem backs_c (v : Value) (l : List CUnit) (w : World) (hs : Sl 11 RUnit w v l) :
    Calls Try.prog 62 #[v, .func (.func 63) #[] #[]] w fun e w' => e = .returned (.bool (!backB l)) ∧ Ext w w' := by
  unfold backB
  rw [← any_not]
  refine ContainsFuncUnit_c RUnit.stable 63 #[] (enters_of Try.func63 (by kernel_rfl) rfl) _ v l w hs ?_
  rintro W cs x _ ⟨v', rfl, h⟩ _
  exact Back1_c v' x W h

/-! ### the iterator -/
/-- the numbers below k, from the greatest one on -/
def dnk (n : Nat) : (k : Nat) → k ≤ n → List (Fin n)
  | 0, _ => []
  | k + 1, h => ⟨k, h⟩ :: dnk n k (by omega)
theorem dnk_len {n : Nat} : ∀ (k : Nat) (h : k ≤ n), (dnk n k h).length = k
  | 0, _ => rfl
  | k + 1, h => by rw [dnk, List.length_cons, dnk_len k]
theorem dnk_at {n : Nat} : ∀ (k t j : Nat) (h : k ≤ n) (hj : t + j + 1 = k), (dnk n k h)[t]? = some ⟨j, by omega⟩
  | 0, t, j, h, hj => by omega
  | k + 1, 0, j, h, hj => by
    obtain rfl : j = k := by omega
    rfl
  | k + 1, t + 1, j, h, hj => by
    rw [dnk, List.getElem?_cons_succ]
    exact dnk_at k t j (by omega) (by omega)
def unitVal (e : Option Addr × Nat) (u : CUnit) : Value := .agg #[.int .i64 u.kind, .int .i64 u.length, .int .i64 u.behind, .int .i64 u.front, .int .i64 u.rear, .int .i64 u.width, .int .i64 u.height, .int .i64 u.mass, .int .i64 u.steer, .int .i64 u.most, .slice e.1 u.axles.length e.2]
def bwE (us : List CUnit) (ex : Nat → Option Addr × Nat) (x : Fin us.length) : Array Value := #[.int .i64 (x.1 : Int), unitVal (ex x.1) (us.get x)]
/-- what a round keeps: what lay below n₀, and the box of the slice -/
def KpW (n₀ Bs : Nat) (W W' : World) : Prop := Below n₀ W W' ∧ W'.heap[Bs]? = W.heap[Bs]?
theorem KpW.refl (n₀ Bs : Nat) (W : World) : KpW n₀ Bs W W := ⟨Below.refl _ _, rfl⟩
theorem KpW.trans {n₀ Bs : Nat} {A B C : World} (h : KpW n₀ Bs A B) (k : KpW n₀ Bs B C) : KpW n₀ Bs A C := ⟨h.1.trans k.1, k.2.trans h.2⟩
theorem KpW.put {n₀ Bs : Nat} {w : World} (hn : n₀ ≤ w.heap.size) (hB : Bs < w.heap.size) (W : World) (l : Nat) (o o' : Obj) (hl : w.heap.size ≤ l) (h : W.heap[l]? = some o) (h1 : o.isCells = false) (h2 : o.isWalk = false) : KpW n₀ Bs W (W.putObj l o') :=
  ⟨belowK_b hn W l o o' hl h h1 h2, World.putObj_heap_other (by omega)⟩
theorem KpW.ext {n₀ Bs : Nat} {W W' : World} (h : Ext W W') (hn : n₀ ≤ W.heap.size) (hB : Bs < W.heap.size) : KpW n₀ Bs W W' := ⟨Below.mono h hn, h.block Bs hB⟩

set_option maxRecDepth 100000 in
set_option maxHeartbeats 4000000 in
theorem Bw1_in (F : Fence) (n : Nat) (hF : F.fn 92) (hro : F.round = none) (hn : 1 ≤ n) (l Bs n₀ b off cap : Nat) (us : List CUnit) (ex : Nat → Option Addr × Nat) (hle : us.length ≤ 1000) (hb : b < n₀) (J Jx : List (Fin us.length) → World → Prop)
    (hY : ∀ pre x W, J pre W → pre.length < us.length → YieldAt F (n - 1) Try.prog l (bwE us ex x) W fun e W' =>
      (e = .returned (.bool true) ∧ J (pre ++ [x]) W' ∧ KpW n₀ Bs W W') ∨ (e = .returned (.bool false) ∧ Jx (pre ++ [x]) W'))
    (W : World) (hBs : W.cell? ⟨Bs, 0, none⟩ = some (.slice (some ⟨b, off, none⟩) us.length cap))
    (hc : ∀ i u, us[i]? = some u → ∀ j c, (unitCs (.slice (ex i).1 u.axles.length (ex i).2) u)[j]? = some c → W.cell? ⟨b, off + i * 11 + j, none⟩ = some c) (h0 : J [] W) :
    CallsIn F n Try.prog 92 #[.func (.yield l) #[] #[], .pointer (some ⟨Bs, 0, none⟩)] W fun e W' => (∃ v, e = .returned v) ∧
      ((∃ ys, ys = dnk us.length us.length (Nat.le_refl _) ∧ J ys W') ∨ (∃ pre, pre <+: dnk us.length us.length (Nat.le_refl _) ∧ Jx pre W')) := by
  refine callsIn_of_wp Try.func92 rfl hF ?_ hro
  have hi0 : IntKind.i64.wrap ((us.length : Int) - 1) = (us.length : Int) - 1 := IntWalk.i64_in _ (by omega)
  simp only [Try.ntmps92, List.size_toArray, List.length_cons, List.length_nil, Nat.reduceAdd, Nat.reduceSub, Array.replicate_succ, Array.replicate_zero, List.push_toArray, List.append_toArray, List.nil_append, List.cons_append]
  gi_wp2
  gi_loopw [3] (fun i wr => ∃ k : Nat, k ≤ us.length ∧ i = .int .i64 ((k : Int) - 1) ∧ J ((dnk us.length us.length (Nat.le_refl _)).take (us.length - k)) wr ∧ KpW n₀ Bs W wr) (fun i _ => (intOf i + 1).toNat)
  case atStart => exact ⟨us.length, Nat.le_refl _, rfl, by simpa using h0, KpW.refl _ _ _⟩
  case round =>
    obtain ⟨k, hk, rfl, hJs, hnx⟩ := hrel
    have hB' : wr.cell? ⟨Bs, 0, none⟩ = some (.slice (some ⟨b, off, none⟩) us.length cap) := by rw [World.cell?_of_block (w := W) hnx.2]; exact hBs
    cases k with
    | zero =>
      rw [show (((0 : Nat) : Int) - 1) = (-1 : Int) from rfl]
      have hJe : J (dnk us.length us.length (Nat.le_refl _)) wr := by
        have h9 := hJs
        rw [List.take_of_length_le (by rw [dnk_len]; omega)] at h9
        exact h9
      gi_wp2
      go_end0
      exact ⟨⟨_, rfl⟩, .inl ⟨_, rfl, hJe⟩⟩
    | succ k =>
      rw [show (((k + 1 : Nat) : Int) - 1) = (k : Int) by omega]
      have hku : k < us.length := by omega
      obtain ⟨u, hu⟩ := some_of_lt hku
      have hget : us.get ⟨k, hku⟩ = u := by
        obtain ⟨h1, h2⟩ := List.getElem?_eq_some_iff.1 hu
        exact h2
      have hcx := hc k u hu
      have cc : ∀ j c, (unitCs (.slice (ex k).1 u.axles.length (ex k).2) u)[j]? = some c → wr.cell? ⟨b, off + k * 11 + j, none⟩ = some c := fun j c hj => (hnx.1.cell (p := ⟨b, off + k * 11 + j, none⟩) hb).trans (hcx j c hj)
      have k0 := cc 0 _ rfl
      have k1 := cc 1 _ rfl
      have k2 := cc 2 _ rfl
      have k3 := cc 3 _ rfl
      have k4 := cc 4 _ rfl
      have k5 := cc 5 _ rfl
      have k6 := cc 6 _ rfl
      have k7 := cc 7 _ rfl
      have k8 := cc 8 _ rfl
      have k9 := cc 9 _ rfl
      have k10 := cc 10 _ rfl
      simp only [Nat.add_zero] at k0
      have hyy := hY _ ⟨k, hku⟩ wr hJs (by rw [List.length_take, dnk_len]; omega)
      have hpre : (dnk us.length us.length (Nat.le_refl _)).take (us.length - (k + 1)) ++ [⟨k, hku⟩] = (dnk us.length us.length (Nat.le_refl _)).take (us.length - k) := by
        have h1 := dnk_at us.length (us.length - (k + 1)) k (Nat.le_refl _) (by omega)
        rw [show us.length - k = us.length - (k + 1) + 1 by omega, List.take_add_one, h1]
        rfl
      rw [hpre] at hyy
      unfold bwE unitVal at hyy
      rw [hget] at hyy
      dsimp only at hyy
      obtain ⟨fn, tmps, assign, body, hy, hR⟩ := hyy
      have i1 : (0 : Int) ≤ (k : Int) := by omega
      have i2 : (k : Int) < (us.length : Int) := by omega
      have ew := IntWalk.i64_in ((k : Int) - 1) (by omega)
      have HK := Lib.hid hnx
      have HN := Lib.hid hk
      clear hJs hnx hcx cc hget hu hpre hc hY h0 hi0 hk
      gi_wp2
      refine hR.mono ?_
      rintro e W3 (⟨rfl, hJ3, hk3⟩ | ⟨rfl, hJx3⟩)
      · gi_wp2
        go_roundw
        case rel => exact ⟨k, by have := HN.out; omega, rfl, hJ3, HK.out.trans hk3⟩
        case measure => simp [intOf]
      · gi_wp2
        refine bodyPost_ret (results_none rfl _ _ _) rfl ?_
        exact ⟨⟨_, rfl⟩, .inr ⟨_, List.take_prefix _ _, hJx3⟩⟩
theorem Bw_stops (F : Fence) (n : Nat) (hF : F.fn 92) (hro : F.round = none) (hn : 1 ≤ n) (Bs n₀ b off cap : Nat) (us : List CUnit) (ex : Nat → Option Addr × Nat) (hle : us.length ≤ 1000) (hb : b < n₀) (w : World)
    (hBs : w.cell? ⟨Bs, 0, none⟩ = some (.slice (some ⟨b, off, none⟩) us.length cap))
    (hc : ∀ i u, us[i]? = some u → ∀ j c, (unitCs (.slice (ex i).1 u.axles.length (ex i).2) u)[j]? = some c → w.cell? ⟨b, off + i * 11 + j, none⟩ = some c) :
    SeqStopsK F n Try.prog 92 #[.pointer (some ⟨Bs, 0, none⟩)] (bwE us ex) (KpW n₀ Bs) (fun ys => ys = dnk us.length us.length (Nat.le_refl _)) (fun pre => pre <+: dnk us.length us.length (Nat.le_refl _)) us.length w :=
  fun l J Jx W hW _ _ hY h0 => Bw1_in F n hF hro hn l Bs n₀ b off cap us ex hle hb J Jx hY W (Ext.cell hW hBs) (fun i u hu j c hj => Ext.cell hW (hc i u hu j c hj)) h0
set_option maxHeartbeats 800000 in
theorem Backward_c (A : Option Addr) (len cap : Nat) (w : World) :
    Calls Try.prog 64 #[.slice A len cap] w fun e w' => e = .returned (.func (.func 92) #[] #[.pointer (some ⟨w.heap.size, 0, none⟩)]) ∧ w' = w.alloc (.cells #[.slice A len cap] 22) := by
  go_enter Try.func64, Try.ntmps64
  go_wp2
  go_ret
  exact ⟨rfl, rfl⟩
end Go.Proofs.Ytgikfliibimkdaa
