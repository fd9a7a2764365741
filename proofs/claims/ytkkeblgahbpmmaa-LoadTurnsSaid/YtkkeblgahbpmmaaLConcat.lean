
/- Contracts: slices.Grow and slices.Concat at pieces and at eyes. -/
import Derived.Test.YtkkeblgahbpmmaaLTurn
import Derived.Lib.AppendZeros
import Derived.Deep.Upon
namespace Go.Proofs.Ytkkeblgahbpmmaa
open Go.RowKit

theorem wpList_append_sl {P : Program} {w : World} {ops : Array Oper} {rest : List Oper} {o : Oper} {a : Act} {Q : Exit → Act → World → Prop} (hgd : o.guard = none) (s x : Operand) (t : TypeId)
    (ho : o.op = .call { callee := .builtin .append, args := #[s, x], argTypes := #[t, t] })
    (base : Nat) (e : TypeId) (i : TypeInfo) (z : Value) (size bytes : Nat) (ht : P.underlying t = some (.slice e)) (hi : P.info? e = some i) (hz : i.zero = some z)
    (hsize : i.size = size) (hby : i.bytes = bytes) (hzs : z.cells.size = size) (hsz : 0 < size)
    (v : Value) (n : Nat) (xs : List Value) (hs : a.eval s = v) (hown : w.ownsRow base e size v n xs)
    (A : Option Addr) (m c : Nat) (news : List Value) (hx : a.eval x = .slice A m c) (hl : news.length = m * size) (hA : (A = none ∧ m = 0) ∨ ∃ ad, A = some ad ∧ ∀ j u, news[j]? = some u → w.cell? (ad.add j) = some u) (h1 : ∀ u ∈ news, u.oneCell' = true)
    (h63 : n + m ≤ maxLen) (hbytes : (n + m) * bytes ≤ 140737488355328) (hbase : base ≤ w.heap.size)
    (h : ∀ v' w', w'.ownsRow base e size v' (n + m) (xs ++ news) → w.grownBy w' v.ownBlock → wpList P ops Q rest (a.put o.dst v') w') : wpList P ops Q (o :: rest) a w := by
  rcases hA with ⟨rfl, rfl⟩ | ⟨ad, rfl, hc⟩
  · have hnil : news = [] := List.eq_nil_of_length_eq_zero (by simpa using hl)
    subst hnil
    obtain ⟨A0, c0, hv, hle⟩ : ∃ (A0 : Option Addr) (c0 : Nat), v = .slice A0 n c0 ∧ n ≤ c0 := by
      rcases hown.2 with ⟨rfl, rfl⟩ | ⟨g, cp, _, rfl, _, _, hle, _⟩
      · exact ⟨none, 0, rfl, Nat.le_refl _⟩
      · exact ⟨_, cp, rfl, hle⟩
    have hrun := run_append_nothing (P := P) w t t o.type e i ht hi A0 n c0 hle (.slice none 0 c) (Src.ofNil w ht c)
    have hK := h v w (by simpa using hown) ⟨rfl, rfl, rfl, Nat.le_refl _, fun _ _ _ => rfl⟩
    rw [hv] at hs hK
    exact Lib.wpList_append_run w hgd s x t t ho _ _ hs hx _ _ hrun hK
  · exact wpList_append_own w hgd s x t ho base e i z size bytes ht hi hz hsize hby hzs hsz v n xs hs hown ad m c news hx hl hc h1 h63 hbytes hbase (fun v' w' a b _ => h v' w' a b)
theorem zeroCells_size (z : Array Value) (n : Nat) : (Builtin.zeroCells z n).size = n * z.size := by
  unfold Builtin.zeroCells
  simp
/-- where a slice's cells lie -/
theorem Sl.srcA {α : Type} {enc : α → List Value} {k : Nat} (hk0 : 0 < k) (hk : ∀ x, (enc x).length = k) {R : World → List Value → α → Prop} (hR : ∀ w cs x, R w cs x → cs = enc x) {w : World} {A : Option Addr} {n c : Nat} {l : List α} (h : Sl k R w (.slice A n c) l) :
    (A = Option.none ∧ l.length = 0) ∨ ∃ ad, A = some ad ∧ ∀ j u, (l.map enc).flatten[j]? = some u → w.cell? (ad.add j) = some u := by
  cases A with
  | none =>
    left
    refine ⟨rfl, ?_⟩
    cases l with
    | nil => rfl
    | cons a l =>
      obtain ⟨_, _, _, h9, _⟩ := h.at (i := 0) (x := a) rfl
      cases h9
  | some a => exact .inr ⟨a, rfl, h.flat hk0 hk hR⟩
set_option maxRecDepth 100000 in
set_option maxHeartbeats 1600000 in
theorem growPiece_c (n : Nat) (w : World) (hn : n ≤ 1000) :
    Calls Try.prog 68 #[.slice none 0 0, .int .i64 n] w fun e w' => ∃ v', e = .returned v' ∧ OwnR pieceCs 7 64 w.heap.size w' v' [] ∧ Ext w w' := by
  obtain ⟨i1, hi1, hi10, hi11, hi12⟩ := info_partsL infoPiece
  have e0 := IntWalk.i64_in ((n : Int) - 0) (by omega)
  by_cases h0 : 0 < n
  · have hg : 0 < (n : Int) := by omega
    have hrun := fun w => Lib.run_append_nil_zeros (P := Try.prog) w 22 3 22 64 i1 _ .i64 .i64 Try.underlying22 Try.underlying3 hi1 hi10 n h0 (by rw [hi11]; decide) (by omega) (by rw [hi12]; omega)
    have hge := grownCap_ge w n 0 64
    have hle := grownCap_le_maxLen w n 0 64 (by unfold maxLen; omega)
    have HR := Lib.hid (And.intro hge hle)
    have hcap0 : ¬ grownCap w n 0 64 = 0 := by omega
    have hcb : grownCap w n 0 64 ≤ 9223372036854775807 := by unfold maxLen at hle; omega
    clear hge hle
    go_enter Try.func68, Try.ntmps68
    go_wp2_with (at_builtin; refine Lib.wpList_append_run _ rfl _ _ _ _ rfl _ _ rfl rfl _ _ (hrun _) ?_)
    go_ret
    refine ⟨_, rfl, ?_, ((Ext.refl w).drew).alloc _⟩
    refine ⟨by simp, .inr ⟨w.heap.size, grownCap w n 0 64, _, rfl, Nat.le_refl _, World.alloc_heap_new w.drew _, by simp, HR.out.2, ?_, by simp⟩⟩
    have hc := HR.out.1
    rw [Array.size_append, zeroCells_size, zeroCells_size, ← Nat.add_mul, Nat.add_sub_cancel' hc]
    rfl
  · have hn0 : n = 0 := by omega
    subst hn0
    clear hi1 hi10 hi11 hi12
    go_enter Try.func68, Try.ntmps68
    go_wp2
    go_ret
    exact ⟨_, rfl, OwnR.nil, Ext.refl _⟩
set_option maxRecDepth 100000 in
set_option maxHeartbeats 3200000 in
theorem concatPiece_c (b : Nat) (v1 v2 : Value) (l1 l2 : List LPiece) (w : World) (h1 : Sl 7 RPiece w v1 l1) (h2 : Sl 7 RPiece w v2 l2) (hb1 : w.cell? ⟨b, 0, none⟩ = some v1) (hb2 : w.cell? ⟨b, 1, none⟩ = some v2) (hn : l1.length ≤ 64) (hm : l2.length ≤ 64) :
    Calls Try.prog 38 #[.slice (some ⟨b, 0, none⟩) 2 2] w fun e w' => ∃ v', e = .returned v' ∧ OwnR pieceCs 7 64 w.heap.size w' v' (l1 ++ l2) ∧ Ext w w' := by
  obtain ⟨i1, hi1, hi10, hi11, hi12⟩ := info_partsL infoPiece
  obtain ⟨A1, c1, rfl, hl1, hl2⟩ := h1.shape
  obtain ⟨A2, c2, rfl, hm1, hm2⟩ := h2.shape
  have H1 := Lib.hid h1
  have H2 := Lib.hid h2
  have hbl := lt_of_cell hb1
  have G := growPiece_c (l1.length + l2.length) w (by omega)
  rw [Int.natCast_add] at G
  replace G := Lib.hid G
  clear h1 h2
  have e1 := IntWalk.i64_in (0 + (l1.length : Int)) (by omega)
  have e2 := IntWalk.i64_in ((l1.length : Int) + (l2.length : Int)) (by omega)
  go_enter Try.func38, Try.ntmps38
  go_wp2
  go_loopw [3, 11] (fun s i wr => ∃ k : Nat, k ≤ 2 ∧ i = .int .i64 k ∧ w = wr ∧ s = .int .i64 (if k = 0 then 0 else if k = 1 then (l1.length : Int) else (l1.length : Int) + l2.length)) (fun _ i _ => 2 - (intOf i).toNat)
  case atStart => exact ⟨0, by omega, rfl, rfl, rfl⟩
  case round =>
    obtain ⟨k, hk, rfl, rfl, rfl⟩ := hrel
    rcases (show k = 0 ∨ k = 1 ∨ k = 2 by omega) with rfl | rfl | rfl
    · simp only [if_true]
      go_wp2
      exact ⟨⟨1, by omega, by go_num, (by trivial), (by first | rfl | simp)⟩, by simp [intOf]⟩
    · simp only [Nat.one_ne_zero, if_false, if_true]
      go_wp2
      exact ⟨⟨2, by omega, by go_num, (by trivial), (by first | rfl | simp)⟩, by simp [intOf]⟩
    · simp only [Nat.reduceEqDiff, if_false]
      clear e1 e2
      have HB := Lib.hid (And.intro hb1 hb2)
      go_wp2_with (go_at_call 68; refine G.out.mono ?_; rintro e w2 ⟨v0, rfl, o2, h2⟩; have d1 := h2.cell hb1; have d2 := h2.cell hb2)
      have HD := Lib.hid (And.intro o2 (And.intro h2 (And.intro d1 d2)))
      clear o2 h2 d1 d2 hb1 hb2 G
      go_loopw [6, 27] (fun s i wr => ∃ k : Nat, k ≤ 2 ∧ i = .int .i64 k ∧ Ext w wr ∧ OwnR pieceCs 7 64 w.heap.size wr s (if k = 0 then [] else if k = 1 then l1 else l1 ++ l2)) (fun _ i _ => 2 - (intOf i).toNat)
      case atStart => exact ⟨0, by omega, rfl, HD.out.2.1, HD.out.1⟩
      case round =>
        obtain ⟨k, hk, rfl, r1, r2⟩ := hrel
        have R1 := Lib.hid r1
        rcases (show k = 0 ∨ k = 1 ∨ k = 2 by omega) with rfl | rfl | rfl
        · simp only [if_true] at r2
          obtain ⟨A9, c9, rfl, _, _⟩ := r2.shape
          have R2 := Lib.hid r2
          have b1 := r1.cell HB.out.1
          have hbw := lt_of_cell b1
          have hsz := r1.size
          clear r1 r2
          go_wp2_with (at_builtin; refine wpList_append_sl rfl _ _ 22 rfl w.heap.size 64 i1 _ 7 56 Try.underlying22 hi1 hi10 hi11 hi12 rfl (by omega) _ _ _ rfl R2.out A1 l1.length c1 (l1.map pieceCs).flatten rfl (fl_len pieceCs_len l1) ((H1.out.ext RPiece.stable R1.out).srcA (by decide) pieceCs_len (fun _ _ _ h => h)) (pieceCs_one l1) (by unfold maxLen; first | omega | (simp; omega)) (by first | omega | (simp; omega)) hsz ?_; intro v' w4 hown4 hgrow4)
          have h9 : OwnR pieceCs 7 64 w.heap.size w4 v' (l1) := by simpa [OwnR] using hown4
          have E9 := Ext.grown R1.out hgrow4 (fun k hk => own_ge R2.out k hk)
          exact ⟨⟨1, by omega, by go_num, E9, h9⟩, by simp [intOf]⟩
        · simp only [Nat.one_ne_zero, if_false, if_true] at r2
          obtain ⟨A9, c9, rfl, _, _⟩ := r2.shape
          have R2 := Lib.hid r2
          have b1 := r1.cell HB.out.2
          have hbw := lt_of_cell b1
          have hsz := r1.size
          clear r1 r2
          go_wp2_with (at_builtin; refine wpList_append_sl rfl _ _ 22 rfl w.heap.size 64 i1 _ 7 56 Try.underlying22 hi1 hi10 hi11 hi12 rfl (by omega) _ _ _ rfl R2.out A2 l2.length c2 (l2.map pieceCs).flatten rfl (fl_len pieceCs_len l2) ((H2.out.ext RPiece.stable R1.out).srcA (by decide) pieceCs_len (fun _ _ _ h => h)) (pieceCs_one l2) (by unfold maxLen; first | omega | (simp; omega)) (by first | omega | (simp; omega)) hsz ?_; intro v' w4 hown4 hgrow4)
          have h9 : OwnR pieceCs 7 64 w.heap.size w4 v' (l1 ++ l2) := by simpa [OwnR] using hown4
          have E9 := Ext.grown R1.out hgrow4 (fun k hk => own_ge R2.out k hk)
          exact ⟨⟨2, by omega, by go_num, E9, h9⟩, by simp [intOf]⟩
        · simp only [Nat.reduceEqDiff, if_false] at r2
          have R2 := Lib.hid r2
          go_wp2
          go_ret
          exact ⟨_, rfl, R2.out, R1.out⟩
set_option maxRecDepth 100000 in
set_option maxHeartbeats 1600000 in
theorem growEye_c (n : Nat) (w : World) (hn : n ≤ 1000) :
    Calls Try.prog 69 #[.slice none 0 0, .int .i64 n] w fun e w' => ∃ v', e = .returned v' ∧ OwnR eyeCs 4 66 w.heap.size w' v' [] ∧ Ext w w' := by
  obtain ⟨i1, hi1, hi10, hi11, hi12⟩ := info_partsL infoEye
  have e0 := IntWalk.i64_in ((n : Int) - 0) (by omega)
  by_cases h0 : 0 < n
  · have hg : 0 < (n : Int) := by omega
    have hrun := fun w => Lib.run_append_nil_zeros (P := Try.prog) w 23 3 23 66 i1 _ .i64 .i64 Try.underlying23 Try.underlying3 hi1 hi10 n h0 (by rw [hi11]; decide) (by omega) (by rw [hi12]; omega)
    have hge := grownCap_ge w n 0 66
    have hle := grownCap_le_maxLen w n 0 66 (by unfold maxLen; omega)
    have HR := Lib.hid (And.intro hge hle)
    have hcap0 : ¬ grownCap w n 0 66 = 0 := by omega
    have hcb : grownCap w n 0 66 ≤ 9223372036854775807 := by unfold maxLen at hle; omega
    clear hge hle
    go_enter Try.func69, Try.ntmps69
    go_wp2_with (at_builtin; refine Lib.wpList_append_run _ rfl _ _ _ _ rfl _ _ rfl rfl _ _ (hrun _) ?_)
    go_ret
    refine ⟨_, rfl, ?_, ((Ext.refl w).drew).alloc _⟩
    refine ⟨by simp, .inr ⟨w.heap.size, grownCap w n 0 66, _, rfl, Nat.le_refl _, World.alloc_heap_new w.drew _, by simp, HR.out.2, ?_, by simp⟩⟩
    have hc := HR.out.1
    rw [Array.size_append, zeroCells_size, zeroCells_size, ← Nat.add_mul, Nat.add_sub_cancel' hc]
    rfl
  · have hn0 : n = 0 := by omega
    subst hn0
    clear hi1 hi10 hi11 hi12
    go_enter Try.func69, Try.ntmps69
    go_wp2
    go_ret
    exact ⟨_, rfl, OwnR.nil, Ext.refl _⟩
set_option maxRecDepth 100000 in
set_option maxHeartbeats 3200000 in
theorem concatEye_c (b : Nat) (v1 v2 : Value) (l1 l2 : List LEye) (w : World) (h1 : Sl 4 REye w v1 l1) (h2 : Sl 4 REye w v2 l2) (hb1 : w.cell? ⟨b, 0, none⟩ = some v1) (hb2 : w.cell? ⟨b, 1, none⟩ = some v2) (hn : l1.length ≤ 64) (hm : l2.length ≤ 64) :
    Calls Try.prog 39 #[.slice (some ⟨b, 0, none⟩) 2 2] w fun e w' => ∃ v', e = .returned v' ∧ OwnR eyeCs 4 66 w.heap.size w' v' (l1 ++ l2) ∧ Ext w w' := by
  obtain ⟨i1, hi1, hi10, hi11, hi12⟩ := info_partsL infoEye
  obtain ⟨A1, c1, rfl, hl1, hl2⟩ := h1.shape
  obtain ⟨A2, c2, rfl, hm1, hm2⟩ := h2.shape
  have H1 := Lib.hid h1
  have H2 := Lib.hid h2
  have hbl := lt_of_cell hb1
  have G := growEye_c (l1.length + l2.length) w (by omega)
  rw [Int.natCast_add] at G
  replace G := Lib.hid G
  clear h1 h2
  have e1 := IntWalk.i64_in (0 + (l1.length : Int)) (by omega)
  have e2 := IntWalk.i64_in ((l1.length : Int) + (l2.length : Int)) (by omega)
  go_enter Try.func39, Try.ntmps39
  go_wp2
  go_loopw [3, 11] (fun s i wr => ∃ k : Nat, k ≤ 2 ∧ i = .int .i64 k ∧ w = wr ∧ s = .int .i64 (if k = 0 then 0 else if k = 1 then (l1.length : Int) else (l1.length : Int) + l2.length)) (fun _ i _ => 2 - (intOf i).toNat)
  case atStart => exact ⟨0, by omega, rfl, rfl, rfl⟩
  case round =>
    obtain ⟨k, hk, rfl, rfl, rfl⟩ := hrel
    rcases (show k = 0 ∨ k = 1 ∨ k = 2 by omega) with rfl | rfl | rfl
    · simp only [if_true]
      go_wp2
      exact ⟨⟨1, by omega, by go_num, (by trivial), (by first | rfl | simp)⟩, by simp [intOf]⟩
    · simp only [Nat.one_ne_zero, if_false, if_true]
      go_wp2
      exact ⟨⟨2, by omega, by go_num, (by trivial), (by first | rfl | simp)⟩, by simp [intOf]⟩
    · simp only [Nat.reduceEqDiff, if_false]
      clear e1 e2
      have HB := Lib.hid (And.intro hb1 hb2)
      go_wp2_with (go_at_call 69; refine G.out.mono ?_; rintro e w2 ⟨v0, rfl, o2, h2⟩; have d1 := h2.cell hb1; have d2 := h2.cell hb2)
      have HD := Lib.hid (And.intro o2 (And.intro h2 (And.intro d1 d2)))
      clear o2 h2 d1 d2 hb1 hb2 G
      go_loopw [6, 27] (fun s i wr => ∃ k : Nat, k ≤ 2 ∧ i = .int .i64 k ∧ Ext w wr ∧ OwnR eyeCs 4 66 w.heap.size wr s (if k = 0 then [] else if k = 1 then l1 else l1 ++ l2)) (fun _ i _ => 2 - (intOf i).toNat)
      case atStart => exact ⟨0, by omega, rfl, HD.out.2.1, HD.out.1⟩
      case round =>
        obtain ⟨k, hk, rfl, r1, r2⟩ := hrel
        have R1 := Lib.hid r1
        rcases (show k = 0 ∨ k = 1 ∨ k = 2 by omega) with rfl | rfl | rfl
        · simp only [if_true] at r2
          obtain ⟨A9, c9, rfl, _, _⟩ := r2.shape
          have R2 := Lib.hid r2
          have b1 := r1.cell HB.out.1
          have hbw := lt_of_cell b1
          have hsz := r1.size
          clear r1 r2
          go_wp2_with (at_builtin; refine wpList_append_sl rfl _ _ 23 rfl w.heap.size 66 i1 _ 4 32 Try.underlying23 hi1 hi10 hi11 hi12 rfl (by omega) _ _ _ rfl R2.out A1 l1.length c1 (l1.map eyeCs).flatten rfl (fl_len eyeCs_len l1) ((H1.out.ext REye.stable R1.out).srcA (by decide) eyeCs_len (fun _ _ _ h => h)) (eyeCs_one l1) (by unfold maxLen; first | omega | (simp; omega)) (by first | omega | (simp; omega)) hsz ?_; intro v' w4 hown4 hgrow4)
          have h9 : OwnR eyeCs 4 66 w.heap.size w4 v' (l1) := by simpa [OwnR] using hown4
          have E9 := Ext.grown R1.out hgrow4 (fun k hk => own_ge R2.out k hk)
          exact ⟨⟨1, by omega, by go_num, E9, h9⟩, by simp [intOf]⟩
        · simp only [Nat.one_ne_zero, if_false, if_true] at r2
          obtain ⟨A9, c9, rfl, _, _⟩ := r2.shape
          have R2 := Lib.hid r2
          have b1 := r1.cell HB.out.2
          have hbw := lt_of_cell b1
          have hsz := r1.size
          clear r1 r2
          go_wp2_with (at_builtin; refine wpList_append_sl rfl _ _ 23 rfl w.heap.size 66 i1 _ 4 32 Try.underlying23 hi1 hi10 hi11 hi12 rfl (by omega) _ _ _ rfl R2.out A2 l2.length c2 (l2.map eyeCs).flatten rfl (fl_len eyeCs_len l2) ((H2.out.ext REye.stable R1.out).srcA (by decide) eyeCs_len (fun _ _ _ h => h)) (eyeCs_one l2) (by unfold maxLen; first | omega | (simp; omega)) (by first | omega | (simp; omega)) hsz ?_; intro v' w4 hown4 hgrow4)
          have h9 : OwnR eyeCs 4 66 w.heap.size w4 v' (l1 ++ l2) := by simpa [OwnR] using hown4
          have E9 := Ext.grown R1.out hgrow4 (fun k hk => own_ge R2.out k hk)
          exact ⟨⟨2, by omega, by go_num, E9, h9⟩, by simp [intOf]⟩
        · simp only [Nat.reduceEqDiff, if_false] at r2
          have R2 := Lib.hid r2
          go_wp2
          go_ret
          exact ⟨_, rfl, R2.out, R1.out⟩
end Go.Proofs.Ytkkeblgahbpmmaa
