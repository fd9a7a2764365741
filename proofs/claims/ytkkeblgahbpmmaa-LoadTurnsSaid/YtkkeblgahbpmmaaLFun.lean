
/- The changes of pieces and eyes: what the functions that load.changed is given do to an element of a row of the call's own. -/
import Derived.Test.YtkkeblgahbpmmaaLRow
namespace Go.Proofs.Ytkkeblgahbpmmaa
open Go.RowKit

/-- a function value changes an element of a row -/
def Chg {α : Type} (enc : α → List Value) (k : Nat) (e : TypeId) (fid : Nat) (caps : Array Value) (f : α → α) (w0 : World) (ok : α → Prop) : Prop :=
  ∀ (W : World) (base g c n i : Nat) (l : List α) (x : α), Ext w0 W → w0.heap.size ≤ g → OwnR enc k e base W (.slice (some ⟨g, 0, none⟩) n c) l → l[i]? = some x → ok x →
    Calls Try.prog fid (#[.pointer (some ⟨g, i * k, none⟩)] ++ caps) W fun r w' => r = .returned (.tuple #[]) ∧ W.grownBy w' (some g) ∧ OwnR enc k e base w' (.slice (some ⟨g, 0, none⟩) n c) (l.set i (f x))
theorem set_same {α : Type} {l : List α} {i : Nat} {x : α} (h : l[i]? = some x) : l.set i x = l := by
  obtain ⟨hi, rfl⟩ := List.getElem?_eq_some_iff.1 h
  exact List.set_getElem_self hi
theorem grown_refl (W : World) (r : Option Nat) : W.grownBy W r := ⟨rfl, rfl, rfl, Nat.le_refl _, fun _ _ _ => rfl⟩
theorem grown_set {W W' : World} {g o : Nat} (h : W.grownBy W' (some g)) (u : Value) : W.grownBy (W'.setCell ⟨g, o, none⟩ u) (some g) := ⟨h.os, h.tape, h.output, by rw [size_setCell]; exact h.size, fun k hk hne => (Below.heap_setCell W' ⟨g, o, none⟩ u k (fun e => hne (by rw [e]))).trans (h.block k hk hne)⟩
theorem grown_ext {W W' W'' : World} {r : Option Nat} (h : W.grownBy W' r) (he : Ext W' W'') : W.grownBy W'' r :=
  ⟨he.os.trans h.os, he.tape.trans h.tape, he.output.trans h.output, Nat.le_trans h.size he.size, fun k hk hne => (he.block k (Nat.lt_of_lt_of_le hk h.size)).trans (h.block k hk hne)⟩
theorem grown_drew {W W' : World} {r : Option Nat} (h : W.grownBy W' r) : W.grownBy W'.drew r := grown_ext h ((Ext.refl _).drew)
theorem Ext.grow {w W W' : World} {g : Nat} (h : Ext w W) (hg : W.grownBy W' (some g)) (hr : w.heap.size ≤ g) : Ext w W' := h.grown hg (fun k e => by cases e; exact hr)
theorem joined1_c (w0 : World) (ok : LPiece → Prop) : Chg pieceCs 7 64 40 #[] (fun x => x) w0 ok := by
  intro W base g c n i l x _ _ h hi _
  go_enter Try.func40, Try.ntmps40
  go_wp2
  go_end0
  exact ⟨rfl, grown_refl _ _, by rw [set_same hi]; exact h⟩
theorem joined2_c (w0 : World) (ok : LEye → Prop) : Chg eyeCs 4 66 41 #[] (fun x => x) w0 ok := by
  intro W base g c n i l x _ _ h hi _
  go_enter Try.func41, Try.ntmps41
  go_wp2
  go_end0
  exact ⟨rfl, grown_refl _ _, by rw [set_same hi]; exact h⟩
def quarterE (e : LEye) : LEye := { e with x := -e.y, y := e.x }
def shiftE (d1 d2 d3 : Int) (p : LEye) : LEye := { p with x := p.x + d1, y := p.y + d2, z := p.z + d3 }
def turnL : Nat → LPiece → LPiece
  | 0, p => p
  | n + 1, p => quarterP (turnL n p)
def turnM : Nat → LEye → LEye
  | 0, p => p
  | n + 1, p => quarterE (turnM n p)
theorem quarter_ok {p : LPiece} (h : pieceB p = true) : pieceB (quarterP p) = true := by
  obtain ⟨ha, hb, hc, hl, hw, hh, hm⟩ := piece_bds h
  unfold pieceB sideB quarterP inB
  simp only [Bool.and_eq_true, decide_eq_true_eq]
  omega
theorem eye_bds {e : LEye} (h : eyeB e = true) : (-131072 ≤ e.x ∧ e.x ≤ 131072) ∧ (-131072 ≤ e.y ∧ e.y ≤ 131072) ∧ (0 ≤ e.z ∧ e.z ≤ 131072) ∧ (0 ≤ e.strength ∧ e.strength ≤ 4194304) := by
  unfold eyeB inB at h
  simp only [Bool.and_eq_true, decide_eq_true_eq] at h
  omega
theorem quarterE_ok {p : LEye} (h : eyeB p = true) : eyeB (quarterE p) = true := by
  obtain ⟨ha, hb, hc, hl⟩ := eye_bds h
  unfold eyeB quarterE inB
  simp only [Bool.and_eq_true, decide_eq_true_eq]
  omega
theorem turn_ok {p : LPiece} (h : pieceB p = true) : ∀ n, pieceB (turnL n p) = true
  | 0 => h
  | n + 1 => quarter_ok (turn_ok h n)
theorem turnE_ok {p : LEye} (h : eyeB p = true) : ∀ n, eyeB (turnM n p) = true
  | 0 => h
  | n + 1 => quarterE_ok (turnE_ok h n)
theorem set_get {α : Type} {l : List α} {i : Nat} (x : α) (hi : i < l.length) : (l.set i x)[i]? = some x := by rw [List.getElem?_set_self hi]
set_option maxRecDepth 100000 in
set_option maxHeartbeats 3200000 in
theorem turned1_c (w0 : World) (nb N : Nat) (hN : N ≤ 3) (hn : w0.cell? ⟨nb, 0, none⟩ = some (.int .i64 N)) : Chg pieceCs 7 64 30 #[.pointer (some ⟨nb, 0, none⟩)] (turnL N) w0 (fun x => pieceB x = true) := by
  intro W base g c n i l x hE hg h hi hx
  have c9 := hE.cell hn
  have H := Lib.hid (And.intro h hi)
  have HX := Lib.hid (turn_ok hx)
  have hil := lt_of_some hi
  clear h hi hx hn
  go_enter Try.func30, Try.ntmps30
  go_wp2
  go_loopw [4] (fun s wr => ∃ t : Nat, t ≤ N ∧ s = .int .i64 t ∧ W.grownBy wr (some g) ∧ OwnR pieceCs 7 64 base wr (.slice (some ⟨g, 0, none⟩) n c) (l.set i (turnL t x))) (fun s _ => N - (intOf s).toNat)
  case atStart => exact ⟨0, by omega, rfl, grown_refl _ _, by show OwnR _ _ _ _ _ _ (l.set i x); rw [set_same H.out.2]; exact H.out.1⟩
  case round =>
    obtain ⟨t, ht, rfl, r1, r2⟩ := hrel
    have R := Lib.hid (And.intro r1 r2)
    clear r1 r2
    by_cases hlt : t < N
    · obtain ⟨ha, hb, hc, hl, hw, hh, hm⟩ := piece_bds (HX.out t)
      have hT := Lib.hid (show turnL (t + 1) x = quarterP (turnL t x) from rfl)
      have hr := R.out.2
      generalize turnL t x = p at *
      have hp := set_get (l := l) p hil
      obtain ⟨c0, f0⟩ := OwnR.cell pieceCs_len hr hp (j := 0) (u := .int .i64 p.x) rfl
      obtain ⟨c1, f1⟩ := OwnR.cell pieceCs_len hr hp (j := 1) (u := .int .i64 p.y) rfl
      obtain ⟨c3, f3⟩ := OwnR.cell pieceCs_len hr hp (j := 3) (u := .int .i64 p.l) rfl
      obtain ⟨c4, f4⟩ := OwnR.cell pieceCs_len hr hp (j := 4) (u := .int .i64 p.w) rfl
      simp only [Nat.add_zero] at c0 f0
      have e1 := IntWalk.i64_in (-p.y) (by omega)
      have e2 := IntWalk.i64_in (-p.y - p.w) (by omega)
      have b0 := lt_of_cell c0
      clear hr ha hb hc hl hw hh hm c9 b0
      go_wp2
      go_region
      go_wp2
      have O0 := R.out.2
      have hil0 : i < (l.set i p).length := by rw [List.length_set]; exact hil
      have O1 := OwnR.set pieceCs_len O0 hp (j := 0) (by decide) (u := .int .i64 (-p.y - p.w)) (y := { p with x := -p.y - p.w }) rfl
      rw [List.set_set, Nat.add_zero] at O1
      have O2 := OwnR.set pieceCs_len O1 (set_get _ hil) (j := 1) (by decide) (u := .int .i64 p.x) (y := { p with x := -p.y - p.w, y := p.x }) rfl
      rw [List.set_set] at O2
      have O3 := OwnR.set pieceCs_len O2 (set_get _ hil) (j := 3) (by decide) (u := .int .i64 p.w) (y := { p with x := -p.y - p.w, y := p.x, l := p.w }) rfl
      rw [List.set_set] at O3
      have O4 := OwnR.set pieceCs_len O3 (set_get _ hil) (j := 4) (by decide) (u := .int .i64 p.l) (y := { p with x := -p.y - p.w, y := p.x, l := p.w, w := p.l }) rfl
      rw [List.set_set] at O4
      go_roundw
      case rel => exact ⟨t + 1, by omega, by go_num, grown_drew (grown_set (grown_set (grown_set (grown_set R.out.1 _) _) _) _), by rw [hT.out]; exact O4⟩
      case measure => simp [intOf]; omega
    · have htN : t = N := by omega
      subst htN
      go_wp2
      go_end0
      exact ⟨rfl, R.out.1, R.out.2⟩
set_option maxRecDepth 100000 in
set_option maxHeartbeats 3200000 in
theorem turned2_c (w0 : World) (nb N : Nat) (hN : N ≤ 3) (hn : w0.cell? ⟨nb, 0, none⟩ = some (.int .i64 N)) : Chg eyeCs 4 66 31 #[.pointer (some ⟨nb, 0, none⟩)] (turnM N) w0 (fun x => eyeB x = true) := by
  intro W base g c n i l x hE hg h hi hx
  have c9 := hE.cell hn
  have H := Lib.hid (And.intro h hi)
  have HX := Lib.hid (turnE_ok hx)
  have hil := lt_of_some hi
  clear h hi hx hn
  go_enter Try.func31, Try.ntmps31
  go_wp2
  go_loopw [4] (fun s wr => ∃ t : Nat, t ≤ N ∧ s = .int .i64 t ∧ W.grownBy wr (some g) ∧ OwnR eyeCs 4 66 base wr (.slice (some ⟨g, 0, none⟩) n c) (l.set i (turnM t x))) (fun s _ => N - (intOf s).toNat)
  case atStart => exact ⟨0, by omega, rfl, grown_refl _ _, by show OwnR _ _ _ _ _ _ (l.set i x); rw [set_same H.out.2]; exact H.out.1⟩
  case round =>
    obtain ⟨t, ht, rfl, r1, r2⟩ := hrel
    have R := Lib.hid (And.intro r1 r2)
    clear r1 r2
    by_cases hlt : t < N
    · obtain ⟨ha, hb, hc, hl⟩ := eye_bds (HX.out t)
      have hT := Lib.hid (show turnM (t + 1) x = quarterE (turnM t x) from rfl)
      have hr := R.out.2
      generalize turnM t x = p at *
      have hp := set_get (l := l) p hil
      obtain ⟨c0, f0⟩ := OwnR.cell eyeCs_len hr hp (j := 0) (u := .int .i64 p.x) rfl
      obtain ⟨c1, f1⟩ := OwnR.cell eyeCs_len hr hp (j := 1) (u := .int .i64 p.y) rfl
      simp only [Nat.add_zero] at c0 f0
      have e1 := IntWalk.i64_in (-p.y) (by omega)
      clear hr ha hb hc hl c9
      go_wp2
      go_region
      go_wp2
      have O0 := R.out.2
      have hil0 : i < (l.set i p).length := by rw [List.length_set]; exact hil
      have O1 := OwnR.set eyeCs_len O0 hp (j := 0) (by decide) (u := .int .i64 (-p.y)) (y := { p with x := -p.y }) rfl
      rw [List.set_set, Nat.add_zero] at O1
      have O2 := OwnR.set eyeCs_len O1 (set_get _ hil) (j := 1) (by decide) (u := .int .i64 p.x) (y := { p with x := -p.y, y := p.x }) rfl
      rw [List.set_set] at O2
      go_roundw
      case rel => exact ⟨t + 1, by omega, by go_num, grown_drew (grown_set (grown_set R.out.1 _) _), by rw [hT.out]; exact O2⟩
      case measure => simp [intOf]; omega
    · have htN : t = N := by omega
      subst htN
      go_wp2
      go_end0
      exact ⟨rfl, R.out.1, R.out.2⟩
set_option maxRecDepth 100000 in
set_option maxHeartbeats 3200000 in
theorem shifted1_c (w0 : World) (n1 n2 n3 : Nat) (d1 d2 d3 : Int) (hd : (-262144 ≤ d1 ∧ d1 ≤ 262144) ∧ (-262144 ≤ d2 ∧ d2 ≤ 262144) ∧ (-262144 ≤ d3 ∧ d3 ≤ 262144)) (hn1 : w0.cell? ⟨n1, 0, none⟩ = some (.int .i64 d1)) (hn2 : w0.cell? ⟨n2, 0, none⟩ = some (.int .i64 d2)) (hn3 : w0.cell? ⟨n3, 0, none⟩ = some (.int .i64 d3)) :
    Chg pieceCs 7 64 35 #[.pointer (some ⟨n1, 0, none⟩), .pointer (some ⟨n2, 0, none⟩), .pointer (some ⟨n3, 0, none⟩)] (shiftP d1 d2 d3) w0 (fun x => pieceB x = true) := by
  intro W base g c n i l p hE hg h hi hx
  have a1 := hE.cell hn1
  have a2 := hE.cell hn2
  have a3 := hE.cell hn3
  obtain ⟨ha, hb, hc, hl, hw, hh, hm⟩ := piece_bds hx
  have hil := lt_of_some hi
  obtain ⟨c0, f0⟩ := OwnR.cell pieceCs_len h hi (j := 0) (u := .int .i64 p.x) rfl
  obtain ⟨c1, f1⟩ := OwnR.cell pieceCs_len h hi (j := 1) (u := .int .i64 p.y) rfl
  obtain ⟨c2, f2⟩ := OwnR.cell pieceCs_len h hi (j := 2) (u := .int .i64 p.z) rfl
  simp only [Nat.add_zero] at c0 f0
  have e1 := IntWalk.i64_in (p.x + d1) (by omega)
  have e2 := IntWalk.i64_in (p.y + d2) (by omega)
  have e3 := IntWalk.i64_in (p.z + d3) (by omega)
  have q1 : ¬ n1 = g := by have := lt_of_cell hn1; omega
  have q2 : ¬ n2 = g := by have := lt_of_cell hn2; omega
  have q3 : ¬ n3 = g := by have := lt_of_cell hn3; omega
  have H := Lib.hid (And.intro h hi)
  clear h hi hx hn1 hn2 hn3 ha hb hc hl hw hh hm hd
  go_enter Try.func35, Try.ntmps35
  go_region
  go_wp2
  have O1 := OwnR.set pieceCs_len H.out.1 H.out.2 (j := 0) (by decide) (u := .int .i64 (p.x + d1)) (y := { p with x := p.x + d1 }) rfl
  rw [Nat.add_zero] at O1
  have O2 := OwnR.set pieceCs_len O1 (set_get _ hil) (j := 1) (by decide) (u := .int .i64 (p.y + d2)) (y := { p with x := p.x + d1, y := p.y + d2 }) rfl
  rw [List.set_set] at O2
  have O3 := OwnR.set pieceCs_len O2 (set_get _ hil) (j := 2) (by decide) (u := .int .i64 (p.z + d3)) (y := { p with x := p.x + d1, y := p.y + d2, z := p.z + d3 }) rfl
  rw [List.set_set] at O3
  go_end0
  exact ⟨rfl, grown_drew (grown_set (grown_set (grown_set (grown_refl _ _) _) _) _), O3⟩
set_option maxRecDepth 100000 in
set_option maxHeartbeats 3200000 in
theorem shifted2_c (w0 : World) (n1 n2 n3 : Nat) (d1 d2 d3 : Int) (hd : (-262144 ≤ d1 ∧ d1 ≤ 262144) ∧ (-262144 ≤ d2 ∧ d2 ≤ 262144) ∧ (-262144 ≤ d3 ∧ d3 ≤ 262144)) (hn1 : w0.cell? ⟨n1, 0, none⟩ = some (.int .i64 d1)) (hn2 : w0.cell? ⟨n2, 0, none⟩ = some (.int .i64 d2)) (hn3 : w0.cell? ⟨n3, 0, none⟩ = some (.int .i64 d3)) :
    Chg eyeCs 4 66 36 #[.pointer (some ⟨n1, 0, none⟩), .pointer (some ⟨n2, 0, none⟩), .pointer (some ⟨n3, 0, none⟩)] (shiftE d1 d2 d3) w0 (fun x => eyeB x = true) := by
  intro W base g c n i l p hE hg h hi hx
  have a1 := hE.cell hn1
  have a2 := hE.cell hn2
  have a3 := hE.cell hn3
  obtain ⟨ha, hb, hc, hl⟩ := eye_bds hx
  have hil := lt_of_some hi
  obtain ⟨c0, f0⟩ := OwnR.cell eyeCs_len h hi (j := 0) (u := .int .i64 p.x) rfl
  obtain ⟨c1, f1⟩ := OwnR.cell eyeCs_len h hi (j := 1) (u := .int .i64 p.y) rfl
  obtain ⟨c2, f2⟩ := OwnR.cell eyeCs_len h hi (j := 2) (u := .int .i64 p.z) rfl
  simp only [Nat.add_zero] at c0 f0
  have e1 := IntWalk.i64_in (p.x + d1) (by omega)
  have e2 := IntWalk.i64_in (p.y + d2) (by omega)
  have e3 := IntWalk.i64_in (p.z + d3) (by omega)
  have q1 : ¬ n1 = g := by have := lt_of_cell hn1; omega
  have q2 : ¬ n2 = g := by have := lt_of_cell hn2; omega
  have q3 : ¬ n3 = g := by have := lt_of_cell hn3; omega
  have H := Lib.hid (And.intro h hi)
  clear h hi hx hn1 hn2 hn3 ha hb hc hl hd
  go_enter Try.func36, Try.ntmps36
  go_region
  go_wp2
  have O1 := OwnR.set eyeCs_len H.out.1 H.out.2 (j := 0) (by decide) (u := .int .i64 (p.x + d1)) (y := { p with x := p.x + d1 }) rfl
  rw [Nat.add_zero] at O1
  have O2 := OwnR.set eyeCs_len O1 (set_get _ hil) (j := 1) (by decide) (u := .int .i64 (p.y + d2)) (y := { p with x := p.x + d1, y := p.y + d2 }) rfl
  rw [List.set_set] at O2
  have O3 := OwnR.set eyeCs_len O2 (set_get _ hil) (j := 2) (by decide) (u := .int .i64 (p.z + d3)) (y := { p with x := p.x + d1, y := p.y + d2, z := p.z + d3 }) rfl
  rw [List.set_set] at O3
  go_end0
  exact ⟨rfl, grown_drew (grown_set (grown_set (grown_set (grown_refl _ _) _) _) _), O3⟩
end Go.Proofs.Ytkkeblgahbpmmaa
