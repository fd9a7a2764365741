
/- Contract: Envelope. -/
import Derived.Test.YtkkeblgahbpmmaaLCentre
import Derived.BigRegion
namespace Go.Proofs.Ytkkeblgahbpmmaa
open Go.RowKit

def minF (f : LPiece → Int) (p : LPiece) (l : List LPiece) : Int := l.foldl (fun m q => min m (f q)) (f p)
def maxF (f : LPiece → Int) (p : LPiece) (l : List LPiece) : Int := l.foldl (fun m q => max m (f q)) (f p)
theorem minF_snoc (f : LPiece → Int) (p : LPiece) {l : List LPiece} {k : Nat} {x : LPiece} (h : l[k]? = some x) : minF f p (l.take (k + 1)) = min (minF f p (l.take k)) (f x) := by
  unfold minF; rw [take_some h, List.foldl_append]; rfl
theorem maxF_snoc (f : LPiece → Int) (p : LPiece) {l : List LPiece} {k : Nat} {x : LPiece} (h : l[k]? = some x) : maxF f p (l.take (k + 1)) = max (maxF f p (l.take k)) (f x) := by
  unfold maxF; rw [take_some h, List.foldl_append]; rfl
theorem minF_le (f : LPiece → Int) : ∀ (l : List LPiece) (p : LPiece), minF f p l ≤ f p ∧ ∀ q ∈ l, minF f p l ≤ f q := by
  have key : ∀ (l : List LPiece) (m : Int), l.foldl (fun m q => min m (f q)) m ≤ m ∧ ∀ q ∈ l, l.foldl (fun m q => min m (f q)) m ≤ f q := by
    intro l
    induction l with
    | nil => intro m; exact ⟨Int.le_refl _, fun q hq => absurd hq (by simp)⟩
    | cons a l ih =>
      intro m
      obtain ⟨h1, h2⟩ := ih (min m (f a))
      refine ⟨by rw [List.foldl_cons]; omega, fun q hq => ?_⟩
      rw [List.foldl_cons]
      rcases List.mem_cons.1 hq with rfl | hq
      · omega
      · exact h2 q hq
  exact fun l p => key l (f p)
theorem le_maxF (f : LPiece → Int) : ∀ (l : List LPiece) (p : LPiece), f p ≤ maxF f p l ∧ ∀ q ∈ l, f q ≤ maxF f p l := by
  have key : ∀ (l : List LPiece) (m : Int), m ≤ l.foldl (fun m q => max m (f q)) m ∧ ∀ q ∈ l, f q ≤ l.foldl (fun m q => max m (f q)) m := by
    intro l
    induction l with
    | nil => intro m; exact ⟨Int.le_refl _, fun q hq => absurd hq (by simp)⟩
    | cons a l ih =>
      intro m
      obtain ⟨h1, h2⟩ := ih (max m (f a))
      refine ⟨by rw [List.foldl_cons]; omega, fun q hq => ?_⟩
      rw [List.foldl_cons]
      rcases List.mem_cons.1 hq with rfl | hq
      · omega
      · exact h2 q hq
  exact fun l p => key l (f p)
/-- the ends of the envelope of pieces: least, greatest, axis by axis -/
structure Env where
  a : Int
  b : Int
  c : Int
  d : Int
  e : Int
  f : Int
def envP (p0 : LPiece) (l : List LPiece) : Env := ⟨minF (fun p => p.x) p0 l, minF (fun p => p.y) p0 l, minF (fun p => p.z) p0 l, maxF (fun p => p.x + p.l) p0 l, maxF (fun p => p.y + p.w) p0 l, maxF (fun p => p.z + p.h) p0 l⟩
def envL : List LPiece → Env
  | [] => ⟨0, 0, 0, 0, 0, 0⟩
  | p :: l => envP p l
def Env.cs (v : Env) : Array Value := #[.int .i64 v.a, .int .i64 v.b, .int .i64 v.c, .int .i64 v.d, .int .i64 v.e, .int .i64 v.f]
def Env.step (v : Env) (x : LPiece) : Env := ⟨min v.a x.x, min v.b x.y, min v.c x.z, max v.d (x.x + x.l), max v.e (x.y + x.w), max v.f (x.z + x.h)⟩
def Env.upTo (v : Env) (x : LPiece) (j : Nat) : Env := ⟨if 1 ≤ j then min v.a x.x else v.a, if 2 ≤ j then min v.b x.y else v.b, if 3 ≤ j then min v.c x.z else v.c, if 1 ≤ j then max v.d (x.x + x.l) else v.d, if 2 ≤ j then max v.e (x.y + x.w) else v.e, if 3 ≤ j then max v.f (x.z + x.h) else v.f⟩
theorem env_snoc (p0 : LPiece) {l : List LPiece} {k : Nat} {x : LPiece} (h : l[k]? = some x) : envP p0 (l.take (k + 1)) = (envP p0 (l.take k)).step x := by
  unfold envP Env.step
  rw [minF_snoc _ _ h, minF_snoc _ _ h, minF_snoc _ _ h, maxF_snoc _ _ h, maxF_snoc _ _ h, maxF_snoc _ _ h]
def envR (l : LLoad) : Env := if loadE l = 0 then envL l.pieces else ⟨0, 0, 0, 0, 0, 0⟩
def envV (v : Env) (e : Int) : Value := .tuple #[.agg #[.int .i64 v.a, .int .i64 v.b, .int .i64 v.c], .agg #[.int .i64 v.d, .int .i64 v.e, .int .i64 v.f], .int .i64 e]
/-- what is behind the first element -/
theorem Sl.tail {α : Type} {n : Nat} {R : World → List Value → α → Prop} {w : World} {b off len cap : Nat} {x : α} {l : List α} (h : Sl n R w (.slice (some ⟨b, off, none⟩) len cap) (x :: l)) (c' : Nat) (hc : l.length ≤ c') : Sl n R w (.slice (some ⟨b, off + n, none⟩) l.length c') l := by
  have hs := h
  obtain ⟨A', cap', hv, h1, h2, h3⟩ := h
  refine ⟨_, c', rfl, by simp at h1; omega, hc, fun i y hi => ?_⟩
  obtain ⟨b', off', cs, hA, e1, e2, e3⟩ := hs.at (i := i + 1) (x := y) (by simpa using hi)
  simp only [Option.some.injEq, Addr.mk.injEq, and_true] at hA
  obtain ⟨rfl, rfl⟩ := hA
  refine ⟨_, _, cs, rfl, e1, e2, fun j c hj => ?_⟩
  have := e3 j c hj
  rwa [show off + n + i * n + j = off + (i + 1) * n + j by rw [Nat.add_mul]; omega]
theorem Sl.none {α : Type} {n : Nat} {R : World → List Value → α → Prop} {w : World} (A : Option Addr) (cap : Nat) : Sl n R w (.slice A 0 cap) ([] : List α) := ⟨A, cap, rfl, by simp, by simp, fun i x h => by simp at h⟩
set_option maxRecDepth 100000 in
set_option maxHeartbeats 6400000 in
theorem Envelope_c (l : LLoad) (vp ve : Value) (w : World) (hl : IsLoad w l vp ve) :
    Calls Try.prog 20 #[loadV l vp ve] w fun e w' => e = .returned (envV (envR l) (loadE l)) ∧ Ext w w' := by
  have C := Lib.hid (fun W (h : Ext w W) => LCheck_c l vp ve W (hl.ext h))
  have hok := @load_ok l
  have hs := hl.pieces
  obtain ⟨A, cap, rfl, hl1, hl2⟩ := hl.pieces.shape
  obtain ⟨B, cbp, rfl, hm1, hm2⟩ := hl.eyes.shape
  clear hl
  unfold envR
  unfold loadV at *
  generalize loadE l = E at *
  by_cases hE : E = 0
  · subst hE
    rw [if_pos rfl]
    have K := hok rfl
    have hv := K.pieces
    have hn1 := K.n1
    have hn2 := K.n2
    clear hok K
    generalize l.pieces = L at *
    obtain ⟨p0, rest, rfl⟩ : ∃ p0 rest, L = p0 :: rest := by
      rcases L with _ | ⟨a, r⟩
      · simp at hn1
      · exact ⟨a, r, rfl⟩

    unfold envL
    obtain ⟨b, off, cs, rfl, _, hr, hc⟩ := hs.at (i := 0) (x := p0) rfl
    obtain rfl : cs = [.int .i64 p0.x, .int .i64 p0.y, .int .i64 p0.z, .int .i64 p0.l, .int .i64 p0.w, .int .i64 p0.h, .int .i64 p0.mass] := hr
    have BO := fun p (hp : p ∈ p0 :: rest) W => boxOf_c p W (hv p hp)
    unfold pieceV boxV at BO
    replace BO := Lib.hid BO
    have HS := Lib.hid hs
    have HC := Lib.hid hc
    have hlen : (p0 :: rest).length = rest.length + 1 := rfl
    simp only [hlen] at *
    generalize hm : rest.length = m at *
    have HM := Lib.hid hm
    clear hs hc hv hlen hm
    go_enter Try.func20, Try.ntmps20
    go_upto_region 5 with (first
      | (go_at_call 21; refine (C.out _ ((((Ext.refl w).alloc _).alloc _).alloc _)).mono ?_; rintro e w2 ⟨rfl, h2⟩; have P2 := lb_ext (lb_alloc (lb_alloc (lb_new w _) _) _) h2; have d1 := lb_cell P2 1 _ rfl; have R2 := lb_ext (lb_alloc (lb_new _ _) _) h2; have S2 := lb_ext (lb_new _ _) h2; simp only [size_alloc] at R2 S2; have e2 := Ext.trans ((((Ext.refl w).alloc _).alloc _).alloc _) h2; clear h2; have c0 := e2.cell (HC.out 0 _ rfl); have c1 := e2.cell (HC.out 1 _ rfl); have c2 := e2.cell (HC.out 2 _ rfl); have c3 := e2.cell (HC.out 3 _ rfl); have c4 := e2.cell (HC.out 4 _ rfl); have c5 := e2.cell (HC.out 5 _ rfl); have c6 := e2.cell (HC.out 6 _ rfl); simp only [Nat.zero_mul, Nat.add_zero] at c0 c1 c2 c3 c4 c5 c6)
      | (go_at_call 44; refine (BO.out p0 (by simp) _).mono ?_; rintro e w3 ⟨rfl, h3⟩))
    have e4 := (e2.trans h3).alloc (.cells #[.int .i64 p0.x, .int .i64 p0.y, .int .i64 p0.z, .int .i64 (p0.x + p0.l), .int .i64 (p0.y + p0.w), .int .i64 (p0.z + p0.h)] 83)
    have T4 := lb_new w3 (.cells #[.int .i64 p0.x, .int .i64 p0.y, .int .i64 p0.z, .int .i64 (p0.x + p0.l), .int .i64 (p0.y + p0.w), .int .i64 (p0.z + p0.h)] 83)
    have R4 := lb_alloc (lb_ext R2 h3) (.cells #[.int .i64 p0.x, .int .i64 p0.y, .int .i64 p0.z, .int .i64 (p0.x + p0.l), .int .i64 (p0.y + p0.w), .int .i64 (p0.z + p0.h)] 83)
    have S4 := lb_alloc (lb_ext S2 h3) (.cells #[.int .i64 p0.x, .int .i64 p0.y, .int .i64 p0.z, .int .i64 (p0.x + p0.l), .int .i64 (p0.y + p0.w), .int .i64 (p0.z + p0.h)] 83)
    have P4 := lb_alloc (lb_ext P2 h3) (.cells #[.int .i64 p0.x, .int .i64 p0.y, .int .i64 p0.z, .int .i64 (p0.x + p0.l), .int .i64 (p0.y + p0.w), .int .i64 (p0.z + p0.h)] 83)
    have hne1 : w3.heap.size ≠ w.heap.size + 1 := by have := lb_lt (lb_ext R2 h3); omega
    have hne2 : w3.heap.size ≠ w.heap.size + 1 + 1 := by have := lb_lt (lb_ext S2 h3); omega
    have htb : w.heap.size ≤ w3.heap.size := by have := lb_lt (lb_ext R2 h3); omega
    clear h3 c0 c1 c2 c3 c4 c5 c6 d1 e2 R2 S2 P2
    generalize (w3.alloc (.cells #[.int .i64 p0.x, .int .i64 p0.y, .int .i64 p0.z, .int .i64 (p0.x + p0.l), .int .i64 (p0.y + p0.w), .int .i64 (p0.z + p0.h)] 83)) = W4 at *
    generalize w3.heap.size = tb at *
    have H4 := Lib.hid (And.intro e4 (And.intro T4 (And.intro R4 S4)))
    have d1 := lb_cell P4 1 _ rfl
    clear P4 R4 S4 T4 e4
    have HN := Lib.hid (And.intro hne1 (And.intro hne2 htb))
    clear hne1 hne2 htb
    have hcap : m + 1 ≤ cap := hl2
    have hc0 : ¬ cap = 0 := by omega
    go_cut [25, 26, 27] from 23 to 28 (fun s25 s26 s27 wc => ∃ (A' : Option Addr) (c' : Nat), s25 = .slice A' m c' ∧ s26 = .int .i64 m ∧ s27 = .int .i64 0 ∧ W4 = wc ∧ Sl 7 RPiece w (.slice A' m c') rest)
    case first =>
      by_cases h1 : cap = 1
      · have hm0 : m = 0 := by omega
        subst hm0 h1
        have hr0 : rest = [] := List.length_eq_zero_iff.1 HM.out
        go_wp2
        go_meet
        exact ⟨_, _, rfl, rfl, rfl, rfl, by rw [hr0]; exact Sl.none _ _⟩
      · go_wp2
        go_meet
        exact ⟨_, _, rfl, rfl, rfl, rfl, by have h9 := HS.out.tail (cap - 1) (by rw [HM.out]; omega); rwa [HM.out] at h9⟩
    case rest =>
      obtain ⟨A', c', rfl, rfl, rfl, rfl, hS'⟩ := hcut
      have HT := Lib.hid hS'
      clear hS' d1 hc0 hcap HS HC
      go_wp2
      go_loopw [27] (fun i wr => ∃ k : Nat, k ≤ m ∧ i = .int .i64 k ∧ Ext w wr ∧ wr.heap[tb]? = some (.cells (envP p0 (rest.take k)).cs 83 (0, 0)) ∧ wr.heap[w.heap.size + 1]? = some (.cells #[.int .i64 0, .int .i64 0, .int .i64 0] 40 (0, 0)) ∧ wr.heap[w.heap.size + 1 + 1]? = some (.cells #[.int .i64 0, .int .i64 0, .int .i64 0] 40 (0, 0))) (fun i _ => m - (intOf i).toNat)
      case atStart => exact ⟨0, by omega, rfl, H4.out.1, H4.out.2.1, H4.out.2.2.1, H4.out.2.2.2⟩
      case round =>
        obtain ⟨k, hk, rfl, r1, r2, r3, r4⟩ := hrel
        have R := Lib.hid (And.intro r1 (And.intro r2 (And.intro r3 r4)))
        clear r1 r2 r3 r4
        obtain ⟨wA, hwA⟩ : ∃ z : World, z = wr := ⟨_, rfl⟩
        subst hwA
        by_cases hlt : k < m
        · obtain ⟨x, hx⟩ := some_of_lt (l := rest) (k := k) (by rw [HM.out]; exact hlt)
          obtain ⟨b', off', cs, rfl, _, hr, hc⟩ := (by have := HT.out.ext RPiece.stable R.out.1; rw [← HM.out] at this; exact this : Sl 7 RPiece wA (.slice A' rest.length c') rest).at hx
          obtain rfl : cs = [.int .i64 x.x, .int .i64 x.y, .int .i64 x.z, .int .i64 x.l, .int .i64 x.w, .int .i64 x.h, .int .i64 x.mass] := hr
          have c0 := hc 0 _ rfl
          have c1 := hc 1 _ rfl
          have c2 := hc 2 _ rfl
          have c3 := hc 3 _ rfl
          have c4 := hc 4 _ rfl
          have c5 := hc 5 _ rfl
          have c6 := hc 6 _ rfl
          simp only [Nat.add_zero] at c0
          have hbl := lt_of_cell c0
          have BX := Lib.hid (fun W => BO.out x (List.mem_cons_of_mem _ (mem_of_some hx)) W)
          have HV := Lib.hid (env_snoc p0 hx)
          clear hc hx
          go_wp2_with (go_at_call 44; refine (BX.out _).mono ?_; rintro e w5 ⟨rfl, h5⟩)
          have k5 := Ext.trans ((Ext.refl wA).alloc _) h5
          have eX := (R.out.1.trans k5).alloc (.cells #[.int .i64 x.x, .int .i64 x.y, .int .i64 x.z, .int .i64 (x.x + x.l), .int .i64 (x.y + x.w), .int .i64 (x.z + x.h)] 83)
          have tX := lb_alloc (lb_ext R.out.2.1 k5) (.cells #[.int .i64 x.x, .int .i64 x.y, .int .i64 x.z, .int .i64 (x.x + x.l), .int .i64 (x.y + x.w), .int .i64 (x.z + x.h)] 83)
          have rX := lb_alloc (lb_ext R.out.2.2.1 k5) (.cells #[.int .i64 x.x, .int .i64 x.y, .int .i64 x.z, .int .i64 (x.x + x.l), .int .i64 (x.y + x.w), .int .i64 (x.z + x.h)] 83)
          have sX := lb_alloc (lb_ext R.out.2.2.2 k5) (.cells #[.int .i64 x.x, .int .i64 x.y, .int .i64 x.z, .int .i64 (x.x + x.l), .int .i64 (x.y + x.w), .int .i64 (x.z + x.h)] 83)
          have xX := lb_new w5 (.cells #[.int .i64 x.x, .int .i64 x.y, .int .i64 x.z, .int .i64 (x.x + x.l), .int .i64 (x.y + x.w), .int .i64 (x.z + x.h)] 83)
          have hne3 : w5.heap.size ≠ tb := by have := lb_lt (lb_ext R.out.2.1 k5); omega
          clear k5 h5 c0 c1 c2 c3 c4 c5 c6
          generalize (w5.alloc (.cells #[.int .i64 x.x, .int .i64 x.y, .int .i64 x.z, .int .i64 (x.x + x.l), .int .i64 (x.y + x.w), .int .i64 (x.z + x.h)] 83)) = W9 at *
          generalize w5.heap.size = xb at *
          have HNE := Lib.hid hne3
          have HX := Lib.hid (And.intro eX (And.intro tX (And.intro rX (And.intro sX xX))))
          clear eX tX rX sX xX hne3 R
          generalize hu : envP p0 (rest.take k) = u at *
          have HVU := Lib.hid (show envP p0 (rest.take (k + 1)) = u.step x by first | exact HV.out | exact (hu ▸ HV.out))
          clear hu HV
          obtain ⟨a, b, c, d, e, f⟩ := u
          go_loopw [33] (fun i wr => ∃ j : Nat, j ≤ 3 ∧ i = .int .i64 j ∧ Ext w wr ∧ wr.heap[tb]? = some (.cells ((Env.mk a b c d e f).upTo x j).cs 83 (0, 0)) ∧ wr.heap[w.heap.size + 1]? = some (.cells #[.int .i64 0, .int .i64 0, .int .i64 0] 40 (0, 0)) ∧ wr.heap[w.heap.size + 1 + 1]? = some (.cells #[.int .i64 0, .int .i64 0, .int .i64 0] 40 (0, 0)) ∧ wr.heap[xb]? = some (.cells #[.int .i64 x.x, .int .i64 x.y, .int .i64 x.z, .int .i64 (x.x + x.l), .int .i64 (x.y + x.w), .int .i64 (x.z + x.h)] 83 (0, 0))) (fun i _ => 3 - (intOf i).toNat)
          case atStart => exact ⟨0, by omega, rfl, HX.out.1, HX.out.2.1, HX.out.2.2.1, HX.out.2.2.2.1, HX.out.2.2.2.2⟩
          case round =>
            obtain ⟨j, hj, rfl, r1, r2, r3, r4, r5⟩ := hrel
            rcases (show j = 0 ∨ j = 1 ∨ j = 2 ∨ j = 3 by omega) with rfl | rfl | rfl | rfl
            · have r2' : wr.heap[tb]? = some (.cells #[.int .i64 a, .int .i64 b, .int .i64 c, .int .i64 d, .int .i64 e, .int .i64 f] 83 (0, 0)) := r2
              have R := Lib.hid (And.intro r1 (And.intro r2' (And.intro r3 (And.intro r4 r5))))
              have t0 := lb_cell r2' 0 _ rfl
              have t1 := lb_cell r2' 3 _ rfl
              have x0 := lb_cell r5 0 _ rfl
              have x1 := lb_cell r5 3 _ rfl
              clear r1 r2 r3 r4 r5 r2'
              have z0 := lb_frz R.out.2.1 0
              have z1 := lb_frz R.out.2.1 3
              go_wp2
              go_region
              go_wp2
              have B3 := lb_set 3 (.int .i64 (max d (x.x + x.l))) (lb_set 0 (.int .i64 (min a x.x)) R.out.2.1)
              simp only [List.setIfInBounds_toArray, List.set_cons_zero, List.set_cons_succ] at B3
              exact ⟨⟨0+1, by omega, by go_num, (Ext.set (Ext.set R.out.1 HN.out.2.2 _) HN.out.2.2 _).drew, B3, lb_old (lb_old R.out.2.2.1 HN.out.1.symm) HN.out.1.symm, lb_old (lb_old R.out.2.2.2.1 HN.out.2.1.symm) HN.out.2.1.symm, lb_old (lb_old R.out.2.2.2.2 HNE.out) HNE.out⟩, by simp [intOf]⟩
            · have r2' : wr.heap[tb]? = some (.cells #[.int .i64 (min a x.x), .int .i64 b, .int .i64 c, .int .i64 (max d (x.x + x.l)), .int .i64 e, .int .i64 f] 83 (0, 0)) := r2
              have R := Lib.hid (And.intro r1 (And.intro r2' (And.intro r3 (And.intro r4 r5))))
              have t0 := lb_cell r2' 1 _ rfl
              have t1 := lb_cell r2' 4 _ rfl
              have x0 := lb_cell r5 1 _ rfl
              have x1 := lb_cell r5 4 _ rfl
              clear r1 r2 r3 r4 r5 r2'
              have z0 := lb_frz R.out.2.1 1
              have z1 := lb_frz R.out.2.1 4
              go_wp2
              go_region
              go_wp2
              have B3 := lb_set 4 (.int .i64 (max e (x.y + x.w))) (lb_set 1 (.int .i64 (min b x.y)) R.out.2.1)
              simp only [List.setIfInBounds_toArray, List.set_cons_zero, List.set_cons_succ] at B3
              exact ⟨⟨1+1, by omega, by go_num, (Ext.set (Ext.set R.out.1 HN.out.2.2 _) HN.out.2.2 _).drew, B3, lb_old (lb_old R.out.2.2.1 HN.out.1.symm) HN.out.1.symm, lb_old (lb_old R.out.2.2.2.1 HN.out.2.1.symm) HN.out.2.1.symm, lb_old (lb_old R.out.2.2.2.2 HNE.out) HNE.out⟩, by simp [intOf]⟩
            · have r2' : wr.heap[tb]? = some (.cells #[.int .i64 (min a x.x), .int .i64 (min b x.y), .int .i64 c, .int .i64 (max d (x.x + x.l)), .int .i64 (max e (x.y + x.w)), .int .i64 f] 83 (0, 0)) := r2
              have R := Lib.hid (And.intro r1 (And.intro r2' (And.intro r3 (And.intro r4 r5))))
              have t0 := lb_cell r2' 2 _ rfl
              have t1 := lb_cell r2' 5 _ rfl
              have x0 := lb_cell r5 2 _ rfl
              have x1 := lb_cell r5 5 _ rfl
              clear r1 r2 r3 r4 r5 r2'
              have z0 := lb_frz R.out.2.1 2
              have z1 := lb_frz R.out.2.1 5
              go_wp2
              go_region
              go_wp2
              have B3 := lb_set 5 (.int .i64 (max f (x.z + x.h))) (lb_set 2 (.int .i64 (min c x.z)) R.out.2.1)
              simp only [List.setIfInBounds_toArray, List.set_cons_zero, List.set_cons_succ] at B3
              exact ⟨⟨2+1, by omega, by go_num, (Ext.set (Ext.set R.out.1 HN.out.2.2 _) HN.out.2.2 _).drew, B3, lb_old (lb_old R.out.2.2.1 HN.out.1.symm) HN.out.1.symm, lb_old (lb_old R.out.2.2.2.1 HN.out.2.1.symm) HN.out.2.1.symm, lb_old (lb_old R.out.2.2.2.2 HNE.out) HNE.out⟩, by simp [intOf]⟩
            · have R := Lib.hid (And.intro r1 (And.intro r2 (And.intro r3 r4)))
              clear r1 r2 r3 r4 r5
              go_wp2
              go_roundw
              case rel => exact ⟨k + 1, by omega, by go_num, R.out.1, by rw [HVU.out]; exact R.out.2.1, R.out.2.2.1, R.out.2.2.2⟩
              case measure => simp [intOf]; omega
        · have hkm : rest.take k = rest := List.take_of_length_le (by rw [HM.out]; omega)
          have h1 := R.out.2.1
          rw [hkm] at h1
          obtain ⟨u, hu⟩ : ∃ u, envP p0 rest = u := ⟨_, rfl⟩
          rw [hu] at h1
          have HU := Lib.hid hu
          clear hu
          obtain ⟨a, b, c, d, e, f⟩ := u
          have h2 := R.out.2.2.1
          have h3 := R.out.2.2.2
          unfold Env.cs at h1
          simp only at h1
          have t0 := lb_cell h1 0 _ rfl
          have t1 := lb_cell h1 1 _ rfl
          have t2 := lb_cell h1 2 _ rfl
          have t3 := lb_cell h1 3 _ rfl
          have t4 := lb_cell h1 4 _ rfl
          have t5 := lb_cell h1 5 _ rfl
          have y0 := lb_cell h2 0 _ rfl
          have y1 := lb_cell h2 1 _ rfl
          have y2 := lb_cell h2 2 _ rfl
          have z0 := lb_cell h3 0 _ rfl
          have z1 := lb_cell h3 1 _ rfl
          have z2 := lb_cell h3 2 _ rfl
          have f0 := lb_frz h2 0
          have f1 := lb_frz h2 1
          have f2 := lb_frz h2 2
          have g0 := lb_frz h3 0
          have g1 := lb_frz h3 1
          have g2 := lb_frz h3 2
          have RE := Lib.hid R.out.1
          have hn1 := HN.out.1
          have hn2 := HN.out.2.1
          clear h1 h2 h3 R hkm
          go_wp2
          go_region
          go_wp2
          exact bodyPost_ret (v := .tuple #[.agg #[.int .i64 a, .int .i64 b, .int .i64 c], .agg #[.int .i64 d, .int .i64 e, .int .i64 f], .int .i64 0]) (by simp [results, Try.results20, go_sem, y0, y1, y2, z0, z1, z2]) rfl ⟨by rw [HU.out]; rfl, ((((((RE.out.set (by simp) _).set (by simp) _).set (by simp) _).set (by simp; omega) _).set (by simp; omega) _).set (by simp; omega) _).drew⟩
  · rw [if_neg hE]
    clear hok hs
    unfold envV
    simp only
    go_enter Try.func20, Try.ntmps20
    go_wp2_with (go_at_call 21; refine (C.out _ ((((Ext.refl w).alloc _).alloc _).alloc _)).mono ?_; rintro e w2 ⟨rfl, h2⟩; have R2 := lb_ext (lb_alloc (lb_new _ _) _) h2; have S2 := lb_ext (lb_new _ _) h2; simp only [size_alloc] at R2 S2; have e2 := Ext.trans ((((Ext.refl w).alloc _).alloc _).alloc _) h2; clear h2; have y0 := lb_cell R2 0 _ rfl; have y1 := lb_cell R2 1 _ rfl; have y2 := lb_cell R2 2 _ rfl; have f0 := lb_frz R2 0; have f1 := lb_frz R2 1; have f2 := lb_frz R2 2; have z0 := lb_cell S2 0 _ rfl; have z1 := lb_cell S2 1 _ rfl; have z2 := lb_cell S2 2 _ rfl; have g0 := lb_frz S2 0; have g1 := lb_frz S2 1; have g2 := lb_frz S2 2)
    exact bodyPost_ret (v := .tuple #[.agg #[.int .i64 0, .int .i64 0, .int .i64 0], .agg #[.int .i64 0, .int .i64 0, .int .i64 0], .int .i64 E]) (by simp [results, Try.results20, go_sem, y0, y1, y2, z0, z1, z2]) rfl ⟨rfl, (((((e2.set (by simp) _).set (by simp) _).set (by simp) _).set (by simp; omega) _).set (by simp; omega) _).set (by simp; omega) _⟩
end Go.Proofs.Ytkkeblgahbpmmaa
