/- Contracts: 'compile', walked. -/
import Derived.Test.YtaomlmkcifpfkaaPComp
import Derived.Deep.DeepCutAuto
namespace Go.Proofs.Ytaomlmkcifpfkaa
open Go.RowKit

theorem CSt.congr {H : Nat} {l : List PAuth} {W : World} {us us' : Nat → Bool} {vc : Value} {cl : List PCond} {fee notice : Int} (h : CSt H l W us vc cl fee notice) (hu : ∀ j, us j = us' j) : CSt H l W us' vc cl fee notice := by
  have : us = us' := funext hu
  subst this; exact h
theorem usedB_succ {l : List PAuth} {t : PTrip} {k : Nat} {p : PPass} (hp : t.passages[k]? = some p) {a : Nat} (ha : idxA l p.auth = (a : Int)) (j : Nat) : usedB l t (k + 1) (j : Int) = (decide (j = a) || usedB l t k (j : Int)) := by
  unfold usedB
  rw [any_some hp, Bool.or_comm, ha]
  congr 1
  rw [Bool.eq_iff_iff]; simp; omega
theorem usedB_same {l : List PAuth} {t : PTrip} {k : Nat} {p : PPass} (hp : t.passages[k]? = some p) {a : Nat} (ha : idxA l p.auth = (a : Int)) (hu : usedB l t k (a : Int) = true) (j : Nat) : usedB l t k (j : Int) = usedB l t (k + 1) (j : Int) := by
  rw [usedB_succ hp ha]
  by_cases h : j = a
  · subst h; simp [hu]
  · simp [h]
theorem condsN_succ {l : List PAuth} {t : PTrip} {k : Nat} {p : PPass} (hp : t.passages[k]? = some p) : condsN l t (k + 1) = condsN l t k ++ (selOf l t p).map (condOf k (idxA l p.auth)) := by simp only [condsN, hp]
theorem feeN_succ {l : List PAuth} {t : PTrip} {k : Nat} {p : PPass} {x : PAuth} (hp : t.passages[k]? = some p) (hx : authAt l p = some x) : feeN l t (k + 1) = feeN l t k + ((if usedB l t k (idxA l p.auth) = true then 0 else x.fee) + costs (selOf l t p)) := by simp only [feeN, hp, hx]
theorem noticeN_succ {l : List PAuth} {t : PTrip} {k : Nat} {p : PPass} {x : PAuth} (hp : t.passages[k]? = some p) (hx : authAt l p = some x) : noticeN l t (k + 1) = if usedB l t k (idxA l p.auth) = true then noticeN l t k else max (noticeN l t k) x.notice := by simp only [noticeN, hp, hx]
theorem costs_snoc (s : List (PRule × Nat)) (q : PRule × Nat) : costs (s ++ [q]) = costs s + q.1.cost := by simp [costs]
theorem costs_bd {s : List (PRule × Nat)} (h : ∀ q ∈ s, 0 ≤ q.1.cost ∧ q.1.cost ≤ 1073741824) : 0 ≤ costs s ∧ costs s ≤ 1073741824 * s.length := by
  induction s with
  | nil => simp [costs]
  | cons q s ih =>
    have h1 := ih (fun q hq => h q (by simp [hq]))
    have h2 := h q (by simp)
    simp only [costs, List.map_cons, List.sum_cons, List.length_cons] at h1 ⊢
    omega
theorem sel_cost {t : PTrip} {x : PAuth} (hx : authE x = 0) (road : ByteArray) (n : Nat) (hn : n ≤ x.rules.length) : 0 ≤ costs (ruleSel t road x.rules n) ∧ costs (ruleSel t road x.rules n) ≤ 25769803776 := by
  have h1 := authE_zero hx
  have h2 := costs_bd (s := ruleSel t road x.rules n) (fun q hq => (ruleB_parts (h1.2.2.2.2 q.1 (ruleSel_mem hq).1)).2.1)
  have h3 := ruleSel_len t road x.rules n
  omega
theorem feeN_bd {l : List PAuth} {t : PTrip} (hV : Valid l t) : ∀ k, k ≤ t.passages.length → 0 ≤ feeN l t k ∧ feeN l t k ≤ 26843545600 * k
  | 0, _ => by simp [feeN]
  | k + 1, hk => by
    obtain ⟨p, hp⟩ := some_of_lt (show k < t.passages.length by omega)
    obtain ⟨a, x, ha, hal, hx, hat, hnm, hru, he⟩ := hV.auth hp
    have ih := feeN_bd hV k (by omega)
    have h1 := authE_zero he
    rw [feeN_succ hp hat]
    have h2 : 0 ≤ costs (selOf l t p) ∧ costs (selOf l t p) ≤ 25769803776 := by
      unfold selOf; rw [hru]
      exact sel_cost he p.road _ (Nat.le_refl _)
    split <;> omega
theorem noticeN_bd {l : List PAuth} {t : PTrip} (hV : Valid l t) : ∀ k, k ≤ t.passages.length → 0 ≤ noticeN l t k ∧ noticeN l t k ≤ 1048576
  | 0, _ => by simp [noticeN]
  | k + 1, hk => by
    obtain ⟨p, hp⟩ := some_of_lt (show k < t.passages.length by omega)
    obtain ⟨a, x, ha, hal, hx, hat, hnm, hru, he⟩ := hV.auth hp
    have ih := noticeN_bd hV k (by omega)
    have h1 := authE_zero he
    rw [noticeN_succ hp hat]
    split <;> omega

theorem comp_base (z0 z1 z2 z3 z4 z5 : Int) (vp : Value) (w : World) : ∃ Wb, ((w.alloc (.cells #[.int .i64 z0, .int .i64 z1, .int .i64 z2, .int .i64 z3, .int .i64 z4, .int .i64 z5, vp] 26)).alloc (.cells #[.slice none 0 0, .int .i64 0, .int .i64 0] 31)) = Wb ∧ Ext w Wb ∧ Wb.heap.size = w.heap.size + 1 + 1 ∧
    Wb.cell? ⟨w.heap.size, 0, none⟩ = some (.int .i64 z0) ∧ Wb.cell? ⟨w.heap.size, 1, none⟩ = some (.int .i64 z1) ∧ Wb.cell? ⟨w.heap.size, 2, none⟩ = some (.int .i64 z2) ∧ Wb.cell? ⟨w.heap.size, 3, none⟩ = some (.int .i64 z3) ∧ Wb.cell? ⟨w.heap.size, 4, none⟩ = some (.int .i64 z4) ∧ Wb.cell? ⟨w.heap.size, 5, none⟩ = some (.int .i64 z5) ∧ Wb.cell? ⟨w.heap.size, 6, none⟩ = some vp ∧
    (Wb.cell? ⟨w.heap.size + 1, 0, none⟩ = some (.slice none 0 0) ∧ Wb.cell? ⟨w.heap.size + 1, 1, none⟩ = some (.int .i64 0) ∧ Wb.cell? ⟨w.heap.size + 1, 2, none⟩ = some (.int .i64 0)) ∧
    (Wb.frozen? ⟨w.heap.size + 1, 0, none⟩ = false ∧ Wb.frozen? ⟨w.heap.size + 1, 1, none⟩ = false ∧ Wb.frozen? ⟨w.heap.size + 1, 2, none⟩ = false) := by
  refine ⟨_, rfl, by (repeat' (first | exact Ext.refl _ | assumption | refine Ext.alloc ?_ _ | refine Ext.drew ?_ | refine Ext.drewN ?_ _ | refine Ext.set ?_ (by first | exact Nat.le_refl _ | exact le1 _ | exact le2 _ | exact le3 _ | exact le4 _ | exact le5 _ | exact le6 _) _ | refine Ext.trans ?_ (by assumption))), by simp, by go_simp, by go_simp, by go_simp, by go_simp, by go_simp, by go_simp, by go_simp, ⟨by go_simp, by go_simp, by go_simp⟩, ⟨by go_simp, by go_simp, by go_simp⟩⟩
theorem comp_C0 (l : List PAuth) (t : PTrip) (Wb : World) (H : Nat) (hWs : Wb.heap.size = H + 1 + 1) (M : Array Value) (hM : ∀ j, j < l.length → M[j]? = some (.bool false)) :
    CSt H l ((Wb.alloc (.cells #[.slice none 0 0, .int .i64 0, .int .i64 0] 31)).alloc (.cells M 4)) (fun j => usedB l t 0 j) (.slice none 0 0) (condsN l t 0) (feeN l t 0) (noticeN l t 0) := by
  have h1 := heap_alloc_new Wb (.cells #[.slice none 0 0, .int .i64 0, .int .i64 0] 31)
  rw [hWs] at h1
  have h2 : ((Wb.alloc (.cells #[.slice none 0 0, .int .i64 0, .int .i64 0] 31)).alloc (.cells M 4)).heap[H + 1 + 1]? = some (.cells #[.slice none 0 0, .int .i64 0, .int .i64 0] 31) := by
    rw [Below.heap_alloc _ _ _ (by simp [hWs])]; exact h1
  have h3 := heap_alloc_new (Wb.alloc (.cells #[.slice none 0 0, .int .i64 0, .int .i64 0] 31)) (.cells M 4)
  have h4 : (Wb.alloc (.cells #[.slice none 0 0, .int .i64 0, .int .i64 0] 31)).heap.size = H + 1 + 1 + 1 := by simp [hWs]
  rw [h4] at h3
  refine ⟨?_, ?_, ?_, ?_, ?_, ?_, OwnL.nil, fun j hj => ⟨?_, ?_⟩⟩
  · rw [cell_of_row _ _ 0 _ _ _ h2]; rfl
  · rw [cell_of_row _ _ 1 _ _ _ h2]; rfl
  · rw [cell_of_row _ _ 2 _ _ _ h2]; rfl
  · simp [World.frozen?, h2]
  · simp [World.frozen?, h2]
  · simp [World.frozen?, h2]
  · rw [cell_of_row _ _ j M _ _ h3, hM j hj]; simp [usedB]
  · simp [World.frozen?, h3]

theorem OwnL.base {α : Type} {n : Nat} {e : TypeId} {R : World → List Value → α → Prop} {base base' : Nat} {w : World} {v : Value} {l : List α} (h : OwnL n e R base w v l) (hb : base' ≤ base) : OwnL n e R base' w v l := by
  obtain ⟨css, hl, hown, hx⟩ := h
  refine ⟨css, hl, ⟨hown.1, ?_⟩, hx⟩
  rcases hown.2 with h0 | ⟨g, cap, cur, hv, hg, hr⟩
  · exact .inl h0
  · exact .inr ⟨g, cap, cur, hv, by omega, hr⟩
theorem condsN_len {l : List PAuth} {t : PTrip} (hV : Valid l t) : ∀ k, k ≤ t.passages.length → (condsN l t k).length ≤ 24 * k
  | 0, _ => by simp [condsN]
  | k + 1, hk => by
    obtain ⟨p, hp⟩ := some_of_lt (show k < t.passages.length by omega)
    obtain ⟨a, x, ha, hal, hx, hat, hnm, hru, he⟩ := hV.auth hp
    have ih := condsN_len hV k (by omega)
    have h1 := authE_zero he
    rw [condsN_succ hp, List.length_append, List.length_map]
    have h2 : (selOf l t p).length ≤ 24 := by
      unfold selOf; rw [hru]
      exact Nat.le_trans (ruleSel_len _ _ _ _) h1.1
    omega

set_option maxRecDepth 100000 in
set_option maxHeartbeats 6400000 in
theorem compile_c (v vp : Value) (l : List PAuth) (t : PTrip) (w : World) (hs : Sl 4 RAuth w v l) (hp : Sl 3 RPass w vp t.passages) (hV : Valid l t) :
    Calls Try.prog 49 #[v, tripV t vp] w fun e w' => ∃ vc, e = .returned (.agg #[vc, .int .i64 (feeS l t), .int .i64 (noticeS l t)]) ∧ OwnL 3 102 RCond w.heap.size w' vc (conds l t) ∧ Ext w w' := by
  unfold tripV
  have C3 := fun s w' (h : Ext w w') => authority_c s v l w' (hs.ext RAuth.stable h)
  obtain ⟨A, cap, rfl, hl, hcap⟩ := hs.shape
  obtain ⟨Ap, capp, rfl, hpl, hcapp⟩ := hp.shape
  have HS := Lib.hid hs
  have HP := Lib.hid hp
  have HV := Lib.hid hV
  have hl1 := hV.len.1
  have hl2 := hV.len.2
  have hp2 := hV.plen.2
  obtain ⟨M, hM, hmk⟩ := make_bools l.length (by omega)
  replace C3 := Lib.hid C3
  have HM := Lib.hid hM
  obtain ⟨ic, hic, hz0, hz1, hz2⟩ := info_parts infoCond
  clear hs hp hV
  go_enter Try.func49, Try.ntmps49
  go_wp2
  obtain ⟨Wb, hWb, E0, hWs, B0, B1, B2, B3, B4, B5, B6, R0, RF⟩ := comp_base t.z0 t.z1 t.z2 t.z3 t.z4 t.z5 (.slice Ap t.passages.length capp) w
  rw [hWb]
  have HB := Lib.hid (And.intro B0 (And.intro B1 (And.intro B2 (And.intro B3 (And.intro B4 (And.intro B5 B6))))))
  have HRR := Lib.hid (And.intro R0 RF)
  have C0 := comp_C0 l t Wb w.heap.size hWs M hM
  clear hWb B0 B1 B2 B3 B4 B5 B6 R0 RF
  have HWs := Lib.hid hWs
  clear hWs
  go_loopw [7, 8, 9] (fun i _ _ wr => ∃ (k : Nat) (vc : Value), k ≤ t.passages.length ∧ i = .int .i64 k ∧ CSt w.heap.size l wr (fun j => usedB l t k j) vc (condsN l t k) (feeN l t k) (noticeN l t k) ∧ Ext Wb wr) (fun i _ _ _ => t.passages.length - (intOf i).toNat)
  case atStart => exact ⟨0, _, by omega, rfl, C0, by (repeat' (first | exact Ext.refl _ | assumption | refine Ext.alloc ?_ _ | refine Ext.drew ?_ | refine Ext.drewN ?_ _ | refine Ext.set ?_ (by first | exact Nat.le_refl _ | exact le1 _ | exact le2 _ | exact le3 _ | exact le4 _ | exact le5 _ | exact le6 _) _ | refine Ext.trans ?_ (by assumption)))⟩
  case round =>
    obtain ⟨k, vc, hk, rfl, hC, hb⟩ := hrel
    obtain ⟨b0, b1, b2, b3, b4, b5, b6⟩ := HB.out
    replace b6 := Ext.cell hb b6
    clear C0 hmk HM hM
    by_cases hlt : k < t.passages.length
    · clear b0 b1 b2 b3 b4 b5
      obtain ⟨p, hp⟩ := some_of_lt hlt
      obtain ⟨a, x, ha, hal, hx, hat, hnm, hru, hae⟩ := HV.out.auth hp
      obtain ⟨pb, poff, pcs, rfl, hn, hr, hc⟩ := HP.out.at hp
      obtain rfl : pcs = [.string p.auth, .string p.road, .int .i64 p.minutes] := hr
      have k0 := hc 0 _ rfl
      simp only [Nat.add_zero] at k0
      replace k0 := Ext.cell (E0.trans hb) k0
      obtain ⟨b, off, cs, rfl, hn2, ⟨vr, rfl, hr2⟩, hc2⟩ := HS.out.at hx
      have a1 := hc2 1 _ rfl
      have a2 := hc2 2 _ rfl
      have a3 := hc2 3 _ rfl
      have hbl := lt_of_cell a1
      have HA := Lib.hid (And.intro a1 (And.intro a2 a3))
      obtain ⟨A2, cap2, rfl, _, _⟩ := hr2.shape
      have HR2 := Lib.hid hr2
      replace a1 := Ext.cell (E0.trans hb) a1
      replace a2 := Ext.cell (E0.trans hb) a2
      replace a3 := Ext.cell (E0.trans hb) a3
      have C4 := C3.out p.auth
      rw [ha] at C4
      replace C4 := Lib.hid C4
      have fb := feeN_bd HV.out k (by omega)
      have nb := noticeN_bd HV.out k (by omega)
      have ab := authE_zero hae
      obtain ⟨ab1, ab2, ab3, ab4, ab5⟩ := ab
      have HFS := Lib.hid (feeN_succ hp hat)
      have HNS := Lib.hid (noticeN_succ hp hat)
      have HCS := Lib.hid (condsN_succ (l := l) hp)
      have HPp := Lib.hid hp
      have HAi := Lib.hid ha
      have HAe := Lib.hid hae
      have HRu := Lib.hid hru
      have HX := Lib.hid hx
      have HA5 := Lib.hid ab5
      have n1 : ¬ b = w.heap.size + 1 + 1 := by omega
      have n2 : ¬ b = w.heap.size + 1 + 1 + 1 := by omega
      have i1 : (0 : Int) ≤ (a : Int) := by omega
      have i2 : (a : Int) < (l.length : Int) := by omega
      have i3 : (0 : Int) ≤ (k : Int) := by omega
      have i4 : (k : Int) < (t.passages.length : Int) := by omega
      have hu := (hC.used a hal).1
      have p0 := hC.p0
      have p1 := hC.p1
      have p2 := hC.p2
      have f0 := hC.f0
      have f1 := hC.f1
      have f2 := hC.f2
      have fu := (hC.used a hal).2
      obtain ⟨u, hu'⟩ : ∃ u, usedB l t k a = u := ⟨_, rfl⟩
      have HU := Lib.hid hu'
      simp only [hu'] at hu
      have HCC := Lib.hid hC
      clear hc hn hp hx hat hnm hru hae ha hc2 hn2 hr2 hC hu'
      have e1 := IntWalk.i64_in (feeN l t k + x.fee) (by omega)
      cases u
      case' false =>
        go_wp2_with (go_at_call 80; refine (C4.out _ (E0.trans hb)).mono ?_; rintro e w3 ⟨rfl, rfl⟩)
        go_still_tail 9, (by kernel_rfl)
        go_wp2_with fail
        have hC1 := (HCC.out.fee' (feeN l t k + x.fee)).drew
        have hb1 : Ext Wb ((wr.setCell ⟨w.heap.size + 1 + 1, 1, none⟩ (.int .i64 (feeN l t k + x.fee))).drew) := (hb.set (by rw [HWs.out]; exact Nat.le_refl _) _).drew
        have a2' : ((wr.setCell ⟨w.heap.size + 1 + 1, 1, none⟩ (.int .i64 (feeN l t k + x.fee))).drew).cell? ⟨b, off + a * 4 + 2, none⟩ = some (.int .i64 x.notice) := cell_blk n1 a2
        clear p0 p1 p2 f0 f1 f2 hu fu hb a1 a2 a3 k0 b6
        generalize (wr.setCell ⟨w.heap.size + 1 + 1, 1, none⟩ (.int .i64 (feeN l t k + x.fee))).drew = W1 at *
        have p2 := hC1.p2
        have f2 := hC1.f2
        have hu1 := (hC1.used a hal).1
        have fu1 := (hC1.used a hal).2
        have hmx : ∀ (x y : Int) (W : World), (Builtin.max_ #[2, 2] 2 #[.int .i64 x, .int .i64 y]).run Try.prog W = .ok (.int .i64 (max x y)) W := fun x y W => by
          have : (if y > x then y else x) = max x y := by split <;> omega
          rw [← this]; rfl
        go_still_tail 9, (by kernel_rfl)
        go_wp2_with fail
        have hC2 := ((hC1.notice' (max (noticeN l t k) x.notice)).used' a).drew.congr (fun j => (usedB_succ HPp.out HAi.out j).symm)
        have hb2 : Ext Wb (((W1.setCell ⟨w.heap.size + 1 + 1, 2, none⟩ (.int .i64 (max (noticeN l t k) x.notice))).setCell ⟨w.heap.size + 1 + 1 + 1, a, none⟩ (.bool true)).drew) := ((hb1.set (by rw [HWs.out]; exact Nat.le_refl _) _).set (by rw [HWs.out]; exact Nat.le_succ _) _).drew
        generalize (((W1.setCell ⟨w.heap.size + 1 + 1, 2, none⟩ (.int .i64 (max (noticeN l t k) x.notice))).setCell ⟨w.heap.size + 1 + 1 + 1, a, none⟩ (.bool true)).drew) = W2 at *
        have HF2 := HFS.out
        have HN2 := HNS.out
        rw [HAi.out, HU.out] at HF2 HN2
        simp only [Bool.false_eq_true, if_false] at HF2 HN2
        rw [← Int.add_assoc] at HF2
        have fb2 : 0 ≤ feeN l t k + x.fee ∧ feeN l t k + x.fee ≤ 1000000000000 := by omega
        rw [← HN2] at hC2
        generalize feeN l t k + x.fee = fee2 at *
        clear HN2 p2 f2 hu1 fu1 hmx a2' hC1 hb1 HCC HU e1 fb nb
        replace HF2 := Lib.hid HF2
      case' true =>
        go_wp2_with (go_at_call 80; refine (C4.out _ (E0.trans hb)).mono ?_; rintro e w3 ⟨rfl, rfl⟩)
        have hC2 := HCC.out.congr (usedB_same HPp.out HAi.out HU.out)
        have hb2 := hb
        clear p0 p1 p2 f0 f1 f2 hu fu hb a1 a2 a3 k0 b6
        obtain ⟨W2, rfl⟩ : ∃ W2 : World, W2 = wr := ⟨_, rfl⟩
        have HF2 := HFS.out
        have HN2 := HNS.out
        rw [HAi.out, HU.out] at HF2 HN2
        simp only [if_true, Int.zero_add] at HF2 HN2
        have fb2 : 0 ≤ feeN l t k ∧ feeN l t k ≤ 1000000000000 := by omega
        rw [← HN2] at hC2
        generalize feeN l t k = fee2 at *
        clear HN2 HCC HU e1 fb nb
        replace HF2 := Lib.hid HF2
      all_goals
        clear HFS HNS
        go_loopw [9] (fun j wr => ∃ (n : Nat) (vc : Value), n ≤ x.rules.length ∧ j = .int .i64 n ∧ CSt w.heap.size l wr (fun j => usedB l t (k + 1) j) vc (condsN l t k ++ (ruleSel t p.road x.rules n).map (condOf k a)) (fee2 + costs (ruleSel t p.road x.rules n)) (noticeN l t (k + 1)) ∧ Ext Wb wr) (fun j _ => x.rules.length - (intOf j).toNat)
        case atStart => exact ⟨0, vc, by omega, rfl, by rw [ruleSel_zero]; simpa [costs] using hC2, hb2⟩
        case round =>
          obtain ⟨n, vc', hn, rfl, hC, hb⟩ := hrel
          obtain ⟨b0, b1, b2, b3, b4, b5, b6⟩ := HB.out
          replace b0 := Ext.cell hb b0
          replace b1 := Ext.cell hb b1
          replace b2 := Ext.cell hb b2
          replace b3 := Ext.cell hb b3
          replace b4 := Ext.cell hb b4
          replace b5 := Ext.cell hb b5
          replace b6 := Ext.cell hb b6
          have a3 := Ext.cell (E0.trans hb) HA.out.2.2
          by_cases hlt2 : n < x.rules.length
          · obtain ⟨r, hr⟩ := some_of_lt hlt2
            obtain ⟨rb, roff, rcs, rfl, hrn, ⟨wr1, wr2, wr3, rfl, hsl⟩, hrc⟩ := (HR2.out.ext RRule.stable (E0.trans hb)).at hr
            have hrv := ruleB_parts (HA5.out r (mem_of_some hr))
            have CF := fun w' (h : Ext wr w') => RisFor_c _ _ _ _ r t k p w' (hsl.ext h) hrv.2.2.2.2.2.2.1 (HP.out.ext RPass.stable ((E0.trans hb).trans h)) HPp.out
            have hcost := hrv.2.1
            have k0 := hrc 0 _ rfl
            have k1 := hrc 1 _ rfl
            have k2 := hrc 2 _ rfl
            have k3 := hrc 3 _ rfl
            have k4 := hrc 4 _ rfl
            have k5 := hrc 5 _ rfl
            have k6 := hrc 6 _ rfl
            have k7 := hrc 7 _ rfl
            have k8 := hrc 8 _ rfl
            have k9 := hrc 9 _ rfl
            have k10 := hrc 10 _ rfl
            simp only [Nat.add_zero] at k0
            have HSS := Lib.hid (ruleSel_succ (t := t) (road := p.road) hr)
            obtain ⟨f, hf⟩ : ∃ f, forB r p.road t = f := ⟨_, rfl⟩
            rw [hf] at CF
            have HFf := Lib.hid hf
            have CS := sel_cost (t := t) HAe.out p.road n (by omega)
            have hcl := condsN_len HV.out k (by omega)
            have hsl2 := ruleSel_len t p.road x.rules n
            have hcln : (condsN l t k ++ (ruleSel t p.road x.rules n).map (condOf k a)).length ≤ 1000 := by rw [List.length_append, List.length_map]; omega
            have hrb : rb < w.heap.size := by
              obtain ⟨rb', roff', rcs', hA', _, _, hrc'⟩ := HR2.out.at hr
              simp only [Option.some.injEq, Addr.mk.injEq, and_true] at hA'
              obtain ⟨rfl, rfl⟩ := hA'
              have hle : 0 < rcs'.length := by omega
              exact lt_of_cell (hrc' 0 _ (List.getElem?_eq_getElem hle))
            have m1 : ¬ rb = w.heap.size + 1 + 1 := by omega
            have j1 : (0 : Int) ≤ (n : Int) := by omega
            have j2 : (n : Int) < (x.rules.length : Int) := by omega
            have e1 := IntWalk.i64_in (fee2 + costs (ruleSel t p.road x.rules n) + r.cost) (by omega)
            generalize ruleSel t p.road x.rules n = sel at *
            replace CF := Lib.hid CF
            have HC := Lib.hid hC
            clear hrn hrc hr hsl hrv hf hC hcl hsl2
            cases f
            · go_wp2_with fail
              go_still_tail 10, (by kernel_rfl)
              go_wp2_with (go_at_call 81; refine (CF.out _ (by (repeat' (first | exact Ext.refl _ | assumption | refine Ext.alloc ?_ _ | refine Ext.drew ?_ | refine Ext.drewN ?_ _ | refine Ext.set ?_ (by first | exact Nat.le_refl _ | exact le1 _ | exact le2 _ | exact le3 _ | exact le4 _ | exact le5 _ | exact le6 _) _ | refine Ext.trans ?_ (by assumption))))).mono ?_; rintro e w3 ⟨rfl, hb3⟩)
              have hE3 : Ext wr w3 := by (repeat' (first | exact Ext.refl _ | assumption | refine Ext.alloc ?_ _ | refine Ext.drew ?_ | refine Ext.drewN ?_ _ | refine Ext.set ?_ (by first | exact Nat.le_refl _ | exact le1 _ | exact le2 _ | exact le3 _ | exact le4 _ | exact le5 _ | exact le6 _) _ | refine Ext.trans ?_ (by assumption)))
              go_roundw
              case rel => exact ⟨n + 1, vc', by omega, by go_num, by rw [HSS.out, HFf.out]; simpa using HC.out.ext hE3, hb.trans hE3⟩
              case measure => simp [intOf]; omega
            · go_wp2_with fail
              go_still_tail 10, (by kernel_rfl)
              go_wp2_with fail
              refine (CF.out _ (by (repeat' (first | exact Ext.refl _ | assumption | refine Ext.alloc ?_ _ | refine Ext.drew ?_ | refine Ext.drewN ?_ _ | refine Ext.set ?_ (by first | exact Nat.le_refl _ | exact le1 _ | exact le2 _ | exact le3 _ | exact le4 _ | exact le5 _ | exact le6 _) _ | refine Ext.trans ?_ (by assumption))))).mono ?_
              rintro e w3 ⟨rfl, hb3⟩
              have hE3 : Ext wr w3 := by (repeat' (first | exact Ext.refl _ | assumption | refine Ext.alloc ?_ _ | refine Ext.drew ?_ | refine Ext.drewN ?_ _ | refine Ext.set ?_ (by first | exact Nat.le_refl _ | exact le1 _ | exact le2 _ | exact le3 _ | exact le4 _ | exact le5 _ | exact le6 _) _ | refine Ext.trans ?_ (by assumption)))
              have hC3 := HC.out.ext hE3
              have hb4 := hb.trans hE3
              have a3' := Ext.cell hE3 a3
              have k10' := Ext.cell hE3 k10
              have p0 := hC3.p0
              have f0 := hC3.f0
              obtain ⟨css, hcs, hown, hcx⟩ := hC3.own
              have hHP := lt_of_cell p0
              have hHU := lt_of_cell (hC3.used 0 (by omega)).1
              have hrb3 := lt_of_cell k10'
              have hbs3 := Ext.sz hb4
              rw [HWs.out] at hbs3
              have HCX := Lib.hid hcx
              clear b0 b1 b2 b3 b4 b5 b6 k0 k1 k2 k3 k4 k5 k6 k7 k8 k9 k10 a3 hb hb3 hcx CF HC hC2 hb2 hE3
              have nP : vc'.ownBlock ≠ some (w.heap.size + 1 + 1) := own_ne hown (by omega)
              generalize hCL : condsN l t k ++ sel.map (condOf k a) = CL at *
              have HCL := Lib.hid hCL
              clear hCL
              go_upto_region 16 with (at_builtin; refine wpList_append_lies _ rfl _ _ 29 rfl (w.heap.size + 1 + 1 + 1 + 1) 102 ic _ 3 24 Try.underlying29 hic hz0 hz1 hz2 rfl (by omega) vc' CL.length css.flatten rfl (hown.alloc _) ⟨w3.heap.size, 0, none⟩ 1 1 [.int .i64 k, .int .i64 a, .int .i64 n] rfl rfl (World.news_of_block (cs := #[.int .i64 k, .int .i64 a, .int .i64 n]) (t := 102) (fr := (0, 0)) (heap_alloc_new w3 _)) (by simp [Value.oneCell']) (by omega) (by unfold maxLen; omega) (by omega) (by simp; omega) (w3.heap.size + 1) (by simp) ?_; intro g cap4 w4 hown4 hgrow4 hat4 hlt4; have q0 := (hgrow4.cell_far ⟨w.heap.size + 1 + 1, 0, none⟩ (by simp; omega) (fun e => nP e.symm)).trans (Ext.cell ((Ext.refl w3).alloc _) p0); have q1 := (hgrow4.frozen_far ⟨w.heap.size + 1 + 1, 0, none⟩ (by simp; omega) (fun e => nP e.symm)).trans (Ext.frz ((Ext.refl w3).alloc _) hHP f0))
              have hC4 := hC3.app hcs HCX.out (.cells #[.int .i64 k, .int .i64 a, .int .i64 n] 102) (c := ⟨k, a, n⟩) hown hown4 hgrow4
              have hb5 : Ext Wb (w4.setCell ⟨w.heap.size + 1 + 1, 0, none⟩ (.slice (some ⟨g, 0, none⟩) (CL.length + 1) cap4)) := Ext.set (Ext.grown (hb4.alloc _) hgrow4 (fun j hj => by have := own_ge hown j hj; rw [HWs.out]; omega)) (by rw [HWs.out]; exact Nat.le_refl _) _
              have nbo : vc'.ownBlock ≠ some b := own_ne hown (by omega)
              have nro : vc'.ownBlock ≠ some rb := own_ne hown (by omega)
              have a4 : (w4.setCell ⟨w.heap.size + 1 + 1, 0, none⟩ (.slice (some ⟨g, 0, none⟩) (CL.length + 1) cap4)).cell? ⟨b, off + a * 4 + 3, none⟩ = some (.slice (some ⟨rb, roff, none⟩) x.rules.length cap2) := cell_blk n1 ((hgrow4.cell_far ⟨b, off + a * 4 + 3, none⟩ (by simp; omega) (fun e => nbo e.symm)).trans (Ext.cell ((Ext.refl w3).alloc _) a3'))
              have r4 : (w4.setCell ⟨w.heap.size + 1 + 1, 0, none⟩ (.slice (some ⟨g, 0, none⟩) (CL.length + 1) cap4)).cell? ⟨rb, roff + n * 11 + 10, none⟩ = some (.int .i64 r.cost) := cell_blk m1 ((hgrow4.cell_far ⟨rb, roff + n * 11 + 10, none⟩ (by simp; omega) (fun e => nro e.symm)).trans (Ext.cell ((Ext.refl w3).alloc _) k10'))
              clear hC3 hown hown4 hgrow4 hat4 hlt4 q0 q1 p0 f0 a3' k10' HCX hcs nbo nro hb4
              generalize w4.setCell ⟨w.heap.size + 1 + 1, 0, none⟩ (.slice (some ⟨g, 0, none⟩) (CL.length + 1) cap4) = W5 at *
              have p1 := hC4.p1
              have f1 := hC4.f1
              go_still_tail 13, (by kernel_rfl)
              go_wp2_with fail
              go_roundw
              case rel => exact ⟨n + 1, _, by omega, by go_num, by rw [HSS.out, HFf.out, if_pos rfl, List.map_append, ← List.append_assoc, HCL.out, costs_snoc, ← Int.add_assoc]; exact (hC4.fee' _).drew, (hb5.set (by rw [HWs.out]; exact Nat.le_refl _) _).drew⟩
              case measure => simp [intOf]; omega
          · have hnn : n = x.rules.length := by omega
            subst hnn
            have hCE : CSt w.heap.size l wr (fun j => usedB l t (k + 1) j) vc' (condsN l t (k + 1)) (feeN l t (k + 1)) (noticeN l t (k + 1)) := by
              rw [HCS.out, HF2.out, HAi.out]
              unfold selOf
              rw [HRu.out]
              exact hC
            clear hC hC2
            go_wp2_with fail
            go_roundw
            case rel => exact ⟨k + 1, vc', by omega, by go_num, hCE, hb⟩
            case measure => simp [intOf]; omega
    · have hkk : k = t.passages.length := by omega
      subst hkk
      obtain ⟨⟨r0, r1, r2⟩, rf0, rf1, rf2⟩ := HRR.out
      have hHP := lt_of_cell r0
      replace r0 := Ext.cell hb r0
      replace r1 := Ext.cell hb r1
      replace r2 := Ext.cell hb r2
      replace rf0 := Ext.frz hb hHP rf0
      replace rf1 := Ext.frz hb hHP rf1
      replace rf2 := Ext.frz hb hHP rf2
      have p0 := hC.p0
      have p1 := hC.p1
      have p2 := hC.p2
      have f0 := hC.f0
      obtain ⟨css, hcs, hown, hcx⟩ := hC.own
      obtain ⟨vA, vl, vcap, rfl⟩ : ∃ a n c, vc = .slice a n c := by
        rcases hown.2 with ⟨rfl, _⟩ | ⟨g, cap, cur, rfl, _⟩
        · exact ⟨_, _, _, rfl⟩
        · exact ⟨_, _, _, rfl⟩
      have HO := Lib.hid hC.own
      have hE : Ext w wr := E0.trans hb
      clear b0 b1 b2 b3 b4 b5 hcs hown hcx
      go_wp2_with fail
      have c0 : (((wr.setCell ⟨w.heap.size + 1, 0, none⟩ (.slice vA vl vcap)).setCell ⟨w.heap.size + 1, 1, none⟩ (.int .i64 (feeN l t t.passages.length))).setCell ⟨w.heap.size + 1, 2, none⟩ (.int .i64 (noticeN l t t.passages.length))).cell? ⟨w.heap.size + 1, 0, none⟩ = some (.slice vA vl vcap) := cell_off (by omega) (cell_off (by omega) (cell_set r0))
      have c1 : (((wr.setCell ⟨w.heap.size + 1, 0, none⟩ (.slice vA vl vcap)).setCell ⟨w.heap.size + 1, 1, none⟩ (.int .i64 (feeN l t t.passages.length))).setCell ⟨w.heap.size + 1, 2, none⟩ (.int .i64 (noticeN l t t.passages.length))).cell? ⟨w.heap.size + 1, 1, none⟩ = some (.int .i64 (feeN l t t.passages.length)) := cell_off (by omega) (cell_set (cell_off (by omega) r1))
      have c2 : (((wr.setCell ⟨w.heap.size + 1, 0, none⟩ (.slice vA vl vcap)).setCell ⟨w.heap.size + 1, 1, none⟩ (.int .i64 (feeN l t t.passages.length))).setCell ⟨w.heap.size + 1, 2, none⟩ (.int .i64 (noticeN l t t.passages.length))).cell? ⟨w.heap.size + 1, 2, none⟩ = some (.int .i64 (noticeN l t t.passages.length)) := cell_set (cell_off (by omega) (cell_off (by omega) r2))
      have hown2 := ((HO.out.set (p := ⟨w.heap.size + 1, 0, none⟩) (u := .slice vA vl vcap) (fun _ _ k => k) (show w.heap.size + 1 < _ by omega)).set (p := ⟨w.heap.size + 1, 1, none⟩) (u := .int .i64 (feeN l t t.passages.length)) (fun _ _ k => k) (show w.heap.size + 1 < _ by omega)).set (p := ⟨w.heap.size + 1, 2, none⟩) (u := .int .i64 (noticeN l t t.passages.length)) (fun _ _ k => k) (show w.heap.size + 1 < _ by omega)
      have hE2 : Ext w (((wr.setCell ⟨w.heap.size + 1, 0, none⟩ (.slice vA vl vcap)).setCell ⟨w.heap.size + 1, 1, none⟩ (.int .i64 (feeN l t t.passages.length))).setCell ⟨w.heap.size + 1, 2, none⟩ (.int .i64 (noticeN l t t.passages.length))) := ((hE.set (Nat.le_succ _) _).set (Nat.le_succ _) _).set (Nat.le_succ _) _
      generalize (((wr.setCell ⟨w.heap.size + 1, 0, none⟩ (.slice vA vl vcap)).setCell ⟨w.heap.size + 1, 1, none⟩ (.int .i64 (feeN l t t.passages.length))).setCell ⟨w.heap.size + 1, 2, none⟩ (.int .i64 (noticeN l t t.passages.length))) = WF at *
      exact bodyPost_ret (v := .agg #[.slice vA vl vcap, .int .i64 (feeN l t t.passages.length), .int .i64 (noticeN l t t.passages.length)]) (by simp [results, Try.results49, go_sem, c0, c1, c2]) rfl ⟨_, rfl, hown2.base (by omega), hE2⟩
end Go.Proofs.Ytaomlmkcifpfkaa
