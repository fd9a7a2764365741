/- Contracts: 'newDesk', walked. -/
import Derived.Test.YtaomlmkcifpfkaaPTools
import Derived.Test.YtaomlmkcifpfkaaPDeskL
import Derived.Test.YtaomlmkcifpfkaaPDesk
namespace Go.Proofs.Ytaomlmkcifpfkaa
open Go.RowKit Go.Maps
attribute [local go_sem ↓] Go.wp_at_zero Go.wp_at_succ

theorem infoRules : (Try.prog.info? 111).map (fun i => (i.zero, i.size, i.bytes)) = some (some (.agg #[.slice none 0 0, .slice none 0 0, .int .i64 0]), 3, 56) := by kernel_rfl
theorem lookup_bool {H : Type} {P : Program} {w : World} {t k e : TypeId} {b n : Nat} {D : DataW H} (hown : w.ownsMap P k (plainElem P e) b n D) (K : Keyed P k) (ht : P.underlying t = some (.map k e)) (he : P.underlying e = some .bool) (hz : (zeroValue e).run P w = .ok (.bool false) w)
    {key : Value} {kl : Lit} (hkey : keyOf P k key = some kl) {c : Bool} (hc : D.atKey kl (.lit (.bool false)) = .lit (.bool c)) : Sem.run P (Instr.lookup t (.map (some b)) key false) w = .ok (.bool c) w := by
  obtain ⟨v, ps, hrun, hv⟩ := hown.lookup K ht hz (plainElem_bool he false) hkey
  obtain rfl : v = .bool c := by
    unfold plainElem at hv
    rw [he, hc] at hv
    cases v <;> simp at hv
    rw [hv.1]
  exact hrun
theorem wf_small (a : Nat) (h : a < 1000) : (Lit.int .i64 (a : Int)).wf = true := by
  have h1 : IntKind.i64.min = -9223372036854775808 := rfl
  have h2 : IntKind.i64.max = 9223372036854775807 := rfl
  simp only [Lit.wf, h1, h2, Bool.and_eq_true, decide_eq_true_eq]
  omega
theorem begin_K {l : List PAuth} {t : PTrip} (h1 : allE l = 0) (h2 : tripE t = 0) : ∃ K, K ≤ t.passages.length ∧ Valid1 l t K ∧ ((K = t.passages.length ∧ beginE l t = 0) ∨ ∃ p, t.passages[K]? = some p ∧ idxA l p.auth < 0 ∧ beginE l t = 5) := by
  obtain ⟨K, hK, hf, ht⟩ := first_bad (foundB l) t.passages
  have hl : ¬ (l.length < 1 ∨ 8 < l.length) := fun h => by rw [allE_many h] at h1; cases h1
  have hp : ¬ (t.passages.length < 1 ∨ 24 < t.passages.length) := fun h => by rw [tripE_many h] at h2; cases h2
  have hfz : firstE l = 0 := by
    by_cases hz : firstE l = 0
    · exact hz
    · rw [allE_bad hl hz] at h1; exact absurd h1 hz
  refine ⟨K, hK, ⟨by omega, firstE_zero hfz, by omega, fun k p hk hkp => by simpa [foundB] using hf k p hk hkp⟩, ?_⟩
  rcases ht with ⟨e, ha⟩ | ⟨p, hp, hb, ha⟩
  · exact .inl ⟨e, begin_ok h1 h2 ha⟩
  · exact .inr ⟨p, hp, by simpa [foundB] using hb, begin_none h1 h2 ha⟩

/-- what comes out of 'newDesk' -/
def DeskR (l : List PAuth) (t : PTrip) (w : World) (e : Ending) (w' : World) : Prop :=
  Ext w w' ∧ ((beginE l t ≠ 0 ∧ e = .returned (.tuple #[.pointer none, .int .i64 (beginE l t)])) ∨
    (beginE l t = 0 ∧ ∃ (D : Nat) (vc vd : Value), e = .returned (.tuple #[.pointer (some ⟨D, 0, none⟩), .int .i64 0]) ∧ w'.cell? ⟨D, 0, none⟩ = some vc ∧ w'.cell? ⟨D, 1, none⟩ = some (.int .i64 (feeS l t)) ∧ w'.cell? ⟨D, 2, none⟩ = some (.int .i64 (noticeS l t)) ∧ w'.cell? ⟨D, 3, none⟩ = some vd ∧ OwnL 3 102 RCond (D + 1 + 1) w' vc (conds l t) ∧ OwnL 3 111 (RRow w (D + 1 + 1)) (D + 1 + 1) w' vd (desk l t) ∧ w.heap.size ≤ D))

theorem desk0 (w : World) : DSt w.heap.size ((w.alloc (.cells #[.slice none 0 0, .int .i64 0, .int .i64 0, .slice none 0 0] 94)).alloc (.map #[] 0)) (.slice none 0 0) [] 0 0 (.slice none 0 0) :=
  ⟨by go_simp, by go_simp, by go_simp, by go_simp, by go_simp, by go_simp, by go_simp, by go_simp, OwnL.nil⟩
theorem used0 (w : World) (L : Nat) : USt w.heap.size L ((w.alloc (.cells #[.slice none 0 0, .int .i64 0, .int .i64 0, .slice none 0 0] 94)).alloc (.map #[] 0)) (fun _ => false) 0 (.map []) := by
  have h := World.ownsMap_made (H := Unit) (w.alloc (.cells #[.slice none 0 0, .int .i64 0, .int .i64 0, .slice none 0 0] 94)) Try.prog 3 (plainElem Try.prog 4)
  rw [size_alloc] at h
  exact ⟨h, fun a _ => rfl⟩

set_option maxRecDepth 100000 in
set_option maxHeartbeats 12800000 in
theorem newDesk_c (v vp : Value) (l : List PAuth) (t : PTrip) (w : World) (hs : Sl 4 RAuth w v l) (hp : Sl 3 RPass w vp t.passages) :
    Calls Try.prog 47 #[v, tripV t vp] w (DeskR l t w) := by
  unfold tripV
  have C1 := fun w' (h : Ext w w') => CheckAll_c v l w' (hs.ext RAuth.stable h)
  have C2 := fun w' (h : Ext w w') => CheckTrip_c vp t w' (hp.ext RPass.stable h)
  have C3 := fun s B w' (h : Ext w w') hc => findAuth_c s B v l w' (hs.ext RAuth.stable h) hc
  obtain ⟨A, cap, rfl, hl, hcap⟩ := hs.shape
  obtain ⟨Ap, capp, rfl, hpl, hcapp⟩ := hp.shape
  have HS := Lib.hid hs
  have HP := Lib.hid hp
  clear hs hp
  by_cases h1 : allE l = 0
  · rw [h1] at C1
    by_cases h2 : tripE t = 0
    · rw [h2] at C2
      obtain ⟨K, hK', hV, hend⟩ := begin_K h1 h2
      have HV := Lib.hid hV
      have HE := Lib.hid hend
      have hl1 := hV.len.1
      have hl2 := hV.len.2
      have hp1 := hV.plen.1
      have hp2 := hV.plen.2
      have hmm := @run_makeMap Try.prog
      obtain ⟨ic, hic, hz0, hz1, hz2⟩ := info_parts infoCond
      obtain ⟨i1, hi1, hy0, hy1, hy2⟩ := info_parts infoInt
      obtain ⟨i2, hi2, hx0, hx1, hx2⟩ := info_parts infoRule
      obtain ⟨i3, hi3, hr0, hr1, hr2⟩ := info_parts infoRules
      replace C1 := Lib.hid C1
      replace C2 := Lib.hid C2
      replace C3 := Lib.hid C3
      clear hV hend h1 h2
      obtain ⟨Post, hPost⟩ : ∃ Post, DeskR l t w = Post := ⟨_, rfl⟩
      rw [hPost]
      have HPo := Lib.hid hPost
      clear hPost
      go_enter Try.func47, Try.ntmps47
      go_wp2_with fail
      refine (C1.out _ (by (repeat' (first | exact Ext.refl _ | assumption | refine Ext.alloc ?_ _ | refine Ext.drew ?_ | refine Ext.drewN ?_ _ | refine Ext.set ?_ (by first | exact Nat.le_refl _ | exact le1 _ | exact le2 _ | exact le3 _ | exact le4 _ | exact le5 _ | exact le6 _) _ | refine Ext.trans ?_ (by assumption))))).mono ?_
      rintro e w1 ⟨rfl, hb1⟩
      obtain ⟨hc1, hf1⟩ := bcell hb1
      go_wp2_with fail
      refine (C2.out _ (by (repeat' (first | exact Ext.refl _ | assumption | refine Ext.alloc ?_ _ | refine Ext.drew ?_ | refine Ext.drewN ?_ _ | refine Ext.set ?_ (by first | exact Nat.le_refl _ | exact le1 _ | exact le2 _ | exact le3 _ | exact le4 _ | exact le5 _ | exact le6 _) _ | refine Ext.trans ?_ (by assumption))))).mono ?_
      rintro e w2 ⟨rfl, hb2⟩
      have E12 := hb1.trans hb2
      have t0 := Ext.cell E12 (p := ⟨w.heap.size, 0, none⟩) (v := .int .i64 t.z0) (by go_simp)
      have t1 := Ext.cell E12 (p := ⟨w.heap.size, 1, none⟩) (v := .int .i64 t.z1) (by go_simp)
      have t2 := Ext.cell E12 (p := ⟨w.heap.size, 2, none⟩) (v := .int .i64 t.z2) (by go_simp)
      have t3 := Ext.cell E12 (p := ⟨w.heap.size, 3, none⟩) (v := .int .i64 t.z3) (by go_simp)
      have t4 := Ext.cell E12 (p := ⟨w.heap.size, 4, none⟩) (v := .int .i64 t.z4) (by go_simp)
      have t5 := Ext.cell E12 (p := ⟨w.heap.size, 5, none⟩) (v := .int .i64 t.z5) (by go_simp)
      have t6 := Ext.cell E12 (p := ⟨w.heap.size, 6, none⟩) (v := .slice Ap t.passages.length capp) (by go_simp)
      have E2 : Ext w w2 := by (repeat' (first | exact Ext.refl _ | assumption | refine Ext.alloc ?_ _ | refine Ext.drew ?_ | refine Ext.drewN ?_ _ | refine Ext.set ?_ (by first | exact Nat.le_refl _ | exact le1 _ | exact le2 _ | exact le3 _ | exact le4 _ | exact le5 _ | exact le6 _) _ | refine Ext.trans ?_ (by assumption)))
      have HT := Lib.hid (And.intro t0 (And.intro t1 (And.intro t2 (And.intro t3 (And.intro t4 (And.intro t5 t6))))))
      have hHw := lt_of_cell t6
      clear hb1 hb2 hc1 hf1 C1 C2 E12 t0 t1 t2 t3 t4 t5
      go_wp2_with fail
      have D0 := desk0 w2
      have U0 := used0 w2 l.length
      have E3 : Ext w2 ((w2.alloc (.cells #[.slice none 0 0, .int .i64 0, .int .i64 0, .slice none 0 0] 94)).alloc (.map #[] 0)) := by (repeat' (first | exact Ext.refl _ | assumption | refine Ext.alloc ?_ _ | refine Ext.drew ?_ | refine Ext.drewN ?_ _ | refine Ext.set ?_ (by first | exact Nat.le_refl _ | exact le1 _ | exact le2 _ | exact le3 _ | exact le4 _ | exact le5 _ | exact le6 _) _ | refine Ext.trans ?_ (by assumption)))
      generalize ((w2.alloc (.cells #[.slice none 0 0, .int .i64 0, .int .i64 0, .slice none 0 0] 94)).alloc (.map #[] 0)) = W0 at *
      clear t6
      go_loopw [32] (fun i wr => ∃ (k : Nat) (vc vd : Value) (M : DataW Unit), k ≤ K ∧ i = .int .i64 k ∧ DSt w2.heap.size wr vc (condsN l t k) (feeN l t k) (noticeN l t k) vd ∧ USt w2.heap.size l.length wr (fun j => usedB l t k j) k M ∧ OwnL 3 111 (RRow w (w2.heap.size + 1 + 1)) (w2.heap.size + 1 + 1) wr vd (deskN l t k) ∧ Ext w2 wr) (fun i _ => t.passages.length - (intOf i).toNat)
      case atStart => exact ⟨0, _, _, _, by omega, rfl, D0, U0.congr (fun j => by simp [usedB]), OwnL.nil, E3⟩
      case round =>
        obtain ⟨k, vc, vd, M, hkK, rfl, hD, hU, hP, hb⟩ := hrel
        obtain ⟨wo, hwo⟩ : ∃ wo : World, wo = wr := ⟨_, rfl⟩
        subst hwo
        clear D0 U0 E3 hmm
        by_cases hlt : k < t.passages.length
        · obtain ⟨p, hp⟩ := some_of_lt hlt
          obtain ⟨pb, poff, pcs, rfl, _, hpr, hpc⟩ := HP.out.at hp
          obtain rfl : pcs = [.string p.auth, .string p.road, .int .i64 p.minutes] := hpr
          have Ewr := E2.trans hb
          have k0 := Ext.cell Ewr (hpc 0 _ rfl)
          have k1 := Ext.cell Ewr (hpc 1 _ rfl)
          have k2 := Ext.cell Ewr (hpc 2 _ rfl)
          simp only [Nat.add_zero] at k0
          have j3 : (0 : Int) ≤ (k : Int) := by omega
          have j4 : (k : Int) < (t.passages.length : Int) := by omega
          have hsz := hb.sz
          by_cases hkK2 : k < K
          · obtain ⟨a, x, ha, hal, hx, hat, hnm, hru, hae⟩ := HV.out.auth hkK2 hp
            obtain ⟨b, off, cs, rfl, _, ⟨vr, rfl, hr2⟩, hc2⟩ := HS.out.at hx
            have a1 := hc2 1 _ rfl
            have a2 := hc2 2 _ rfl
            have a3 := hc2 3 _ rfl
            have hbl := lt_of_cell a1
            obtain ⟨A2, cap2, rfl, _, _⟩ := hr2.shape
            have HR2 := Lib.hid hr2
            have HA := Lib.hid (And.intro a1 (And.intro a2 a3))
            have C4 := fun w' (h : Ext wo w') hc => C3.out p.auth wo.heap.size w' (Ewr.trans h) hc
            rw [ha] at C4
            replace C4 := Lib.hid C4
            have fb := feeN_bd1 HV.out hK' k (by omega)
            have nb := noticeN_bd1 HV.out hK' k (by omega)
            obtain ⟨ab1, ab2, ab3, ab4, ab5⟩ := authE_zero hae
            have HFS := Lib.hid (feeN_succ hp hat)
            have HNS := Lib.hid (noticeN_succ hp hat)
            have HCS := Lib.hid (condsN_succ (l := l) hp)
            have HDS := Lib.hid (deskN_succ (l := l) hp)
            have HPp := Lib.hid hp
            have HAi := Lib.hid ha
            have HAe := Lib.hid hae
            have HRu := Lib.hid hru
            have HA5 := Lib.hid ab5
            have HPR := Lib.hid hP
            have i1' : (0 : Int) ≤ (a : Int) := by omega
            have i2' : (a : Int) < (l.length : Int) := by omega
            have i3' : ¬ (a : Int) < 0 := by omega
            have hsU := hU.own.lt
            have HD := Lib.hid hD
            have HU := Lib.hid hU
            clear hpc hp hx hat hnm hru hae ha hc2 hr2 a1 a2 a3 ab2 ab5 hD hU hP
            go_wp2_with fail
            refine (C4.out _ (by (repeat' (first | exact Ext.refl _ | assumption | refine Ext.alloc ?_ _ | refine Ext.drew ?_ | refine Ext.drewN ?_ _ | refine Ext.set ?_ (by first | exact Nat.le_refl _ | exact le1 _ | exact le2 _ | exact le3 _ | exact le4 _ | exact le5 _ | exact le6 _) _ | refine Ext.trans ?_ (by assumption)))) (by go_simp)).mono ?_
            rintro e w3 ⟨rfl, hb3⟩
            have B0 := Ext.cell hb3 (p := ⟨wo.heap.size, 0, none⟩) (v := .string p.auth) (by go_simp)
            have B1 := Ext.cell hb3 (p := ⟨wo.heap.size, 1, none⟩) (v := .string p.road) (by go_simp)
            have B2 := Ext.cell hb3 (p := ⟨wo.heap.size, 2, none⟩) (v := .int .i64 p.minutes) (by go_simp)
            have hE3 : Ext wo w3 := by (repeat' (first | exact Ext.refl _ | assumption | refine Ext.alloc ?_ _ | refine Ext.drew ?_ | refine Ext.drewN ?_ _ | refine Ext.set ?_ (by first | exact Nat.le_refl _ | exact le1 _ | exact le2 _ | exact le3 _ | exact le4 _ | exact le5 _ | exact le6 _) _ | refine Ext.trans ?_ (by assumption)))
            have hD3 := HD.out.ext hE3
            have hU3 := HU.out.ext hE3
            have hK3 : KT w2.heap.size wo w3 := (KT.refl _ _).ext hE3
            have hb3' := hb.trans hE3
            have a1 := Ext.cell (Ewr.trans hE3) HA.out.1
            have a2 := Ext.cell (Ewr.trans hE3) HA.out.2.1
            have hsB := lt_of_cell B0
            clear C4 hb3 k0 k1 k2
            obtain ⟨u, hu⟩ : ∃ u, usedB l t k a = u := ⟨_, rfl⟩
            have hat' := hU3.at' a hal
            rw [hu] at hat'
            have HUu := Lib.hid hu
            clear hu
            have hkey : keyOf Try.prog 3 (.int .i64 (a : Int)) = some (.int .i64 (a : Int)) := Maps.keyOf_int_mk Try.underlying3 (wf_small a (by omega))
            have hlk := lookup_bool hU3.own (Maps.int_keyed Try.underlying3) Try.underlying133 Try.underlying4 (Try.zeroValue4 _) hkey hat'
            clear hat'
            go_upto_if 45 with (fail)
            obtain ⟨fee2, hf2⟩ : ∃ f, feeN l t k + (if usedB l t k a = true then 0 else x.fee) = f := ⟨_, rfl⟩
            have HF2 := Lib.hid hf2
            have hf2b : 0 ≤ fee2 ∧ fee2 ≤ 1000000000000 := by
              rw [← hf2]
              split <;> omega
            clear hf2
            go_cut [12] (fun s wc => s = .int .i64 a ∧ ∃ M', DSt w2.heap.size wc vc (condsN l t k) fee2 (noticeN l t (k + 1)) vd ∧ USt w2.heap.size l.length wc (fun j => usedB l t (k + 1) j) (k + 1) M' ∧ KT w2.heap.size wo wc ∧ Ext w2 wc ∧
              wc.cell? ⟨wo.heap.size, 0, none⟩ = some (.string p.auth) ∧ wc.cell? ⟨wo.heap.size, 1, none⟩ = some (.string p.road) ∧ wc.cell? ⟨wo.heap.size, 2, none⟩ = some (.int .i64 p.minutes))
            case first =>
              cases u
              · have HF := HF2.out
                rw [HUu.out] at HF
                have HN := HNS.out
                rw [HAi.out, HUu.out] at HN
                simp only [Bool.false_eq_true, if_false] at HF HN
                have e1 := IntWalk.i64_in (feeN l t k + x.fee) (by omega)
                have HFN := Lib.hid (And.intro HF HN)
                clear HF HN
                go_wp2_with (at_mapUpdate; refine wpList_mapUpdate_own _ rfl _ _ _ 133 rfl 3 4 (Maps.int_keyed Try.underlying3) Try.underlying133 _ (w2.heap.size + 1) k _ rfl hU3.own (by unfold maxLen; omega) _ _ _ rfl rfl hkey _ [] (plainElem_bool Try.underlying4 true) ?_; intro w4 hown4 hgrow4)
                have hU4 := (hU3.put hown4).congr (fun j => (usedB_succ HPp.out HAi.out j).symm)
                have hD4 := hD3.grown hgrow4 (by simp) (fun g hg => by
                  cases hg
                  obtain ⟨_, _, ho, _⟩ := hD3.own
                  exact hU3.ne_row ho)
                have hK4 := hK3.grown hgrow4 (fun g hg => by cases hg; exact .inr (.inl rfl))
                have hb4 : Ext w2 w4 := hb3'.grown hgrow4 (fun j hj => by cases hj; exact Nat.le_succ _)
                have c4 : ∀ b' o' v', b' ≠ w2.heap.size + 1 → w3.cell? ⟨b', o', none⟩ = some v' → w4.cell? ⟨b', o', none⟩ = some v' := fun b' o' v' hne hv => (hgrow4.cell_far ⟨b', o', none⟩ (lt_of_cell hv) (fun e => hne (by simpa using e))).trans hv
                replace B0 := c4 _ _ _ (by omega) B0
                replace B1 := c4 _ _ _ (by omega) B1
                replace B2 := c4 _ _ _ (by omega) B2
                replace a1 := c4 _ _ _ (by omega) a1
                replace a2 := c4 _ _ _ (by omega) a2
                have d1 := hD4.d1
                have f1 := hD4.f1
                clear hD3 hU3 hK3 hb3' hgrow4 hown4 hlk c4
                go_still_tail 14, (by kernel_rfl)
                go_wp2_with fail
                have hD5 := (hD4.fee' (feeN l t k + x.fee)).drew
                have hU5 := (hU4.set (p := ⟨w2.heap.size, 1, none⟩) (by simp) (.int .i64 (feeN l t k + x.fee))).drew
                have hK5 := (hK4.set (p := ⟨w2.heap.size, 1, none⟩) (.inl rfl) (.int .i64 (feeN l t k + x.fee))).drew
                have hb5 := (hb4.set (p := ⟨w2.heap.size, 1, none⟩) (Nat.le_refl _) (.int .i64 (feeN l t k + x.fee))).drew
                have c5 : ∀ b' o' v', b' ≠ w2.heap.size → w4.cell? ⟨b', o', none⟩ = some v' → ((w4.setCell ⟨w2.heap.size, 1, none⟩ (.int .i64 (feeN l t k + x.fee))).drew).cell? ⟨b', o', none⟩ = some v' := fun b' o' v' hne hv => Ext.cell (Ext.refl _).drew (cell_blk hne hv)
                replace B0 := c5 _ _ _ (by omega) B0
                replace B1 := c5 _ _ _ (by omega) B1
                replace B2 := c5 _ _ _ (by omega) B2
                replace a1 := c5 _ _ _ (by omega) a1
                replace a2 := c5 _ _ _ (by omega) a2
                clear c5 hD4 hU4 hK4 hb4 d1 f1
                generalize (w4.setCell ⟨w2.heap.size, 1, none⟩ (.int .i64 (feeN l t k + x.fee))).drew = w5 at *
                have d2 := hD5.d2
                have f2 := hD5.f2
                have hmx : ∀ (x y : Int) (W : World), (Builtin.max_ #[2, 2] 2 #[.int .i64 x, .int .i64 y]).run Try.prog W = .ok (.int .i64 (max x y)) W := fun x y W => by
                  have : (if y > x then y else x) = max x y := by split <;> omega
                  rw [← this]; rfl
                go_still_tail 15, (by kernel_rfl)
                go_wp2_with fail
                go_meet
                have HH := HFN.out
                have hD6 := (hD5.notice' (max (noticeN l t k) x.notice)).drew
                rw [HH.1, ← HH.2] at hD6
                refine ⟨rfl, _, by rw [← HH.2]; exact hD6, (hU5.set (by simp) _).drew, (hK5.set (.inl rfl) _).drew, (hb5.set (Nat.le_refl _) _).drew, Ext.cell (Ext.refl _).drew (cell_blk (by omega) B0), Ext.cell (Ext.refl _).drew (cell_blk (by omega) B1), Ext.cell (Ext.refl _).drew (cell_blk (by omega) B2)⟩
              · have HF := HF2.out
                rw [HUu.out] at HF
                have HN := HNS.out
                rw [HAi.out, HUu.out] at HN
                simp only [if_true, Int.add_zero] at HF HN
                have HFN := Lib.hid (And.intro HF HN)
                clear HF HN hlk
                go_wp2_with fail
                go_meet
                have HH := HFN.out
                rw [HH.1, ← HH.2] at hD3
                exact ⟨rfl, M, hD3, (hU3.congr (usedB_same HPp.out HAi.out HUu.out)).more (Nat.le_succ _), hK3, hb3', B0, B1, B2⟩
            case rest =>
              obtain ⟨rfl, M', hD, hU, hK, hb', B0, B1, B2⟩ := hcut
              obtain ⟨wq, hwq⟩ : ∃ wq : World, wq = wc := ⟨_, rfl⟩
              subst hwq
              clear hD3 hU3 hK3 hb3' a1 a2 hsB hlk hE3
              have a3 := Ext.cell (E2.trans hb') HA.out.2.2
              have hsO := hK.1
              have hsB := lt_of_cell B0
              have hbc := lt_of_cell a3
              go_wp2_with fail
              have hgv : ∀ g, vc.ownBlock = some g → g < wo.heap.size ∨ wq.heap.size < g := fun g hg => by
                obtain ⟨_, _, ho, _⟩ := HD.out.own
                exact .inl (own_lt ho hg)
              have hD1 := hD.alloc (.cells #[.slice none 0 0, .slice none 0 0, .int .i64 p.minutes] 111)
              have hU1 := hU.alloc (.cells #[.slice none 0 0, .slice none 0 0, .int .i64 p.minutes] 111)
              have hO1 : OSt w wq.heap.size (wq.heap.size + 1) (wq.alloc (.cells #[.slice none 0 0, .slice none 0 0, .int .i64 p.minutes] 111)) (.slice none 0 0) (.slice none 0 0) [] [] p.minutes :=
                ⟨by go_simp, by go_simp, by go_simp, by go_simp, by go_simp, OwnL.nil, OwnL.nil⟩
              have hK1 := hK.alloc (.cells #[.slice none 0 0, .slice none 0 0, .int .i64 p.minutes] 111)
              have hb1 := hb'.alloc (.cells #[.slice none 0 0, .slice none 0 0, .int .i64 p.minutes] 111)
              have B1' : (wq.alloc (.cells #[.slice none 0 0, .slice none 0 0, .int .i64 p.minutes] 111)).cell? ⟨wo.heap.size, 1, none⟩ = some (.string p.road) := by go_simp
              generalize (wq.alloc (.cells #[.slice none 0 0, .slice none 0 0, .int .i64 p.minutes] 111)) = W1 at *
              clear hD hU hK hb' B0 B1 B2 a3
              go_loopw [86] (fun j wr => ∃ (n : Nat) (vc' vl vn : Value), n ≤ x.rules.length ∧ j = .int .i64 n ∧ DSt w2.heap.size wr vc' (condsN l t k ++ (ruleSel t p.road x.rules n).map (condOf k a)) (fee2 + costs (ruleSel t p.road x.rules n)) (noticeN l t (k + 1)) vd ∧
                USt w2.heap.size l.length wr (fun j => usedB l t (k + 1) j) (k + 1) M' ∧ OSt w wq.heap.size (wq.heap.size + 1) wr vl vn ((ruleSel t p.road x.rules n).map (·.1)) (((ruleSel t p.road x.rules n).zipIdx (condsN l t k).length).map (fun q => (q.2 : Int))) p.minutes ∧
                KT w2.heap.size wo wr ∧ Ext w2 wr ∧ wr.cell? ⟨wo.heap.size, 1, none⟩ = some (.string p.road) ∧ (∀ g, vc'.ownBlock = some g → g < wo.heap.size ∨ wq.heap.size < g)) (fun j _ => x.rules.length - (intOf j).toNat)
              case atStart => exact ⟨0, vc, _, _, by omega, rfl, by rw [ruleSel_zero]; simpa [costs] using hD1, hU1, by rw [ruleSel_zero]; exact hO1, hK1, hb1, B1', hgv⟩
              case round =>
                obtain ⟨n, vc', vl, vn, hn, rfl, hD, hU, hO, hK, hbi, B1, hgc⟩ := hrel
                clear hD1 hU1 hO1 hK1 hb1 B1' hgv
                have a3 := Ext.cell (E2.trans hbi) HA.out.2.2
                have hsW := hK.1
                have hlB := lt_of_cell B1
                have hlO := lt_of_cell hO.o0
                have hbc := lt_of_cell a3
                by_cases hlt2 : n < x.rules.length
                · obtain ⟨r, hr⟩ := some_of_lt hlt2
                  obtain ⟨rb, roff, rcs, rfl, _, ⟨wr1, wr2, wr3, rfl, hsl⟩, hrc⟩ := HR2.out.at hr
                  have Ewi := E2.trans hbi
                  have hrv := ruleB_parts (HA5.out r (mem_of_some hr))
                  have CF := fun w' (h : Ext wr w') => isFor_c _ _ _ r p.road t w' (hsl.ext (Ewi.trans h)) hrv.2.2.2.2.2.2.1
                  have HRR := Lib.hid (show RRule w (ruleCs wr1 wr2 wr3 r) r from ⟨wr1, wr2, wr3, rfl, hsl⟩)
                  have hcost := hrv.2.1
                  have k0 := hrc 0 _ rfl
                  have hrbl := lt_of_cell k0
                  replace k0 := Ext.cell Ewi k0
                  have k1 := Ext.cell Ewi (hrc 1 _ rfl)
                  have k2 := Ext.cell Ewi (hrc 2 _ rfl)
                  have k3 := Ext.cell Ewi (hrc 3 _ rfl)
                  have k4 := Ext.cell Ewi (hrc 4 _ rfl)
                  have k5 := Ext.cell Ewi (hrc 5 _ rfl)
                  have k6 := Ext.cell Ewi (hrc 6 _ rfl)
                  have k7 := Ext.cell Ewi (hrc 7 _ rfl)
                  have k8 := Ext.cell Ewi (hrc 8 _ rfl)
                  have k9 := Ext.cell Ewi (hrc 9 _ rfl)
                  have k10 := Ext.cell Ewi (hrc 10 _ rfl)
                  simp only [Nat.add_zero] at k0
                  obtain ⟨t0, t1, t2, t3, t4, t5, _⟩ := HT.out
                  replace t0 := Ext.cell hbi t0
                  replace t1 := Ext.cell hbi t1
                  replace t2 := Ext.cell hbi t2
                  replace t3 := Ext.cell hbi t3
                  replace t4 := Ext.cell hbi t4
                  replace t5 := Ext.cell hbi t5
                  have hlT := lt_of_cell t5
                  have HSS := Lib.hid (ruleSel_succ (t := t) (road := p.road) hr)
                  obtain ⟨f, hf⟩ : ∃ f, forB r p.road t = f := ⟨_, rfl⟩
                  rw [hf] at CF
                  have HFf := Lib.hid hf
                  have j1 : (0 : Int) ≤ (n : Int) := by omega
                  have j2 : (n : Int) < (x.rules.length : Int) := by omega
                  obtain ⟨S1, P1, rfl, _, _⟩ := hsl.1.shape
                  obtain ⟨S2, P2, rfl, _, _⟩ := hsl.2.1.shape
                  obtain ⟨S3, P3, rfl, _, _⟩ := hsl.2.2.shape
                  have HDD := Lib.hid hD
                  have HUU := Lib.hid hU
                  have HOO := Lib.hid hO
                  replace CF := Lib.hid CF
                  have HVR := Lib.hid (show ∀ g, vc'.ownBlock = some g → g < wr.heap.size from fun g e => by obtain ⟨_, _, ho, _⟩ := hD.own; exact own_lt ho e)
                  have HGC := Lib.hid hgc
                  clear hrc hsl hrv hr hf hD hU hO
                  cases f
                  · go_wp2_with (go_at_call 79; refine (CF.out _ (by (repeat' (first | exact Ext.refl _ | assumption | refine Ext.alloc ?_ _ | refine Ext.drew ?_ | refine Ext.drewN ?_ _ | refine Ext.set ?_ (by first | exact Nat.le_refl _ | exact le1 _ | exact le2 _ | exact le3 _ | exact le4 _ | exact le5 _ | exact le6 _) _ | refine Ext.trans ?_ (by assumption))))).mono ?_; rintro e w3 ⟨rfl, hb3⟩)
                    have hE3 : Ext wr w3 := by (repeat' (first | exact Ext.refl _ | assumption | refine Ext.alloc ?_ _ | refine Ext.drew ?_ | refine Ext.drewN ?_ _ | refine Ext.set ?_ (by first | exact Nat.le_refl _ | exact le1 _ | exact le2 _ | exact le3 _ | exact le4 _ | exact le5 _ | exact le6 _) _ | refine Ext.trans ?_ (by assumption)))
                    go_roundw
                    case rel =>
                      have hz : ruleSel t p.road x.rules (n + 1) = ruleSel t p.road x.rules n := by rw [HSS.out, HFf.out]; simp
                      exact ⟨n + 1, vc', vl, vn, by omega, by go_num, by rw [hz]; exact HDD.out.ext hE3, HUU.out.ext hE3, by rw [hz]; exact HOO.out.ext hE3, hK.ext hE3, hbi.trans hE3, Ext.cell hE3 B1, hgc⟩
                    case measure => simp [intOf]; omega
                  · go_wp2_with (go_at_call 79; refine (CF.out _ (by (repeat' (first | exact Ext.refl _ | assumption | refine Ext.alloc ?_ _ | refine Ext.drew ?_ | refine Ext.drewN ?_ _ | refine Ext.set ?_ (by first | exact Nat.le_refl _ | exact le1 _ | exact le2 _ | exact le3 _ | exact le4 _ | exact le5 _ | exact le6 _) _ | refine Ext.trans ?_ (by assumption))))).mono ?_; rintro e w3 ⟨rfl, hb3⟩)
                    have hE3 : Ext wr w3 := by (repeat' (first | exact Ext.refl _ | assumption | refine Ext.alloc ?_ _ | refine Ext.drew ?_ | refine Ext.drewN ?_ _ | refine Ext.set ?_ (by first | exact Nat.le_refl _ | exact le1 _ | exact le2 _ | exact le3 _ | exact le4 _ | exact le5 _ | exact le6 _) _ | refine Ext.trans ?_ (by assumption)))
                    have q0 := Ext.cell hb3 (p := ⟨wr.heap.size, 0, none⟩) (v := .string r.name) (by go_simp)
                    have q1 := Ext.cell hb3 (p := ⟨wr.heap.size, 1, none⟩) (v := .slice S1 r.roads.length P1) (by go_simp)
                    have q2 := Ext.cell hb3 (p := ⟨wr.heap.size, 2, none⟩) (v := .slice S2 r.whens.length P2) (by go_simp)
                    have q3 := Ext.cell hb3 (p := ⟨wr.heap.size, 3, none⟩) (v := .int .i64 r.h0) (by go_simp)
                    have q4 := Ext.cell hb3 (p := ⟨wr.heap.size, 4, none⟩) (v := .int .i64 r.h1) (by go_simp)
                    have q5 := Ext.cell hb3 (p := ⟨wr.heap.size, 5, none⟩) (v := .int .i64 r.days) (by go_simp)
                    have q6 := Ext.cell hb3 (p := ⟨wr.heap.size, 6, none⟩) (v := .int .i64 r.s0) (by go_simp)
                    have q7 := Ext.cell hb3 (p := ⟨wr.heap.size, 7, none⟩) (v := .int .i64 r.s1) (by go_simp)
                    have q8 := Ext.cell hb3 (p := ⟨wr.heap.size, 8, none⟩) (v := .bool r.forbid) (by go_simp)
                    have q9 := Ext.cell hb3 (p := ⟨wr.heap.size, 9, none⟩) (v := .slice S3 r.counts.length P3) (by go_simp)
                    have q10 := Ext.cell hb3 (p := ⟨wr.heap.size, 10, none⟩) (v := .int .i64 r.cost) (by go_simp)
                    have hz : ruleSel t p.road x.rules (n + 1) = ruleSel t p.road x.rules n ++ [(r, n)] := by rw [HSS.out, HFf.out]; simp
                    have hsl2 := ruleSel_len t p.road x.rules n
                    have hcl := condsN_len1 HV.out hK' k (by omega)
                    have CS := sel_cost (t := t) HAe.out p.road n (by omega)
                    have hD3 := HDD.out.ext hE3
                    have hO3 := HOO.out.ext hE3
                    obtain ⟨CL, hCL⟩ : ∃ CL, condsN l t k ++ (ruleSel t p.road x.rules n).map (condOf k a) = CL := ⟨_, rfl⟩
                    obtain ⟨L1, hL1⟩ : ∃ L1, (ruleSel t p.road x.rules n).map (·.1) = L1 := ⟨_, rfl⟩
                    obtain ⟨N1, hN1⟩ : ∃ N1, ((ruleSel t p.road x.rules n).zipIdx (condsN l t k).length).map (fun q => (q.2 : Int)) = N1 := ⟨_, rfl⟩
                    obtain ⟨fee3, hf3⟩ : ∃ f, fee2 + costs (ruleSel t p.road x.rules n) = f := ⟨_, rfl⟩
                    have hCn : CL.length ≤ 1000 := by rw [← hCL, List.length_append, List.length_map]; omega
                    have hLn : L1.length ≤ 24 := by rw [← hL1, List.length_map]; omega
                    have hNn : N1.length ≤ 24 := by rw [← hN1, List.length_map, List.length_zipIdx]; omega
                    have hCl : (CL.length : Int) = ((condsN l t k).length + (ruleSel t p.road x.rules n).length : Nat) := by rw [← hCL, List.length_append, List.length_map]
                    have hfb : 0 ≤ fee3 ∧ fee3 ≤ 2000000000000 := by rw [← hf3]; omega
                    rw [hCL, hf3] at hD3
                    rw [hL1, hN1] at hO3
                    have HZ := Lib.hid (And.intro hz (And.intro hCL (And.intro hL1 (And.intro hN1 (And.intro hf3 hCl)))))
                    have hLie : Lie w2.heap.size wo.heap.size wr.heap.size wq.heap.size wo w2 vl vn := by
                      obtain ⟨_, _, ho1, _⟩ := HOO.out.ol
                      obtain ⟨_, _, ho2, _⟩ := HOO.out.on
                      exact ⟨rfl, hsU, rfl, by omega, fun e => by have := own_lt ho1 e; omega, fun e => by have := own_lt ho2 e; omega⟩
                    have h24 : St24 w2.heap.size l.length wo.heap.size wr.heap.size wq.heap.size wo w2 w w3 vc' CL fee3 (noticeN l t (k + 1)) vd (fun j => usedB l t (k + 1) j) (k + 1) M' p.road r.cost vl vn vl vn L1 N1 p.minutes :=
                      ⟨hD3, HUU.out.ext hE3, hK.ext hE3, hbi.trans hE3, Ext.cell hE3 B1, q10, hO3.o0, hO3.o1, hO3.o2, hO3.g0, hO3.g1, hO3.ol, hO3.on⟩
                    obtain ⟨vA, vcap, hvA, _, _⟩ := hD3.own.sl.shape
                    subst hvA
                    have hlO3 := lt_of_cell hO3.o0
                    have hlR3 := lt_of_cell q10
                    have hlD3 := lt_of_cell hD3.d0
                    have a3' := Ext.cell hE3 a3
                    clear hb3 k0 k1 k2 k3 k4 k5 k6 k7 k8 k9 k10 t0 t1 t2 t3 t4 t5 hz hCL hL1 hN1 hf3 hsl2 hcl CS hCl hD3 hO3 CF HDD HUU HOO hK hbi B1 a3 hE3
                    go_cut [14] (fun s wc => s = .int .i64 n ∧ ∃ v1 v2, St24 w2.heap.size l.length wo.heap.size wr.heap.size wq.heap.size wo w2 w wc (.slice vA CL.length vcap) CL fee3 (noticeN l t (k + 1)) vd (fun j => usedB l t (k + 1) j) (k + 1) M' p.road r.cost v1 v2 v1 v2 (L1 ++ [r]) (N1 ++ [(CL.length : Int)]) p.minutes)
                    case first =>
                      obtain ⟨css1, hcs1, hown1, hcx1⟩ := h24.ol
                      obtain ⟨css2, hcs2, hown2, hcx2⟩ := h24.on
                      have o0 := h24.o0
                      have o1 := h24.o1
                      have g0 := h24.g0
                      have g1 := h24.g1
                      have d0 := h24.d.d0
                      have nO1 : vl.ownBlock ≠ some wq.heap.size := own_ne hown1 (Nat.lt_succ_self _)
                      have nO2 : vn.ownBlock ≠ some wq.heap.size := own_ne hown2 (Nat.lt_succ_self _)
                      have nR1 := hLie.rR
                      have nR2 := hLie.nR
                      have nD1 : vl.ownBlock ≠ some w2.heap.size := own_ne hown1 (by omega)
                      have nD2 : vn.ownBlock ≠ some w2.heap.size := own_ne hown2 (by omega)
                      have n12 : ∀ g, vl.ownBlock = some g → vn.ownBlock ≠ some g := fun g hg => own_types hown2 hown1 (by decide) hg
                      have HX1 := Lib.hid hcx1
                      have HX2 := Lib.hid hcx2
                      have HLi := Lib.hid hLie
                      have H24 := Lib.hid h24
                      clear hcx1 hcx2 hLie h24
                      have HSE : RowKit.Hid (∀ W W' : World, Ext W W' → (W.cell? ⟨wq.heap.size, 0, none⟩ = some vl ∧ W.cell? ⟨wq.heap.size, 1, none⟩ = some vn ∧ W.cell? ⟨wr.heap.size, 0, none⟩ = some (.string r.name) ∧ W.cell? ⟨wr.heap.size, 1, none⟩ = some (.slice S1 r.roads.length P1) ∧ W.cell? ⟨wr.heap.size, 2, none⟩ = some (.slice S2 r.whens.length P2) ∧ W.cell? ⟨wr.heap.size, 3, none⟩ = some (.int .i64 r.h0) ∧ W.cell? ⟨wr.heap.size, 4, none⟩ = some (.int .i64 r.h1) ∧ W.cell? ⟨wr.heap.size, 5, none⟩ = some (.int .i64 r.days) ∧ W.cell? ⟨wr.heap.size, 6, none⟩ = some (.int .i64 r.s0) ∧ W.cell? ⟨wr.heap.size, 7, none⟩ = some (.int .i64 r.s1) ∧ W.cell? ⟨wr.heap.size, 8, none⟩ = some (.bool r.forbid) ∧ W.cell? ⟨wr.heap.size, 9, none⟩ = some (.slice S3 r.counts.length P3) ∧ W.cell? ⟨wr.heap.size, 10, none⟩ = some (.int .i64 r.cost) ∧ W.cell? ⟨w2.heap.size, 0, none⟩ = some (.slice vA CL.length vcap)) → (W'.cell? ⟨wq.heap.size, 0, none⟩ = some vl ∧ W'.cell? ⟨wq.heap.size, 1, none⟩ = some vn ∧ W'.cell? ⟨wr.heap.size, 0, none⟩ = some (.string r.name) ∧ W'.cell? ⟨wr.heap.size, 1, none⟩ = some (.slice S1 r.roads.length P1) ∧ W'.cell? ⟨wr.heap.size, 2, none⟩ = some (.slice S2 r.whens.length P2) ∧ W'.cell? ⟨wr.heap.size, 3, none⟩ = some (.int .i64 r.h0) ∧ W'.cell? ⟨wr.heap.size, 4, none⟩ = some (.int .i64 r.h1) ∧ W'.cell? ⟨wr.heap.size, 5, none⟩ = some (.int .i64 r.days) ∧ W'.cell? ⟨wr.heap.size, 6, none⟩ = some (.int .i64 r.s0) ∧ W'.cell? ⟨wr.heap.size, 7, none⟩ = some (.int .i64 r.s1) ∧ W'.cell? ⟨wr.heap.size, 8, none⟩ = some (.bool r.forbid) ∧ W'.cell? ⟨wr.heap.size, 9, none⟩ = some (.slice S3 r.counts.length P3) ∧ W'.cell? ⟨wr.heap.size, 10, none⟩ = some (.int .i64 r.cost) ∧ W'.cell? ⟨w2.heap.size, 0, none⟩ = some (.slice vA CL.length vcap))) := fun W W' he ⟨s0, s1, s2, s3, s4, s5, s6, s7, s8, s9, s10, s11, s12, s13⟩ => ⟨he.cell s0, he.cell s1, he.cell s2, he.cell s3, he.cell s4, he.cell s5, he.cell s6, he.cell s7, he.cell s8, he.cell s9, he.cell s10, he.cell s11, he.cell s12, he.cell s13⟩
                      have HSG : RowKit.Hid (∀ (W W' : World) (row : Option Nat), W.grownBy W' row → row ≠ some wq.heap.size → row ≠ some wr.heap.size → row ≠ some w2.heap.size → (W.cell? ⟨wq.heap.size, 0, none⟩ = some vl ∧ W.cell? ⟨wq.heap.size, 1, none⟩ = some vn ∧ W.cell? ⟨wr.heap.size, 0, none⟩ = some (.string r.name) ∧ W.cell? ⟨wr.heap.size, 1, none⟩ = some (.slice S1 r.roads.length P1) ∧ W.cell? ⟨wr.heap.size, 2, none⟩ = some (.slice S2 r.whens.length P2) ∧ W.cell? ⟨wr.heap.size, 3, none⟩ = some (.int .i64 r.h0) ∧ W.cell? ⟨wr.heap.size, 4, none⟩ = some (.int .i64 r.h1) ∧ W.cell? ⟨wr.heap.size, 5, none⟩ = some (.int .i64 r.days) ∧ W.cell? ⟨wr.heap.size, 6, none⟩ = some (.int .i64 r.s0) ∧ W.cell? ⟨wr.heap.size, 7, none⟩ = some (.int .i64 r.s1) ∧ W.cell? ⟨wr.heap.size, 8, none⟩ = some (.bool r.forbid) ∧ W.cell? ⟨wr.heap.size, 9, none⟩ = some (.slice S3 r.counts.length P3) ∧ W.cell? ⟨wr.heap.size, 10, none⟩ = some (.int .i64 r.cost) ∧ W.cell? ⟨w2.heap.size, 0, none⟩ = some (.slice vA CL.length vcap)) → (W'.cell? ⟨wq.heap.size, 0, none⟩ = some vl ∧ W'.cell? ⟨wq.heap.size, 1, none⟩ = some vn ∧ W'.cell? ⟨wr.heap.size, 0, none⟩ = some (.string r.name) ∧ W'.cell? ⟨wr.heap.size, 1, none⟩ = some (.slice S1 r.roads.length P1) ∧ W'.cell? ⟨wr.heap.size, 2, none⟩ = some (.slice S2 r.whens.length P2) ∧ W'.cell? ⟨wr.heap.size, 3, none⟩ = some (.int .i64 r.h0) ∧ W'.cell? ⟨wr.heap.size, 4, none⟩ = some (.int .i64 r.h1) ∧ W'.cell? ⟨wr.heap.size, 5, none⟩ = some (.int .i64 r.days) ∧ W'.cell? ⟨wr.heap.size, 6, none⟩ = some (.int .i64 r.s0) ∧ W'.cell? ⟨wr.heap.size, 7, none⟩ = some (.int .i64 r.s1) ∧ W'.cell? ⟨wr.heap.size, 8, none⟩ = some (.bool r.forbid) ∧ W'.cell? ⟨wr.heap.size, 9, none⟩ = some (.slice S3 r.counts.length P3) ∧ W'.cell? ⟨wr.heap.size, 10, none⟩ = some (.int .i64 r.cost) ∧ W'.cell? ⟨w2.heap.size, 0, none⟩ = some (.slice vA CL.length vcap))) := fun W W' row hg g1 g2 g3 ⟨s0, s1, s2, s3, s4, s5, s6, s7, s8, s9, s10, s11, s12, s13⟩ =>
                        ⟨(hg.cell_far ⟨wq.heap.size, 0, none⟩ (lt_of_cell s0) (fun e => g1 e.symm)).trans s0, (hg.cell_far ⟨wq.heap.size, 1, none⟩ (lt_of_cell s1) (fun e => g1 e.symm)).trans s1, (hg.cell_far ⟨wr.heap.size, 0, none⟩ (lt_of_cell s2) (fun e => g2 e.symm)).trans s2, (hg.cell_far ⟨wr.heap.size, 1, none⟩ (lt_of_cell s3) (fun e => g2 e.symm)).trans s3, (hg.cell_far ⟨wr.heap.size, 2, none⟩ (lt_of_cell s4) (fun e => g2 e.symm)).trans s4, (hg.cell_far ⟨wr.heap.size, 3, none⟩ (lt_of_cell s5) (fun e => g2 e.symm)).trans s5, (hg.cell_far ⟨wr.heap.size, 4, none⟩ (lt_of_cell s6) (fun e => g2 e.symm)).trans s6, (hg.cell_far ⟨wr.heap.size, 5, none⟩ (lt_of_cell s7) (fun e => g2 e.symm)).trans s7, (hg.cell_far ⟨wr.heap.size, 6, none⟩ (lt_of_cell s8) (fun e => g2 e.symm)).trans s8, (hg.cell_far ⟨wr.heap.size, 7, none⟩ (lt_of_cell s9) (fun e => g2 e.symm)).trans s9, (hg.cell_far ⟨wr.heap.size, 8, none⟩ (lt_of_cell s10) (fun e => g2 e.symm)).trans s10, (hg.cell_far ⟨wr.heap.size, 9, none⟩ (lt_of_cell s11) (fun e => g2 e.symm)).trans s11, (hg.cell_far ⟨wr.heap.size, 10, none⟩ (lt_of_cell s12) (fun e => g2 e.symm)).trans s12, (hg.cell_far ⟨w2.heap.size, 0, none⟩ (lt_of_cell s13) (fun e => g3 e.symm)).trans s13⟩
                      have hS3 : w3.cell? ⟨wq.heap.size, 0, none⟩ = some vl ∧ w3.cell? ⟨wq.heap.size, 1, none⟩ = some vn ∧ w3.cell? ⟨wr.heap.size, 0, none⟩ = some (.string r.name) ∧ w3.cell? ⟨wr.heap.size, 1, none⟩ = some (.slice S1 r.roads.length P1) ∧ w3.cell? ⟨wr.heap.size, 2, none⟩ = some (.slice S2 r.whens.length P2) ∧ w3.cell? ⟨wr.heap.size, 3, none⟩ = some (.int .i64 r.h0) ∧ w3.cell? ⟨wr.heap.size, 4, none⟩ = some (.int .i64 r.h1) ∧ w3.cell? ⟨wr.heap.size, 5, none⟩ = some (.int .i64 r.days) ∧ w3.cell? ⟨wr.heap.size, 6, none⟩ = some (.int .i64 r.s0) ∧ w3.cell? ⟨wr.heap.size, 7, none⟩ = some (.int .i64 r.s1) ∧ w3.cell? ⟨wr.heap.size, 8, none⟩ = some (.bool r.forbid) ∧ w3.cell? ⟨wr.heap.size, 9, none⟩ = some (.slice S3 r.counts.length P3) ∧ w3.cell? ⟨wr.heap.size, 10, none⟩ = some (.int .i64 r.cost) ∧ w3.cell? ⟨w2.heap.size, 0, none⟩ = some (.slice vA CL.length vcap) := ⟨o0, o1, q0, q1, q2, q3, q4, q5, q6, q7, q8, q9, q10, d0⟩
                      clear o0 o1 q0 q1 q2 q3 q4 q5 q6 q7 q8 q9 q10 d0 g0 g1
                      refine end_region (fun i => i == 16) (S := (fun w' => w'.cell? ⟨wq.heap.size, 0, none⟩ = some vl ∧ w'.cell? ⟨wq.heap.size, 1, none⟩ = some vn ∧ w'.cell? ⟨wr.heap.size, 0, none⟩ = some (.string r.name) ∧ w'.cell? ⟨wr.heap.size, 1, none⟩ = some (.slice S1 r.roads.length P1) ∧ w'.cell? ⟨wr.heap.size, 2, none⟩ = some (.slice S2 r.whens.length P2) ∧ w'.cell? ⟨wr.heap.size, 3, none⟩ = some (.int .i64 r.h0) ∧ w'.cell? ⟨wr.heap.size, 4, none⟩ = some (.int .i64 r.h1) ∧ w'.cell? ⟨wr.heap.size, 5, none⟩ = some (.int .i64 r.days) ∧ w'.cell? ⟨wr.heap.size, 6, none⟩ = some (.int .i64 r.s0) ∧ w'.cell? ⟨wr.heap.size, 7, none⟩ = some (.int .i64 r.s1) ∧ w'.cell? ⟨wr.heap.size, 8, none⟩ = some (.bool r.forbid) ∧ w'.cell? ⟨wr.heap.size, 9, none⟩ = some (.slice S3 r.counts.length P3) ∧ w'.cell? ⟨wr.heap.size, 10, none⟩ = some (.int .i64 r.cost) ∧ w'.cell? ⟨w2.heap.size, 0, none⟩ = some (.slice vA CL.length vcap))) (by kernel_rfl) hS3 (fun hS => ?_)
                      have ED : Ext w3 w3.drew := (Ext.refl w3).drew
                      have h24d := H24.out.ext ED
                      replace hown1 := ownsRow_ext hown1 ED
                      replace hown2 := ownsRow_ext hown2 ED
                      have hlq : wq.heap.size < w3.drew.heap.size := hlO3
                      have hlRd : wr.heap.size < w3.drew.heap.size := hlR3
                      generalize w3.drew = wd at *
                      have HV1 := Lib.hid (fun g (e : vl.ownBlock = some g) => own_lt hown1 e)
                      have hzz : wd.heap.size ≤ wd.heap.size := Nat.le_refl _
                      clear hS3 ED
                      refine end_take (i := 0) (v := ?_) rfl (by kernel_rfl) (by kernel_rfl) (by kernel_rfl) (by kernel_rfl) (by kernel_rfl) (fun _ _ _ h => h) (Or.inl ⟨by rfl, ?_⟩) (by assumption) ?_
                      rotate_left
                      · (intro w hSw; (try dsimp only at hSw); go_simp; (first | done | with_reducible rfl))
                      simp only [Act.put, List.setIfInBounds_toArray, List.set_cons_zero, List.set_cons_succ]
                      refine end_take (i := 1) (v := ?_) rfl (by kernel_rfl) (by kernel_rfl) (by kernel_rfl) (by kernel_rfl) (by kernel_rfl) (fun _ _ _ h => h) (Or.inl ⟨by rfl, ?_⟩) (by assumption) ?_
                      rotate_left
                      · (intro w hSw; (try dsimp only at hSw); go_simp; (first | done | with_reducible rfl))
                      simp only [Act.put, List.setIfInBounds_toArray, List.set_cons_zero, List.set_cons_succ]
                      refine end_take (i := 2) (v := ?_) rfl (by kernel_rfl) (by kernel_rfl) (by kernel_rfl) (by kernel_rfl) (by kernel_rfl) (fun _ _ _ h => h) (Or.inl ⟨by rfl, ?_⟩) (by assumption) ?_
                      rotate_left
                      · (intro w hSw; (try dsimp only at hSw); go_simp; (first | done | with_reducible rfl))
                      simp only [Act.put, List.setIfInBounds_toArray, List.set_cons_zero, List.set_cons_succ]
                      refine end_take (i := 5) (v := ?_) rfl (by kernel_rfl) (by kernel_rfl) (by kernel_rfl) (by kernel_rfl) (by kernel_rfl) (fun _ _ _ h => h) (Or.inl ⟨by rfl, ?_⟩) (by assumption) ?_
                      rotate_left
                      · (intro w hSw; (try dsimp only at hSw); go_simp; (first | done | with_reducible rfl))
                      simp only [Act.put, List.setIfInBounds_toArray, List.set_cons_zero, List.set_cons_succ]
                      refine end_take (i := 6) (v := ?_) rfl (by kernel_rfl) (by kernel_rfl) (by kernel_rfl) (by kernel_rfl) (by kernel_rfl) (fun _ _ _ h => h) (Or.inl ⟨by rfl, ?_⟩) (by assumption) ?_
                      rotate_left
                      · (intro w hSw; (try dsimp only at hSw); go_simp; (first | done | with_reducible rfl))
                      simp only [Act.put, List.setIfInBounds_toArray, List.set_cons_zero, List.set_cons_succ]
                      refine end_take (i := 7) (v := ?_) rfl (by kernel_rfl) (by kernel_rfl) (by kernel_rfl) (by kernel_rfl) (by kernel_rfl) (fun _ _ _ h => h) (Or.inl ⟨by rfl, ?_⟩) (by assumption) ?_
                      rotate_left
                      · (intro w hSw; (try dsimp only at hSw); go_simp; (first | done | with_reducible rfl))
                      simp only [Act.put, List.setIfInBounds_toArray, List.set_cons_zero, List.set_cons_succ]
                      refine end_take (i := 8) (v := ?_) rfl (by kernel_rfl) (by kernel_rfl) (by kernel_rfl) (by kernel_rfl) (by kernel_rfl) (fun _ _ _ h => h) (Or.inl ⟨by rfl, ?_⟩) (by assumption) ?_
                      rotate_left
                      · (intro w hSw; (try dsimp only at hSw); go_simp; (first | done | with_reducible rfl))
                      simp only [Act.put, List.setIfInBounds_toArray, List.set_cons_zero, List.set_cons_succ]
                      refine end_take (i := 9) (v := ?_) rfl (by kernel_rfl) (by kernel_rfl) (by kernel_rfl) (by kernel_rfl) (by kernel_rfl) (fun _ _ _ h => h) (Or.inl ⟨by rfl, ?_⟩) (by assumption) ?_
                      rotate_left
                      · (intro w hSw; (try dsimp only at hSw); go_simp; (first | done | with_reducible rfl))
                      simp only [Act.put, List.setIfInBounds_toArray, List.set_cons_zero, List.set_cons_succ]
                      refine end_take (i := 10) (v := ?_) rfl (by kernel_rfl) (by kernel_rfl) (by kernel_rfl) (by kernel_rfl) (by kernel_rfl) (fun _ _ _ h => h) (Or.inl ⟨by rfl, ?_⟩) (by assumption) ?_
                      rotate_left
                      · (intro w hSw; (try dsimp only at hSw); go_simp; (first | done | with_reducible rfl))
                      simp only [Act.put, List.setIfInBounds_toArray, List.set_cons_zero, List.set_cons_succ]
                      refine end_take (i := 11) (v := ?_) rfl (by kernel_rfl) (by kernel_rfl) (by kernel_rfl) (by kernel_rfl) (by kernel_rfl) (fun _ _ _ h => h) (Or.inl ⟨by rfl, ?_⟩) (by assumption) ?_
                      rotate_left
                      · (intro w hSw; (try dsimp only at hSw); go_simp; (first | done | with_reducible rfl))
                      simp only [Act.put, List.setIfInBounds_toArray, List.set_cons_zero, List.set_cons_succ]
                      refine end_take (i := 12) (v := ?_) rfl (by kernel_rfl) (by kernel_rfl) (by kernel_rfl) (by kernel_rfl) (by kernel_rfl) (fun _ _ _ h => h) (Or.inl ⟨by rfl, ?_⟩) (by assumption) ?_
                      rotate_left
                      · (intro w hSw; (try dsimp only at hSw); go_simp; (first | done | with_reducible rfl))
                      simp only [Act.put, List.setIfInBounds_toArray, List.set_cons_zero, List.set_cons_succ]
                      refine end_two (i := 3) (k := 13) rfl rfl (by kernel_rfl) (by rfl) (by rfl) (fun K hK => ?_) (fun K hK => ?_)
                      · skip
                        go_simp
                        have EwA : Ext wd (wd.alloc (.cells #[.string r.name, .slice S1 r.roads.length P1, .slice S2 r.whens.length P2, .int .i64 r.h0, .int .i64 r.h1, .int .i64 r.days, .int .i64 r.s0, .int .i64 r.s1, .bool r.forbid, .slice S3 r.counts.length P3, .int .i64 r.cost] 58)) := (Ext.refl _).alloc _
                        have NR : (wd.alloc (.cells #[.string r.name, .slice S1 r.roads.length P1, .slice S2 r.whens.length P2, .int .i64 r.h0, .int .i64 r.h1, .int .i64 r.days, .int .i64 r.s0, .int .i64 r.s1, .bool r.forbid, .slice S3 r.counts.length P3, .int .i64 r.cost] 58)).heap[wd.heap.size]? = some (.cells #[.string r.name, .slice S1 r.roads.length P1, .slice S2 r.whens.length P2, .int .i64 r.h0, .int .i64 r.h1, .int .i64 r.days, .int .i64 r.s0, .int .i64 r.s1, .bool r.forbid, .slice S3 r.counts.length P3, .int .i64 r.cost] 58 (0, 0)) := heap_alloc_new _ _
                        refine hK.out _ _ (HSE.out _ _ EwA hS) (fun hS => ?_)
                        have h24 := h24d.ext EwA
                        replace hown1 := ownsRow_ext hown1 EwA
                        replace hown2 := ownsRow_ext hown2 EwA
                        have hlq : wq.heap.size < (wd.alloc (.cells #[.string r.name, .slice S1 r.roads.length P1, .slice S2 r.whens.length P2, .int .i64 r.h0, .int .i64 r.h1, .int .i64 r.days, .int .i64 r.s0, .int .i64 r.s1, .bool r.forbid, .slice S3 r.counts.length P3, .int .i64 r.cost] 58)).heap.size := by rw [size_alloc]; omega
                        obtain ⟨bNR, hbNR⟩ : ∃ x, wd.heap.size = x := ⟨_, rfl⟩
                        have hleNR : wd.heap.size ≤ bNR := by omega
                        replace hzz : wd.heap.size ≤ (wd.alloc (.cells #[.string r.name, .slice S1 r.roads.length P1, .slice S2 r.whens.length P2, .int .i64 r.h0, .int .i64 r.h1, .int .i64 r.days, .int .i64 r.s0, .int .i64 r.s1, .bool r.forbid, .slice S3 r.counts.length P3, .int .i64 r.cost] 58)).heap.size := by rw [size_alloc]; omega
                        rw [hbNR] at NR ⊢
                        generalize (wd.alloc (.cells #[.string r.name, .slice S1 r.roads.length P1, .slice S2 r.whens.length P2, .int .i64 r.h0, .int .i64 r.h1, .int .i64 r.days, .int .i64 r.s0, .int .i64 r.s1, .bool r.forbid, .slice S3 r.counts.length P3, .int .i64 r.cost] 58)) = wA at *
                        clear hbNR EwA
                        refine end_two (i := 4) (k := 13) rfl rfl (by kernel_rfl) (by rfl) (by rfl) (fun K hK => ?_) (fun K hK => ?_)
                        · skip
                          refine step_append_lies _ (by rfl) _ _ _ (by rfl) (wq.heap.size + 1) 58 i2 _ 11 144 Try.underlying42 hi2 hx0 hx1 hx2 rfl (by omega) vl L1.length css1.flatten (by rfl) hown1 ⟨bNR, 0, none⟩ 1 1 (ruleCs (.slice S1 r.roads.length P1) (.slice S2 r.whens.length P2) (.slice S3 r.counts.length P3) r) (by rfl) (by rfl) (World.news_of_block (cs := #[.string r.name, .slice S1 r.roads.length P1, .slice S2 r.whens.length P2, .int .i64 r.h0, .int .i64 r.h1, .int .i64 r.days, .int .i64 r.s0, .int .i64 r.s1, .bool r.forbid, .slice S3 r.counts.length P3, .int .i64 r.cost]) (t := 58) (fr := (0, 0)) NR) (by simp [ruleCs, Value.oneCell']) (by omega) (by unfold maxLen; omega) (by omega) (by omega) _ (by rfl) ?_
                          intro g4 cap4 wB hown4 hgrow4 hat4 hlt4
                          have hS4 := HSG.out _ _ _ hgrow4 nO1 nR1 nD1 hS
                          refine hK.out _ _ hS4 (fun hS => ?_)
                          have h24 := St24.appL h24 HLi.out hcs1 HX1.out hown4 rfl HRR.out hgrow4
                          have hsz4 := hgrow4.size
                          replace hown2 := ownsRow_grown hown2 hgrow4 n12
                          have HL4 := Lib.hid (show Lie w2.heap.size wo.heap.size wr.heap.size wq.heap.size wo w2 (.slice (some ⟨g4, 0, none⟩) (L1.length + 1) cap4) vn from ⟨rfl, hsU, rfl, HLi.out.BO, fun e => by (simp only [Value.ownBlock, Option.some.injEq] at e; subst e; rcases hat4 with h | h; exact HLi.out.rR h; omega), HLi.out.nR⟩)
                          have hlq : wq.heap.size < wB.heap.size := by omega
                          replace hzz : wd.heap.size ≤ wB.heap.size := by omega
                          clear hS4 hgrow4 hown4 hown1
                          refine end_takeY (i := 15) (v := ?_) rfl (by kernel_rfl) (by kernel_rfl) (by kernel_rfl) (by rfl) (fun _ _ _ h => h) (Or.inl ⟨by rfl, ?_⟩) (by assumption) ?_
                          rotate_left
                          · (intro w; go_simp; (first | done | with_reducible rfl))
                          simp only [Act.put, List.setIfInBounds_toArray, List.set_cons_zero, List.set_cons_succ]
                          refine end_one (i := 13) rfl (by kernel_rfl) (by rfl) (fun K hK => ?_)
                          go_simp
                          have EwC : Ext wB (wB.alloc (.cells #[.int .i64 CL.length] 3)) := (Ext.refl _).alloc _
                          have NI : (wB.alloc (.cells #[.int .i64 CL.length] 3)).heap[wB.heap.size]? = some (.cells #[.int .i64 CL.length] 3 (0, 0)) := heap_alloc_new _ _
                          refine hK.out _ _ (HSE.out _ _ EwC hS) (fun hS => ?_)
                          have h24 := h24.ext EwC
                          replace hown2 := ownsRow_ext hown2 EwC
                          have hlq : wq.heap.size < (wB.alloc (.cells #[.int .i64 CL.length] 3)).heap.size := by rw [size_alloc]; omega
                          obtain ⟨bNI, hbNI⟩ : ∃ x, wB.heap.size = x := ⟨_, rfl⟩
                          have hleNI : wd.heap.size ≤ bNI := by omega
                          replace hzz : wd.heap.size ≤ (wB.alloc (.cells #[.int .i64 CL.length] 3)).heap.size := by rw [size_alloc]; omega
                          rw [hbNI] at NI ⊢
                          generalize (wB.alloc (.cells #[.int .i64 CL.length] 3)) = wC at *
                          clear hbNI EwC
                          refine end_one (i := 14) rfl (by kernel_rfl) (by rfl) (fun K hK => ?_)
                          refine step_append_lies _ (by rfl) _ _ _ (by rfl) (wq.heap.size + 1) 3 i1 _ 1 8 Try.underlying41 hi1 hy0 hy1 hy2 rfl (by omega) vn N1.length css2.flatten (by rfl) hown2 ⟨bNI, 0, none⟩ 1 1 [.int .i64 CL.length] (by rfl) (by rfl) (World.news_of_block (cs := #[.int .i64 CL.length]) (t := 3) (fr := (0, 0)) NI) (by simp [Value.oneCell']) (by omega) (by unfold maxLen; omega) (by omega) (by omega) _ (by rfl) ?_
                          intro g5 cap5 wD hown5 hgrow5 hat5 hlt5
                          have hS5 := HSG.out _ _ _ hgrow5 nO2 nR2 nD2 hS
                          refine hK.out _ _ hS5 (fun hS => ?_)
                          have h24 := St24.appN (w0 := w) h24 HL4.out hcs2 HX2.out hown5 hgrow5
                          have p0 := h24.o0
                          have p1 := h24.o1
                          have f0 := h24.g0
                          have f1 := h24.g1
                          have hlo := lt_of_cell p0
                          have H24z := Lib.hid h24
                          clear h24
                          refine end_only (i := 16) rfl (by kernel_rfl) (by rfl) (fun K hK => ?_)
                          go_simp
                          refine hK.out _ _ ?_
                          refine eany_one (i := 17) rfl (by kernel_rfl) (fun K hK => ?_)
                          go_simp
                          refine hK.out _ _ ?_
                          refine eany_one (i := 18) rfl (by kernel_rfl) (fun K hK => ?_)
                          go_simp
                          refine hK.out _ _ ?_
                          refine eany_done (by kernel_rfl) ?_ _
                          go_wp2_with fail
                          go_meet
                          exact ⟨rfl, _, _, H24z.out.store HLi.out (by omega) HGC.out⟩
                        · skip
                          go_simp
                          have EwB : Ext wA (wA.alloc (.cells #[.int .i64 CL.length] 3)) := (Ext.refl _).alloc _
                          have NI : (wA.alloc (.cells #[.int .i64 CL.length] 3)).heap[wA.heap.size]? = some (.cells #[.int .i64 CL.length] 3 (0, 0)) := heap_alloc_new _ _
                          refine hK.out _ _ (HSE.out _ _ EwB hS) (fun hS => ?_)
                          have h24 := h24.ext EwB
                          replace hown1 := ownsRow_ext hown1 EwB
                          replace hown2 := ownsRow_ext hown2 EwB
                          have hlq : wq.heap.size < (wA.alloc (.cells #[.int .i64 CL.length] 3)).heap.size := by rw [size_alloc]; omega
                          replace NR := (EwB.block _ (Array.getElem?_eq_some_iff.1 NR).1).trans NR
                          obtain ⟨bNI, hbNI⟩ : ∃ x, wA.heap.size = x := ⟨_, rfl⟩
                          have hleNI : wd.heap.size ≤ bNI := by omega
                          replace hzz : wd.heap.size ≤ (wA.alloc (.cells #[.int .i64 CL.length] 3)).heap.size := by rw [size_alloc]; omega
                          rw [hbNI] at NI ⊢
                          generalize (wA.alloc (.cells #[.int .i64 CL.length] 3)) = wB at *
                          clear hbNI EwB
                          refine end_one (i := 4) rfl (by kernel_rfl) (by rfl) (fun K hK => ?_)
                          refine step_append_lies _ (by rfl) _ _ _ (by rfl) (wq.heap.size + 1) 58 i2 _ 11 144 Try.underlying42 hi2 hx0 hx1 hx2 rfl (by omega) vl L1.length css1.flatten (by rfl) hown1 ⟨bNR, 0, none⟩ 1 1 (ruleCs (.slice S1 r.roads.length P1) (.slice S2 r.whens.length P2) (.slice S3 r.counts.length P3) r) (by rfl) (by rfl) (World.news_of_block (cs := #[.string r.name, .slice S1 r.roads.length P1, .slice S2 r.whens.length P2, .int .i64 r.h0, .int .i64 r.h1, .int .i64 r.days, .int .i64 r.s0, .int .i64 r.s1, .bool r.forbid, .slice S3 r.counts.length P3, .int .i64 r.cost]) (t := 58) (fr := (0, 0)) NR) (by simp [ruleCs, Value.oneCell']) (by omega) (by unfold maxLen; omega) (by omega) (by omega) _ (by rfl) ?_
                          intro g4 cap4 wC hown4 hgrow4 hat4 hlt4
                          have hS4 := HSG.out _ _ _ hgrow4 nO1 nR1 nD1 hS
                          refine hK.out _ _ hS4 (fun hS => ?_)
                          have h24 := St24.appL h24 HLi.out hcs1 HX1.out hown4 rfl HRR.out hgrow4
                          have hsz4 := hgrow4.size
                          replace hown2 := ownsRow_grown hown2 hgrow4 n12
                          have HL4 := Lib.hid (show Lie w2.heap.size wo.heap.size wr.heap.size wq.heap.size wo w2 (.slice (some ⟨g4, 0, none⟩) (L1.length + 1) cap4) vn from ⟨rfl, hsU, rfl, HLi.out.BO, fun e => by (simp only [Value.ownBlock, Option.some.injEq] at e; subst e; rcases hat4 with h | h; exact HLi.out.rR h; omega), HLi.out.nR⟩)
                          have hlq : wq.heap.size < wC.heap.size := by omega
                          replace hzz : wd.heap.size ≤ wC.heap.size := by omega
                          replace NI := (hgrow4.block _ (Array.getElem?_eq_some_iff.1 NI).1 (fun e => by have := HV1.out _ e.symm; omega)).trans NI
                          clear hS4 hgrow4 hown4 hown1
                          refine end_takeY (i := 15) (v := ?_) rfl (by kernel_rfl) (by kernel_rfl) (by kernel_rfl) (by rfl) (fun _ _ _ h => h) (Or.inl ⟨by rfl, ?_⟩) (by assumption) ?_
                          rotate_left
                          · (intro w; go_simp; (first | done | with_reducible rfl))
                          simp only [Act.put, List.setIfInBounds_toArray, List.set_cons_zero, List.set_cons_succ]
                          refine end_one (i := 14) rfl (by kernel_rfl) (by rfl) (fun K hK => ?_)
                          refine step_append_lies _ (by rfl) _ _ _ (by rfl) (wq.heap.size + 1) 3 i1 _ 1 8 Try.underlying41 hi1 hy0 hy1 hy2 rfl (by omega) vn N1.length css2.flatten (by rfl) hown2 ⟨bNI, 0, none⟩ 1 1 [.int .i64 CL.length] (by rfl) (by rfl) (World.news_of_block (cs := #[.int .i64 CL.length]) (t := 3) (fr := (0, 0)) NI) (by simp [Value.oneCell']) (by omega) (by unfold maxLen; omega) (by omega) (by omega) _ (by rfl) ?_
                          intro g5 cap5 wD hown5 hgrow5 hat5 hlt5
                          have hS5 := HSG.out _ _ _ hgrow5 nO2 nR2 nD2 hS
                          refine hK.out _ _ hS5 (fun hS => ?_)
                          have h24 := St24.appN (w0 := w) h24 HL4.out hcs2 HX2.out hown5 hgrow5
                          have p0 := h24.o0
                          have p1 := h24.o1
                          have f0 := h24.g0
                          have f1 := h24.g1
                          have hlo := lt_of_cell p0
                          have H24z := Lib.hid h24
                          clear h24
                          refine end_only (i := 16) rfl (by kernel_rfl) (by rfl) (fun K hK => ?_)
                          go_simp
                          refine hK.out _ _ ?_
                          refine eany_one (i := 17) rfl (by kernel_rfl) (fun K hK => ?_)
                          go_simp
                          refine hK.out _ _ ?_
                          refine eany_one (i := 18) rfl (by kernel_rfl) (fun K hK => ?_)
                          go_simp
                          refine hK.out _ _ ?_
                          refine eany_done (by kernel_rfl) ?_ _
                          go_wp2_with fail
                          go_meet
                          exact ⟨rfl, _, _, H24z.out.store HLi.out (by omega) HGC.out⟩
                      · skip
                        go_simp
                        have EwA : Ext wd (wd.alloc (.cells #[.int .i64 CL.length] 3)) := (Ext.refl _).alloc _
                        have NI : (wd.alloc (.cells #[.int .i64 CL.length] 3)).heap[wd.heap.size]? = some (.cells #[.int .i64 CL.length] 3 (0, 0)) := heap_alloc_new _ _
                        refine hK.out _ _ (HSE.out _ _ EwA hS) (fun hS => ?_)
                        have h24 := h24d.ext EwA
                        replace hown1 := ownsRow_ext hown1 EwA
                        replace hown2 := ownsRow_ext hown2 EwA
                        have hlq : wq.heap.size < (wd.alloc (.cells #[.int .i64 CL.length] 3)).heap.size := by rw [size_alloc]; omega
                        obtain ⟨bNI, hbNI⟩ : ∃ x, wd.heap.size = x := ⟨_, rfl⟩
                        have hleNI : wd.heap.size ≤ bNI := by omega
                        replace hzz : wd.heap.size ≤ (wd.alloc (.cells #[.int .i64 CL.length] 3)).heap.size := by rw [size_alloc]; omega
                        rw [hbNI] at NI ⊢
                        generalize (wd.alloc (.cells #[.int .i64 CL.length] 3)) = wA at *
                        clear hbNI EwA
                        refine end_one (i := 3) rfl (by kernel_rfl) (by rfl) (fun K hK => ?_)
                        go_simp
                        have EwB : Ext wA (wA.alloc (.cells #[.string r.name, .slice S1 r.roads.length P1, .slice S2 r.whens.length P2, .int .i64 r.h0, .int .i64 r.h1, .int .i64 r.days, .int .i64 r.s0, .int .i64 r.s1, .bool r.forbid, .slice S3 r.counts.length P3, .int .i64 r.cost] 58)) := (Ext.refl _).alloc _
                        have NR : (wA.alloc (.cells #[.string r.name, .slice S1 r.roads.length P1, .slice S2 r.whens.length P2, .int .i64 r.h0, .int .i64 r.h1, .int .i64 r.days, .int .i64 r.s0, .int .i64 r.s1, .bool r.forbid, .slice S3 r.counts.length P3, .int .i64 r.cost] 58)).heap[wA.heap.size]? = some (.cells #[.string r.name, .slice S1 r.roads.length P1, .slice S2 r.whens.length P2, .int .i64 r.h0, .int .i64 r.h1, .int .i64 r.days, .int .i64 r.s0, .int .i64 r.s1, .bool r.forbid, .slice S3 r.counts.length P3, .int .i64 r.cost] 58 (0, 0)) := heap_alloc_new _ _
                        refine hK.out _ _ (HSE.out _ _ EwB hS) (fun hS => ?_)
                        have h24 := h24.ext EwB
                        replace hown1 := ownsRow_ext hown1 EwB
                        replace hown2 := ownsRow_ext hown2 EwB
                        have hlq : wq.heap.size < (wA.alloc (.cells #[.string r.name, .slice S1 r.roads.length P1, .slice S2 r.whens.length P2, .int .i64 r.h0, .int .i64 r.h1, .int .i64 r.days, .int .i64 r.s0, .int .i64 r.s1, .bool r.forbid, .slice S3 r.counts.length P3, .int .i64 r.cost] 58)).heap.size := by rw [size_alloc]; omega
                        replace NI := (EwB.block _ (Array.getElem?_eq_some_iff.1 NI).1).trans NI
                        obtain ⟨bNR, hbNR⟩ : ∃ x, wA.heap.size = x := ⟨_, rfl⟩
                        have hleNR : wd.heap.size ≤ bNR := by omega
                        replace hzz : wd.heap.size ≤ (wA.alloc (.cells #[.string r.name, .slice S1 r.roads.length P1, .slice S2 r.whens.length P2, .int .i64 r.h0, .int .i64 r.h1, .int .i64 r.days, .int .i64 r.s0, .int .i64 r.s1, .bool r.forbid, .slice S3 r.counts.length P3, .int .i64 r.cost] 58)).heap.size := by rw [size_alloc]; omega
                        rw [hbNR] at NR ⊢
                        generalize (wA.alloc (.cells #[.string r.name, .slice S1 r.roads.length P1, .slice S2 r.whens.length P2, .int .i64 r.h0, .int .i64 r.h1, .int .i64 r.days, .int .i64 r.s0, .int .i64 r.s1, .bool r.forbid, .slice S3 r.counts.length P3, .int .i64 r.cost] 58)) = wB at *
                        clear hbNR EwB
                        refine end_one (i := 4) rfl (by kernel_rfl) (by rfl) (fun K hK => ?_)
                        refine step_append_lies _ (by rfl) _ _ _ (by rfl) (wq.heap.size + 1) 58 i2 _ 11 144 Try.underlying42 hi2 hx0 hx1 hx2 rfl (by omega) vl L1.length css1.flatten (by rfl) hown1 ⟨bNR, 0, none⟩ 1 1 (ruleCs (.slice S1 r.roads.length P1) (.slice S2 r.whens.length P2) (.slice S3 r.counts.length P3) r) (by rfl) (by rfl) (World.news_of_block (cs := #[.string r.name, .slice S1 r.roads.length P1, .slice S2 r.whens.length P2, .int .i64 r.h0, .int .i64 r.h1, .int .i64 r.days, .int .i64 r.s0, .int .i64 r.s1, .bool r.forbid, .slice S3 r.counts.length P3, .int .i64 r.cost]) (t := 58) (fr := (0, 0)) NR) (by simp [ruleCs, Value.oneCell']) (by omega) (by unfold maxLen; omega) (by omega) (by omega) _ (by rfl) ?_
                        intro g4 cap4 wC hown4 hgrow4 hat4 hlt4
                        have hS4 := HSG.out _ _ _ hgrow4 nO1 nR1 nD1 hS
                        refine hK.out _ _ hS4 (fun hS => ?_)
                        have h24 := St24.appL h24 HLi.out hcs1 HX1.out hown4 rfl HRR.out hgrow4
                        have hsz4 := hgrow4.size
                        replace hown2 := ownsRow_grown hown2 hgrow4 n12
                        have HL4 := Lib.hid (show Lie w2.heap.size wo.heap.size wr.heap.size wq.heap.size wo w2 (.slice (some ⟨g4, 0, none⟩) (L1.length + 1) cap4) vn from ⟨rfl, hsU, rfl, HLi.out.BO, fun e => by (simp only [Value.ownBlock, Option.some.injEq] at e; subst e; rcases hat4 with h | h; exact HLi.out.rR h; omega), HLi.out.nR⟩)
                        have hlq : wq.heap.size < wC.heap.size := by omega
                        replace hzz : wd.heap.size ≤ wC.heap.size := by omega
                        replace NI := (hgrow4.block _ (Array.getElem?_eq_some_iff.1 NI).1 (fun e => by have := HV1.out _ e.symm; omega)).trans NI
                        clear hS4 hgrow4 hown4 hown1
                        refine end_takeY (i := 15) (v := ?_) rfl (by kernel_rfl) (by kernel_rfl) (by kernel_rfl) (by rfl) (fun _ _ _ h => h) (Or.inl ⟨by rfl, ?_⟩) (by assumption) ?_
                        rotate_left
                        · (intro w; go_simp; (first | done | with_reducible rfl))
                        simp only [Act.put, List.setIfInBounds_toArray, List.set_cons_zero, List.set_cons_succ]
                        refine end_one (i := 14) rfl (by kernel_rfl) (by rfl) (fun K hK => ?_)
                        refine step_append_lies _ (by rfl) _ _ _ (by rfl) (wq.heap.size + 1) 3 i1 _ 1 8 Try.underlying41 hi1 hy0 hy1 hy2 rfl (by omega) vn N1.length css2.flatten (by rfl) hown2 ⟨bNI, 0, none⟩ 1 1 [.int .i64 CL.length] (by rfl) (by rfl) (World.news_of_block (cs := #[.int .i64 CL.length]) (t := 3) (fr := (0, 0)) NI) (by simp [Value.oneCell']) (by omega) (by unfold maxLen; omega) (by omega) (by omega) _ (by rfl) ?_
                        intro g5 cap5 wD hown5 hgrow5 hat5 hlt5
                        have hS5 := HSG.out _ _ _ hgrow5 nO2 nR2 nD2 hS
                        refine hK.out _ _ hS5 (fun hS => ?_)
                        have h24 := St24.appN (w0 := w) h24 HL4.out hcs2 HX2.out hown5 hgrow5
                        have p0 := h24.o0
                        have p1 := h24.o1
                        have f0 := h24.g0
                        have f1 := h24.g1
                        have hlo := lt_of_cell p0
                        have H24z := Lib.hid h24
                        clear h24
                        refine end_only (i := 16) rfl (by kernel_rfl) (by rfl) (fun K hK => ?_)
                        go_simp
                        refine hK.out _ _ ?_
                        refine eany_one (i := 17) rfl (by kernel_rfl) (fun K hK => ?_)
                        go_simp
                        refine hK.out _ _ ?_
                        refine eany_one (i := 18) rfl (by kernel_rfl) (fun K hK => ?_)
                        go_simp
                        refine hK.out _ _ ?_
                        refine eany_done (by kernel_rfl) ?_ _
                        go_wp2_with fail
                        go_meet
                        exact ⟨rfl, _, _, H24z.out.store HLi.out (by omega) HGC.out⟩
                    case rest =>
                      obtain ⟨rfl, v1, v2, h24⟩ := hcut
                      obtain ⟨css, hcs, hown, hcx⟩ := h24.d.own
                      have d0 := h24.d.d0
                      have e0 := h24.d.f0
                      have hlD := lt_of_cell d0
                      have nD : (Value.slice vA CL.length vcap).ownBlock ≠ some w2.heap.size := own_ne hown (by omega)
                      have nR : (Value.slice vA CL.length vcap).ownBlock ≠ some wr.heap.size := fun e => by have := HVR.out _ e; omega
                      have hlo4 := lt_of_cell h24.o0
                      have HCX := Lib.hid hcx
                      have H24 := Lib.hid h24
                      have hb4 := h24.e
                      clear hcx h24
                      go_upto_region 26 with (at_builtin; refine wpList_append_lies _ rfl _ _ 29 rfl (w2.heap.size + 1 + 1) 102 ic _ 3 24 Try.underlying29 hic hz0 hz1 hz2 rfl (by omega) (.slice vA CL.length vcap) CL.length css.flatten rfl (hown.alloc _) ⟨wc.heap.size, 0, none⟩ 1 1 [.int .i64 k, .int .i64 a, .int .i64 n] rfl rfl (World.news_of_block (cs := #[.int .i64 k, .int .i64 a, .int .i64 n]) (t := 102) (fr := (0, 0)) (heap_alloc_new wc _)) (by simp [Value.oneCell']) (by omega) (by unfold maxLen; omega) (by omega) (by simp; omega) (wc.heap.size + 1) (by simp) ?_; intro g9 cap9 w9 hown9 hgrow9 hat9 hlt9; have q0 := (hgrow9.cell_far ⟨w2.heap.size, 0, none⟩ (by simp; omega) (fun e => nD e.symm)).trans (Ext.cell ((Ext.refl wc).alloc _) d0); have q1 := (hgrow9.frozen_far ⟨w2.heap.size, 0, none⟩ (by simp; omega) (fun e => nD e.symm)).trans (Ext.frz ((Ext.refl wc).alloc _) hlD e0))
                      obtain ⟨hD5, hU5, hK5, hb5, B5, R5, hO5⟩ := H24.out.cond rfl hsU rfl hsB hlO HGC.out nR hcs HCX.out (.cells #[.int .i64 k, .int .i64 a, .int .i64 n] 102) (c := ⟨k, a, n⟩) hown hown9 hgrow9
                      have hgc5 : ∀ g, (Value.slice (some ⟨g9, 0, none⟩) (CL.length + 1) cap9).ownBlock = some g → g < wo.heap.size ∨ wq.heap.size < g := fun g e => by
                        simp only [Value.ownBlock, Option.some.injEq] at e
                        subst e
                        rcases hat9 with h | h
                        · exact HGC.out _ h
                        · exact .inr (by (try simp at h); omega)
                      clear hown hown9 hgrow9 hat9 hlt9 q0 q1 d0 e0 nD nR hcs HCX
                      generalize w9.setCell ⟨w2.heap.size, 0, none⟩ (.slice (some ⟨g9, 0, none⟩) (CL.length + 1) cap9) = W5 at *
                      have p1 := hD5.d1
                      have f1 := hD5.f1
                      have hlP := lt_of_cell p1
                      have hlR5 := lt_of_cell R5
                      have ewf := IntWalk.i64_in (fee3 + r.cost) (by omega)
                      go_still_tail 11, (by kernel_rfl)
                      go_wp2_with fail
                      go_roundw
                      case rel =>
                        obtain ⟨z1, z2, z3, z4, z5, z6⟩ := HZ.out
                        refine ⟨n + 1, _, v1, v2, by omega, by go_num, ?_, (hU5.set (by simp) _).drew, ?_, (hK5.set (.inl rfl) _).drew, (hb5.set (Nat.le_refl _) _).drew, Ext.cell (Ext.refl _).drew (cell_blk (by omega) B5), hgc5⟩
                        · rw [z1, List.map_append, ← List.append_assoc, z2, costs_snoc, ← Int.add_assoc, z5]
                          exact (hD5.fee' _).drew
                        · rw [z1, List.map_append, z3, List.zipIdx_append, List.map_append, z4]
                          have e9 : (([((r, n) : PRule × Nat)].zipIdx ((condsN l t k).length + (ruleSel t p.road x.rules n).length)).map (fun q => (q.2 : Int))) = [(CL.length : Int)] := by simp [z6]
                          rw [e9]
                          exact (hO5.set (by omega) (by omega) _).ext (Ext.refl _).drew
                      case measure => simp [intOf]; omega
                · have hnn : n = x.rules.length := by omega
                  subst hnn
                  have hDk : DSt w2.heap.size wr vc' (condsN l t (k + 1)) (feeN l t (k + 1)) (noticeN l t (k + 1)) vd := by
                    rw [HCS.out, HFS.out, HAi.out, ← Int.add_assoc, HF2.out]
                    unfold selOf
                    rw [HRu.out]
                    exact hD
                  have hPk : OwnL 3 111 (RRow w (w2.heap.size + 1 + 1)) (w2.heap.size + 1 + 1) wr vd (deskN l t k) := HPR.out.kt hK (Nat.le_refl _) (by decide) (fun cs x h => h.kt hK (Nat.le_refl _))
                  obtain ⟨_, _, hvo, _⟩ := HPR.out
                  have HVO := Lib.hid (show ∀ g, vd.ownBlock = some g → g < wo.heap.size from fun g e => own_lt hvo e)
                  obtain ⟨vlA, vlc, hvl, _, _⟩ := hO.ol.sl.shape
                  obtain ⟨vnA, vnc, hvn, _, _⟩ := hO.on.sl.shape
                  have hat28 : atDesk l t k p = ⟨(ruleSel t p.road x.rules x.rules.length).map (·.1), ((ruleSel t p.road x.rules x.rules.length).zipIdx (condsN l t k).length).map (fun q => (q.2 : Int)), p.minutes⟩ := by
                    unfold atDesk rsOf numsOf selOf
                    rw [HRu.out]
                  have HAT := Lib.hid hat28
                  have hlk := deskN_len (l := l) (t := t) k (by omega)
                  obtain ⟨LL, hLL⟩ : ∃ z, (ruleSel t p.road x.rules x.rules.length).map (·.1) = z := ⟨_, rfl⟩
                  obtain ⟨NN, hNN⟩ : ∃ z, ((ruleSel t p.road x.rules x.rules.length).zipIdx (condsN l t k).length).map (fun q => (q.2 : Int)) = z := ⟨_, rfl⟩
                  rw [hLL, hNN] at hO
                  have HLN := Lib.hid (And.intro hLL hNN)
                  obtain ⟨DK, hDK⟩ : ∃ z, deskN l t k = z := ⟨_, rfl⟩
                  rw [hDK] at hPk hlk
                  have hlk2 : DK.length ≤ 24 := by omega
                  clear hlk
                  have HDK := Lib.hid hDK
                  have HVL := Lib.hid (And.intro hvl hvn)
                  clear hat28 hLL hNN hDK hD hvl hvn
                  have hlD := lt_of_cell hDk.d3
                  go_upto_region 28 with fail
                  refine end_region (fun i => i == 10) (S := (fun w' => w'.cell? ⟨w2.heap.size, 3, none⟩ = some vd ∧ w'.cell? ⟨wq.heap.size, 0, none⟩ = some vl ∧ w'.cell? ⟨wq.heap.size, 1, none⟩ = some vn ∧ w'.cell? ⟨wq.heap.size, 2, none⟩ = some (.int .i64 p.minutes))) (by kernel_rfl) ⟨hDk.d3, hO.o0, hO.o1, hO.o2⟩ (fun hS => ?_)
                  have ED : Ext wr wr.drew := (Ext.refl wr).drew
                  have hDd := hDk.ext ED
                  have hUd := hU.ext ED
                  have hOd := hO.ext ED
                  have hed := hbi.trans ED
                  obtain ⟨cssP, hcsP, hownP, hcxP⟩ := hPk.ext (fun _ _ _ _ he h => h.ext he) ED
                  have hlDd : w2.heap.size < wr.drew.heap.size := hlD
                  have hlOd : wq.heap.size < wr.drew.heap.size := hlO
                  generalize wr.drew = wd at *
                  have HCX := Lib.hid hcxP
                  clear hDk hU hO hPk ED hcxP
                  refine end_take (i := 0) (v := ?_) rfl (by kernel_rfl) (by kernel_rfl) (by kernel_rfl) (by kernel_rfl) (by kernel_rfl) (fun _ _ _ h => h) (Or.inl ⟨by rfl, ?_⟩) (by assumption) ?_
                  rotate_left
                  · (intro w hSw; (try dsimp only at hSw); go_simp; (first | done | with_reducible rfl))
                  simp only [Act.put, List.setIfInBounds_toArray, List.set_cons_zero, List.set_cons_succ]
                  refine end_take (i := 1) (v := ?_) rfl (by kernel_rfl) (by kernel_rfl) (by kernel_rfl) (by kernel_rfl) (by kernel_rfl) (fun _ _ _ h => h) (Or.inl ⟨by rfl, ?_⟩) (by assumption) ?_
                  rotate_left
                  · (intro w hSw; (try dsimp only at hSw); go_simp; (first | done | with_reducible rfl))
                  simp only [Act.put, List.setIfInBounds_toArray, List.set_cons_zero, List.set_cons_succ]
                  refine end_take (i := 2) (v := ?_) rfl (by kernel_rfl) (by kernel_rfl) (by kernel_rfl) (by kernel_rfl) (by kernel_rfl) (fun _ _ _ h => h) (Or.inl ⟨by rfl, ?_⟩) (by assumption) ?_
                  rotate_left
                  · (intro w hSw; (try dsimp only at hSw); go_simp; (first | done | with_reducible rfl))
                  simp only [Act.put, List.setIfInBounds_toArray, List.set_cons_zero, List.set_cons_succ]
                  refine end_take (i := 3) (v := ?_) rfl (by kernel_rfl) (by kernel_rfl) (by kernel_rfl) (by kernel_rfl) (by kernel_rfl) (fun _ _ _ h => h) (Or.inl ⟨by rfl, ?_⟩) (by assumption) ?_
                  rotate_left
                  · (intro w hSw; (try dsimp only at hSw); go_simp; (first | done | with_reducible rfl))
                  simp only [Act.put, List.setIfInBounds_toArray, List.set_cons_zero, List.set_cons_succ]
                  refine end_take (i := 4) (v := ?_) rfl (by kernel_rfl) (by kernel_rfl) (by kernel_rfl) (by kernel_rfl) (by kernel_rfl) (fun _ _ _ h => h) (Or.inl ⟨by rfl, ?_⟩) (by assumption) ?_
                  rotate_left
                  · (intro w hSw; (try dsimp only at hSw); go_simp; (first | done | with_reducible rfl))
                  simp only [Act.put, List.setIfInBounds_toArray, List.set_cons_zero, List.set_cons_succ]
                  refine end_take (i := 5) (v := ?_) rfl (by kernel_rfl) (by kernel_rfl) (by kernel_rfl) (by kernel_rfl) (by kernel_rfl) (fun _ _ _ h => h) (Or.inl ⟨by rfl, ?_⟩) (by assumption) ?_
                  rotate_left
                  · (intro w hSw; (try dsimp only at hSw); go_simp; (first | done | with_reducible rfl))
                  simp only [Act.put, List.setIfInBounds_toArray, List.set_cons_zero, List.set_cons_succ]
                  refine end_one (i := 6) rfl (by kernel_rfl) (by rfl) (fun K hKK => ?_)
                  go_simp
                  have EE : Ext wd (wd.alloc (.cells #[vl, vn, .int .i64 p.minutes] 111)) := (Ext.refl _).alloc _
                  have NP : (wd.alloc (.cells #[vl, vn, .int .i64 p.minutes] 111)).heap[wd.heap.size]? = some (.cells #[vl, vn, .int .i64 p.minutes] 111 (0, 0)) := heap_alloc_new _ _
                  have hownE := hownP.alloc (.cells #[vl, vn, .int .i64 p.minutes] 111)
                  refine hKK.out _ _ ⟨EE.cell hS.1, EE.cell hS.2.1, EE.cell hS.2.2.1, EE.cell hS.2.2.2⟩ (fun hS2 => ?_)
                  refine end_one (i := 7) rfl (by kernel_rfl) (by rfl) (fun K hKK => ?_)
                  refine step_append_lies _ (by rfl) _ _ _ (by rfl) (w2.heap.size + 1 + 1) 111 i3 _ 3 56 Try.underlying92 hi3 hr0 hr1 hr2 rfl (by omega) vd DK.length cssP.flatten (by rfl) hownE ⟨wd.heap.size, 0, none⟩ 1 1 [vl, vn, .int .i64 p.minutes] (by rfl) (by rfl) (World.news_of_block (cs := #[vl, vn, .int .i64 p.minutes]) (t := 111) (fr := (0, 0)) NP) (by rw [HVL.out.1, HVL.out.2]; simp [Value.oneCell']) (by omega) (by unfold maxLen; omega) (by omega) (by rw [size_alloc]; omega) _ (by rfl) ?_
                  intro g7 cap7 wf hown7 hgrow7 hat7 hlt7
                  have nD : vd.ownBlock ≠ some w2.heap.size := own_ne hownP (by omega)
                  have nO : vd.ownBlock ≠ some wq.heap.size := fun e => by have := HVO.out _ e; omega
                  have hS7 : wf.cell? ⟨w2.heap.size, 3, none⟩ = some vd ∧ wf.cell? ⟨wq.heap.size, 0, none⟩ = some vl ∧ wf.cell? ⟨wq.heap.size, 1, none⟩ = some vn ∧ wf.cell? ⟨wq.heap.size, 2, none⟩ = some (.int .i64 p.minutes) :=
                    ⟨(hgrow7.cell_far ⟨w2.heap.size, 3, none⟩ (lt_of_cell hS2.1) (fun e => nD e.symm)).trans hS2.1, (hgrow7.cell_far ⟨wq.heap.size, 0, none⟩ (lt_of_cell hS2.2.1) (fun e => nO e.symm)).trans hS2.2.1, (hgrow7.cell_far ⟨wq.heap.size, 1, none⟩ (lt_of_cell hS2.2.1) (fun e => nO e.symm)).trans hS2.2.2.1, (hgrow7.cell_far ⟨wq.heap.size, 2, none⟩ (lt_of_cell hS2.2.1) (fun e => nO e.symm)).trans hS2.2.2.2⟩
                  refine hKK.out _ _ hS7 (fun hS3 => ?_)
                  have p3 := hS3.1
                  have f3 : wf.frozen? ⟨w2.heap.size, 3, none⟩ = false := (hgrow7.frozen_far ⟨w2.heap.size, 3, none⟩ (lt_of_cell hS2.1) (fun e => nD e.symm)).trans (EE.frz hlDd hDd.f3)
                  have hlf := lt_of_cell p3
                  have hsn := desk_snoc hDd hUd hOd hed rfl (by omega) hcsP HCX.out (.cells #[vl, vn, .int .i64 p.minutes] 111) hownP hown7 hgrow7
                  have HSN := Lib.hid hsn
                  clear hsn hDd hUd hOd hed hown7 hgrow7 hat7 hlt7 hownE EE NP hS7 hS2
                  refine end_takeY (i := 8) (v := ?_) rfl (by kernel_rfl) (by kernel_rfl) (by kernel_rfl) (by rfl) (fun _ _ _ h => h) (Or.inl ⟨by rfl, ?_⟩) (by assumption) ?_
                  rotate_left
                  · (intro w; go_simp; (first | done | with_reducible rfl))
                  simp only [Act.put, List.setIfInBounds_toArray, List.set_cons_zero, List.set_cons_succ]
                  refine end_takeY (i := 9) (v := ?_) rfl (by kernel_rfl) (by kernel_rfl) (by kernel_rfl) (by rfl) (fun _ _ _ h => h) (Or.inl ⟨by rfl, ?_⟩) (by assumption) ?_
                  rotate_left
                  · (intro w; go_simp; (first | done | with_reducible rfl))
                  simp only [Act.put, List.setIfInBounds_toArray, List.set_cons_zero, List.set_cons_succ]
                  refine end_only (i := 10) rfl (by kernel_rfl) (by rfl) (fun K hKK => ?_)
                  go_simp
                  refine hKK.out _ _ ?_
                  refine eany_done (by kernel_rfl) ?_ _
                  have hat := HAT.out
                  rw [HLN.out.1, HLN.out.2] at hat
                  go_wp2_with fail
                  go_roundw
                  case rel => exact ⟨k + 1, _, _, M', by omega, by go_num, HSN.out.1, HSN.out.2.1, by rw [HDS.out, hat, HDK.out]; exact HSN.out.2.2.1, HSN.out.2.2.2⟩
                  case measure => simp [intOf]; omega
          · obtain rfl : k = K := by omega
            rcases HE.out with ⟨h3, _⟩ | ⟨p', hp', hneg, hbe⟩
            · omega
            · rw [hp] at hp'
              obtain rfl := Option.some.inj hp'
              have HN := Lib.hid (And.intro hneg hbe)
              have C4 := fun w' (h : Ext wo w') hc => C3.out p.auth wo.heap.size w' (Ewr.trans h) hc
              obtain ⟨z, hz⟩ : ∃ z, idxA l p.auth = z := ⟨_, rfl⟩
              rw [hz] at C4 hneg
              replace C4 := Lib.hid C4
              clear hpc hp hp' hbe hz hD hU hP
              go_wp2_with fail
              refine (C4.out _ (by (repeat' (first | exact Ext.refl _ | assumption | refine Ext.alloc ?_ _ | refine Ext.drew ?_ | refine Ext.drewN ?_ _ | refine Ext.set ?_ (by first | exact Nat.le_refl _ | exact le1 _ | exact le2 _ | exact le3 _ | exact le4 _ | exact le5 _ | exact le6 _) _ | refine Ext.trans ?_ (by assumption)))) (by go_simp)).mono ?_
              rintro e w3 ⟨rfl, hb3⟩
              go_wp2_with fail
              rw [← HPo.out]
              exact ⟨by (repeat' (first | exact Ext.refl _ | assumption | refine Ext.alloc ?_ _ | refine Ext.drew ?_ | refine Ext.drewN ?_ _ | refine Ext.set ?_ (by first | exact Nat.le_refl _ | exact le1 _ | exact le2 _ | exact le3 _ | exact le4 _ | exact le5 _ | exact le6 _) _ | refine Ext.trans ?_ (by assumption))), .inl ⟨by rw [HN.out.2]; decide, by rw [HN.out.2]; first | done | rfl⟩⟩
        · obtain rfl : k = K := by omega
          rcases HE.out with ⟨h3, h4⟩ | ⟨p', hp', _⟩
          · have HB := Lib.hid h4
            go_wp2_with fail
            rw [← HPo.out]
            refine ⟨E2.trans hb, .inr ⟨HB.out, w2.heap.size, vc, vd, rfl, hD.d0, ?_, ?_, hD.d3, ?_, ?_, E2.sz⟩⟩
            · unfold feeS; rw [← h3]; exact hD.d1
            · unfold noticeS; rw [← h3]; exact hD.d2
            · unfold conds; rw [← h3]; exact hD.own
            · unfold desk; rw [← h3]; exact hP
          · have := lt_of_some hp'
            omega
    · have HB := Lib.hid (begin_bad2 h1 h2)
      generalize tripE t = E at *
      obtain ⟨Post, hPost⟩ : ∃ Post, DeskR l t w = Post := ⟨_, rfl⟩
      rw [hPost]
      have HPo := Lib.hid hPost
      have HNE := Lib.hid h2
      replace C1 := Lib.hid C1
      replace C2 := Lib.hid C2
      clear C3 h1 hPost
      go_enter Try.func47, Try.ntmps47
      go_wp2_with fail
      refine (C1.out _ (by (repeat' (first | exact Ext.refl _ | assumption | refine Ext.alloc ?_ _ | refine Ext.drew ?_ | refine Ext.drewN ?_ _ | refine Ext.set ?_ (by first | exact Nat.le_refl _ | exact le1 _ | exact le2 _ | exact le3 _ | exact le4 _ | exact le5 _ | exact le6 _) _ | refine Ext.trans ?_ (by assumption))))).mono ?_
      rintro e w1 ⟨rfl, hb1⟩
      obtain ⟨hc1, hf1⟩ := bcell hb1
      go_wp2_with fail
      refine (C2.out _ (by (repeat' (first | exact Ext.refl _ | assumption | refine Ext.alloc ?_ _ | refine Ext.drew ?_ | refine Ext.drewN ?_ _ | refine Ext.set ?_ (by first | exact Nat.le_refl _ | exact le1 _ | exact le2 _ | exact le3 _ | exact le4 _ | exact le5 _ | exact le6 _) _ | refine Ext.trans ?_ (by assumption))))).mono ?_
      rintro e w2 ⟨rfl, hb2⟩
      have E2 : Ext w w2 := by (repeat' (first | exact Ext.refl _ | assumption | refine Ext.alloc ?_ _ | refine Ext.drew ?_ | refine Ext.drewN ?_ _ | refine Ext.set ?_ (by first | exact Nat.le_refl _ | exact le1 _ | exact le2 _ | exact le3 _ | exact le4 _ | exact le5 _ | exact le6 _) _ | refine Ext.trans ?_ (by assumption)))
      go_wp2_with fail
      rw [← HPo.out]
      exact ⟨E2, .inl ⟨by rw [HB.out]; exact HNE.out, by rw [HB.out]; first | done | rfl⟩⟩
  · have HB := Lib.hid (begin_bad1 (t := t) h1)
    generalize allE l = E at *
    obtain ⟨Post, hPost⟩ : ∃ Post, DeskR l t w = Post := ⟨_, rfl⟩
    rw [hPost]
    have HPo := Lib.hid hPost
    have HNE := Lib.hid h1
    replace C1 := Lib.hid C1
    clear C3 C2 hPost
    go_enter Try.func47, Try.ntmps47
    go_wp2_with fail
    refine (C1.out _ (by (repeat' (first | exact Ext.refl _ | assumption | refine Ext.alloc ?_ _ | refine Ext.drew ?_ | refine Ext.drewN ?_ _ | refine Ext.set ?_ (by first | exact Nat.le_refl _ | exact le1 _ | exact le2 _ | exact le3 _ | exact le4 _ | exact le5 _ | exact le6 _) _ | refine Ext.trans ?_ (by assumption))))).mono ?_
    rintro e w1 ⟨rfl, hb1⟩
    have E2 : Ext w w1 := by (repeat' (first | exact Ext.refl _ | assumption | refine Ext.alloc ?_ _ | refine Ext.drew ?_ | refine Ext.drewN ?_ _ | refine Ext.set ?_ (by first | exact Nat.le_refl _ | exact le1 _ | exact le2 _ | exact le3 _ | exact le4 _ | exact le5 _ | exact le6 _) _ | refine Ext.trans ?_ (by assumption)))
    go_wp2_with fail
    rw [← HPo.out]
    exact ⟨E2, .inl ⟨by rw [HB.out]; exact HNE.out, by rw [HB.out]; first | done | rfl⟩⟩
end Go.Proofs.Ytaomlmkcifpfkaa
