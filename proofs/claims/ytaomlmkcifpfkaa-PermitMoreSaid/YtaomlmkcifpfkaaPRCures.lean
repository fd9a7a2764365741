/- Contract: Cures, the definition. -/
import Derived.Test.YtaomlmkcifpfkaaPErase
import Derived.Deep.RegionLaw
namespace Go.Proofs.Ytaomlmkcifpfkaa
open Go.RowKit

theorem step_append_any {P : Program} {w : World} {ops : Array Oper} {o : Oper} {a : Act} {K : Act → World → Prop} {Q : Exit → Act → World → Prop} {E : Prop} (hgd : o.guard = none) (s x : Operand) (t : TypeId)
    (ho : o.op = .call { callee := .builtin .append, args := #[s, x], argTypes := #[t, t] })
    (base : Nat) (e : TypeId) (i : TypeInfo) (z : Value) (size bytes : Nat) (ht : P.underlying t = some (.slice e)) (hi : P.info? e = some i) (hz : i.zero = some z)
    (hsize : i.size = size) (hby : i.bytes = bytes) (hzs : z.cells.size = size) (hsz : 0 < size)
    (v : Value) (n : Nat) (xs : List Value) (hs : a.eval s = v) (hown : w.ownsRow base e size v n xs)
    (ad : Addr) (m c : Nat) (news : List Value) (hx : a.eval x = .slice (some ad) m c) (hl : news.length = m * size) (hnews : ∀ j u, news[j]? = some u → w.cell? (ad.add j) = some u) (h1 : ∀ u ∈ news, u.oneCell' = true)
    (h63 : n + m ≤ maxLen) (hbytes : (n + m) * bytes ≤ 140737488355328) (hbase : base ≤ w.heap.size)
    (h : ∀ v' w', w'.ownsRow base e size v' (n + m) (xs ++ news) → w.grownBy w' v.ownBlock → (v' = .slice none 0 0 ↔ v = .slice none 0 0 ∧ m = 0) → K (a.put o.dst v') w') :
    if Region.wanted o (yielded ops a.tmps) = true then Oper.wp P o a w K Q else E := by
  have hw : Region.wanted o (yielded ops a.tmps) = true := by simp [Region.wanted, hgd]
  rw [if_pos hw]
  exact wp_append_own w s x t ho base e i z size bytes ht hi hz hsize hby hzs hsz v n xs hs hown ad m c news hx hl hnews h1 h63 hbytes hbase h

theorem flat_len {n : Nat} : ∀ {css : List (List Value)}, (∀ c ∈ css, c.length = n) → css.flatten.length = css.length * n
  | [], _ => by simp
  | c :: css, h => by
    have h1 := h c List.mem_cons_self
    have h2 := flat_len (css := css) (fun d hd => h d (List.mem_cons_of_mem _ hd))
    rw [List.flatten_cons, List.length_append, h1, h2, List.length_cons, Nat.succ_mul, Nat.add_comm]
theorem flat_take {css : List (List Value)} {j i : Nat} {u : Value} (h : (css.take j).flatten[i]? = some u) : css.flatten[i]? = some u := by
  have e : css.flatten = (css.take j).flatten ++ (css.drop j).flatten := by rw [← List.flatten_append, List.take_append_drop]
  rw [e, List.getElem?_append_left (List.getElem?_eq_some_iff.1 h).1]
  exact h
theorem flat_drop {n : Nat} {css : List (List Value)} (hn : ∀ c ∈ css, c.length = n) {j i : Nat} {u : Value} (hj : j ≤ css.length) (h : (css.drop j).flatten[i]? = some u) : css.flatten[j * n + i]? = some u := by
  have e : css.flatten = (css.take j).flatten ++ (css.drop j).flatten := by rw [← List.flatten_append, List.take_append_drop]
  have hl := flat_len (css := css.take j) (fun c hc => hn c (List.mem_of_mem_take hc))
  rw [List.length_take, Nat.min_eq_left hj] at hl
  rw [e, List.getElem?_append_right (by omega), hl, Nat.add_sub_cancel_left]
  exact h
/-- the rows ahead of an element and behind it -/
theorem two_rows {α : Type} {n : Nat} (hn : 0 < n) {R : World → List Value → α → Prop} {w : World} {rb ro cap : Nat} {l : List α} (hs : Sl n R w (.slice (some ⟨rb, ro, none⟩) l.length cap) l) (h1 : ∀ cs x, R w cs x → ∀ u ∈ cs, u.oneCell' = true) {j : Nat} (hj : j < l.length) :
    ∃ (css : List (List Value)) (ad : Addr), (css.length = l.length ∧ ∀ (i : Nat) (cs : List Value) (x : α), css[i]? = some cs → l[i]? = some x → cs.length = n ∧ R w cs x) ∧
      ((css.take j).flatten.length = j * n ∧ (∀ i u, (css.take j).flatten[i]? = some u → w.cell? ((⟨rb, ro, none⟩ : Addr).add i) = some u) ∧ ∀ u ∈ (css.take j).flatten, u.oneCell' = true) ∧
      (if cap = j + 1 then some (⟨rb, ro, none⟩ : Addr) else some ⟨rb, ro + (j + 1) * n, none⟩) = some ad ∧
      ((css.drop (j + 1)).flatten.length = (l.length - (j + 1)) * n ∧ (∀ i u, (css.drop (j + 1)).flatten[i]? = some u → w.cell? (ad.add i) = some u) ∧ ∀ u ∈ (css.drop (j + 1)).flatten, u.oneCell' = true) := by
  obtain ⟨_, _, heq, _, hlc⟩ := hs.shape
  cases heq
  obtain ⟨css, hl, hx, hc⟩ := hs.rows hn
  have hlen : ∀ c ∈ css, c.length = n := by
    intro c hc
    obtain ⟨i, hi, rfl⟩ := List.mem_iff_getElem.1 hc
    exact (hx i _ (l[i]'(by omega)) (List.getElem?_eq_getElem hi) (List.getElem?_eq_getElem _)).1
  have hone : ∀ c ∈ css, ∀ u ∈ c, u.oneCell' = true := by
    intro c hc
    obtain ⟨i, hi, rfl⟩ := List.mem_iff_getElem.1 hc
    exact h1 _ _ (hx i _ (l[i]'(by omega)) (List.getElem?_eq_getElem hi) (List.getElem?_eq_getElem _)).2
  have hcell : ∀ i u, css.flatten[i]? = some u → w.cell? ⟨rb, ro + i, none⟩ = some u := by
    intro i u hu
    obtain ⟨b, o, he, hw⟩ := hc i u hu
    cases he
    exact hw
  have hA : (css.take j).flatten.length = j * n ∧ (∀ i u, (css.take j).flatten[i]? = some u → w.cell? ((⟨rb, ro, none⟩ : Addr).add i) = some u) ∧ ∀ u ∈ (css.take j).flatten, u.oneCell' = true := by
    refine ⟨?_, fun i u hu => ?_, fun u hu => ?_⟩
    · rw [flat_len (n := n) (fun c hc => hlen c (List.mem_of_mem_take hc)), List.length_take, Nat.min_eq_left (by omega)]
    · rw [add_none]; exact hcell i u (flat_take hu)
    · obtain ⟨c, hc, hu⟩ := List.mem_flatten.1 hu
      exact hone c (List.mem_of_mem_take hc) u hu
  have hBl : (css.drop (j + 1)).flatten.length = (l.length - (j + 1)) * n := by
    rw [flat_len (n := n) (fun c hc => hlen c (List.mem_of_mem_drop hc)), List.length_drop, hl]
  have hB1 : ∀ u ∈ (css.drop (j + 1)).flatten, u.oneCell' = true := by
    intro u hu
    obtain ⟨c, hc, hu⟩ := List.mem_flatten.1 hu
    exact hone c (List.mem_of_mem_drop hc) u hu
  by_cases hcap : cap = j + 1
  · refine ⟨css, ⟨rb, ro, none⟩, ⟨hl, hx⟩, hA, by rw [if_pos hcap], hBl, fun i u hu => ?_, hB1⟩
    have h2 := (List.getElem?_eq_some_iff.1 hu).1
    rw [hBl, show l.length - (j + 1) = 0 by omega, Nat.zero_mul] at h2
    omega
  · refine ⟨css, ⟨rb, ro + (j + 1) * n, none⟩, ⟨hl, hx⟩, hA, by rw [if_neg hcap], hBl, fun i u hu => ?_, hB1⟩
    rw [add_none, Nat.add_assoc]
    exact hcell _ u (flat_drop hlen (by omega) hu)

set_option maxRecDepth 100000 in
set_option maxHeartbeats 4000000 in
theorem RCures_c (v vp : Value) (l : List PAuth) (t : PTrip) (k : Int) (w : World) (hs : Sl 4 RAuth w v l) (hp : Sl 3 RPass w vp t.passages) :
    Calls Try.prog 33 #[v, tripV t vp, .int .i64 k] w (CuresR l t k w) := by
  have C1 := fun w' (h : Ext w w') => some_c v vp l t k w' (hs.ext RAuth.stable h) (hp.ext RPass.stable h)
  have C2 := fun w' (h : Ext w w') h0 => ofAt_c v vp l t k w' (hs.ext RAuth.stable h) (hp.ext RPass.stable h) h0
  obtain ⟨i1, hi1, hi10, hi11, hi12⟩ := info_parts infoInt
  obtain ⟨i2, hi2, hx0, hx1, hx2⟩ := info_parts infoRule
  obtain ⟨A, cap, rfl, hl, hcap⟩ := hs.shape
  obtain ⟨Ap, capp, rfl, hpl, hpcap⟩ := hp.shape
  unfold tripV at *
  replace C1 := Lib.hid C1
  replace C2 := Lib.hid C2
  clear hs hp
  obtain ⟨Post, hPost⟩ : ∃ Post, CuresR l t k w = Post := ⟨_, rfl⟩
  rw [hPost]
  replace hPost := Lib.hid hPost
  have T0 := TripAt.new t (.slice Ap t.passages.length capp) w
  have HT0 := Lib.hid T0
  clear T0
  by_cases hne : someE l t k = 0
  · have hPO := passOk hne
    rw [hne] at C1
    have C2' := Lib.hid (fun w' h => C2.out w' h hne)
    have hr := hPO.rules
    have hlen := hPO.len
    have hnum := hPO.nums
    have hcl := counts_ok hr
    have hnone := fun h => curesS_none (k := k) hne h
    have hsome := fun h => curesS_some (k := k) hne h
    generalize rsAt l t k = rs at *
    generalize numsAt l t k = ns at *
    have K1 := fun v' w' (h : Sl 11 RRule w' v' rs) => RKind_c v' rs w' h (by omega) hcl
    replace K1 := Lib.hid K1
    clear C2 hPO hne
    by_cases hz : kindN rs = 0
    · have HA := Lib.hid (hnone hz)
      rw [hz] at K1
      clear hnone hsome hz
      go_enter Try.func33, Try.ntmps33
      go_upto_region 3 with (go_at_call 70; refine (C1.out _ (by (repeat' (first | exact Ext.refl _ | assumption | refine Ext.alloc ?_ _ | refine Ext.drew ?_ | refine Ext.drewN ?_ _ | refine Ext.set ?_ (by first | exact Nat.le_refl _ | exact le1 _ | exact le2 _ | exact le3 _ | exact le4 _ | exact le5 _ | exact le6 _) _ | refine Ext.trans ?_ (by assumption))))).mono ?_; rintro e w1 ⟨rfl, hb1⟩)
      have E1 : Ext w w1 := by (repeat' (first | exact Ext.refl _ | assumption | refine Ext.alloc ?_ _ | refine Ext.drew ?_ | refine Ext.drewN ?_ _ | refine Ext.set ?_ (by first | exact Nat.le_refl _ | exact le1 _ | exact le2 _ | exact le3 _ | exact le4 _ | exact le5 _ | exact le6 _) _ | refine Ext.trans ?_ (by assumption)))
      have T1 := HT0.out.ext hb1
      obtain ⟨t0, t1, t2, t3, t4, t5, t6⟩ := T1
      go_wp2_with (first | (go_at_call 23; refine (C2'.out _ E1).mono ?_; rintro e w3 ⟨⟨vn, vr, rfl, hn, hr⟩, hb3⟩; obtain ⟨An, capn, rfl, _, _⟩ := hn.shape; obtain ⟨Ar, capr, rfl, _, _⟩ := hr.shape) | (go_at_call 35; refine (K1.out _ _ hr).mono ?_; rintro e w4 ⟨rfl, hb4⟩))
      rw [← hPost.out]
      exact ⟨by (repeat' (first | exact Ext.refl _ | assumption | refine Ext.alloc ?_ _ | refine Ext.drew ?_ | refine Ext.drewN ?_ _ | refine Ext.set ?_ (by first | exact Nat.le_refl _ | exact le1 _ | exact le2 _ | exact le3 _ | exact le4 _ | exact le5 _ | exact le6 _) _ | refine Ext.trans ?_ (by assumption))), _, by rw [HA.out]; rfl, by rw [HA.out]; exact sl_nil⟩
    · have HA := Lib.hid (hsome hz)
      have hkn2 : ¬ ((kindN rs : Nat) : Int) = 0 := by omega
      have hkn' : (((kindN rs : Nat) : Int) == 0) = false := by simp; omega
      have HK := Lib.hid (fun j (hj : j < rs.length) => curesK_at hj)
      have hKl := curesK_len rs
      have HCL := Lib.hid hcl
      generalize curesK rs = KS at *
      generalize kindN rs = K at *
      clear hnone hsome hz hr hcl
      go_enter Try.func33, Try.ntmps33
      go_upto_region 3 with (go_at_call 70; refine (C1.out _ (by (repeat' (first | exact Ext.refl _ | assumption | refine Ext.alloc ?_ _ | refine Ext.drew ?_ | refine Ext.drewN ?_ _ | refine Ext.set ?_ (by first | exact Nat.le_refl _ | exact le1 _ | exact le2 _ | exact le3 _ | exact le4 _ | exact le5 _ | exact le6 _) _ | refine Ext.trans ?_ (by assumption))))).mono ?_; rintro e w1 ⟨rfl, hb1⟩)
      have E1 : Ext w w1 := by (repeat' (first | exact Ext.refl _ | assumption | refine Ext.alloc ?_ _ | refine Ext.drew ?_ | refine Ext.drewN ?_ _ | refine Ext.set ?_ (by first | exact Nat.le_refl _ | exact le1 _ | exact le2 _ | exact le3 _ | exact le4 _ | exact le5 _ | exact le6 _) _ | refine Ext.trans ?_ (by assumption)))
      have T1 := HT0.out.ext hb1
      obtain ⟨t0, t1, t2, t3, t4, t5, t6⟩ := T1
      go_upto_region 6 with (first | (go_at_call 23; refine (C2'.out _ E1).mono ?_; rintro e w3 ⟨⟨vn, vr, rfl, hn, hr⟩, hb3⟩; obtain ⟨An, capn, rfl, _, _⟩ := hn.shape; obtain ⟨Ar, capr, rfl, _, _⟩ := hr.shape) | (go_at_call 35; refine (K1.out _ _ hr).mono ?_; rintro e w5 ⟨rfl, hb4⟩))
      have E5 : Ext w w5 := by (repeat' (first | exact Ext.refl _ | assumption | refine Ext.alloc ?_ _ | refine Ext.drew ?_ | refine Ext.drewN ?_ _ | refine Ext.set ?_ (by first | exact Nat.le_refl _ | exact le1 _ | exact le2 _ | exact le3 _ | exact le4 _ | exact le5 _ | exact le6 _) _ | refine Ext.trans ?_ (by assumption)))
      have HR := Lib.hid (hr.ext RRule.stable hb4)
      have HN := Lib.hid (hn.ext RInt.stable hb4)
      clear t0 t1 t2 t3 t4 t5 t6 hr hn hb4 hb3 hb1 E1
      go_wp2_with fail
      go_loopw [10, 11] (fun o i wr => ∃ (j : Nat) (vo : Value), j ≤ rs.length ∧ i = .int .i64 j ∧ o = vo ∧ OwnL 1 3 RInt w5.heap.size wr vo (chosenL (ns.take j) (KS.take j)) ∧ Ext w5 wr) (fun _ i _ => rs.length - (intOf i).toNat)
      case atStart => exact ⟨0, _, by omega, rfl, rfl, by simpa [chosenL] using OwnL.nil, Ext.refl _⟩
      case round =>
        obtain ⟨j, vo, hj, rfl, rfl, hown, hE⟩ := hrel
        obtain ⟨Ao, co, rfl, _, _⟩ := hown.sl.shape
        have HO := Lib.hid hown
        clear hown
        by_cases hlt : j < rs.length
        · obtain ⟨x, hx⟩ := some_of_lt hlt
          obtain ⟨rb, ro, rcs, rfl, _, _, _⟩ := HR.out.at hx
          have i1k : (0 : Int) ≤ (j : Int) := by omega
          have i2k : (j : Int) < (rs.length : Int) := by omega
          obtain ⟨_, _, hreq, _, hrc⟩ := HR.out.shape
          cases hreq
          have j1 : (j : Int) ≤ (capr : Int) := by omega
          have j2 : (j : Int) + 1 ≤ (rs.length : Int) := by omega
          have j3 : (rs.length : Int) ≤ (capr : Int) := by omega
          have j4 : (0 : Int) ≤ (j : Int) + 1 := by omega
          have j5 := IntWalk.i64_in ((j : Int) + 1) (by omega)
          have j6 := IntWalk.i64_in (j : Int) (by omega)
          have j7 : (j : Int) + 1 ≤ (capr : Int) := by omega
          clear hx
          obtain ⟨css, ad, ⟨hcss, hcsx⟩, ⟨hta, htb, htc⟩, had, hda, hdb, hdc⟩ := two_rows (by omega) (HR.out.ext RRule.stable hE) (fun cs x h => one_rule h) hlt
          have HCX := Lib.hid hcsx
          have HTB := Lib.hid htb
          have HTC := Lib.hid htc
          have HDB := Lib.hid hdb
          have HDC := Lib.hid hdc
          have own0 : (wr.alloc (.cells #[] 58)).ownsRow wr.heap.size 58 11 (.slice (some ⟨wr.heap.size, 0, none⟩) 0 0) 0 [] := ⟨rfl, .inr ⟨wr.heap.size, 0, #[], rfl, Nat.le_refl _, heap_alloc_new wr _, Nat.le_refl _, Nat.zero_le _, rfl, rfl⟩⟩
          clear hcsx htb htc hdb hdc
          go_upto_region 10 with fail
          go_region_law (first
            | (refine step_append_any (by rfl) _ _ _ (by rfl) wr.heap.size 58 i2 _ 11 144 Try.underlying42 hi2 hx0 hx1 hx2 rfl (by omega) (.slice (some ⟨wr.heap.size, 0, none⟩) 0 0) 0 [] (by rfl) (by first | exact own0 | exact own0.drew) ⟨rb, ro, none⟩ j capr (css.take j).flatten (by rfl) hta (fun i u h => Ext.cell (w := wr) (by (repeat' (first | exact Ext.refl _ | assumption | refine Ext.alloc ?_ _ | refine Ext.drew ?_ | refine Ext.drewN ?_ _ | refine Ext.set ?_ (by first | exact Nat.le_refl _ | exact le1 _ | exact le2 _ | exact le3 _ | exact le4 _ | exact le5 _ | exact le6 _) _ | refine Ext.trans ?_ (by assumption)))) (HTB.out i u h)) HTC.out (by unfold maxLen; omega) (by omega) (by simp) ?_; intro vA wA hoA hgA hvA; have EA : Ext wr wA := Ext.grown (w := wr) (by (repeat' (first | exact Ext.refl _ | assumption | refine Ext.alloc ?_ _ | refine Ext.drew ?_ | refine Ext.drewN ?_ _ | refine Ext.set ?_ (by first | exact Nat.le_refl _ | exact le1 _ | exact le2 _ | exact le3 _ | exact le4 _ | exact le5 _ | exact le6 _) _ | refine Ext.trans ?_ (by assumption)))) hgA (fun k e => Nat.le_of_eq (Option.some.inj e)); have zA := EA.size; simp only [Nat.zero_add, List.nil_append] at hoA; clear hvA)
            | (refine step_append_any (by rfl) _ _ _ (by rfl) wr.heap.size 58 i2 _ 11 144 Try.underlying42 hi2 hx0 hx1 hx2 rfl (by omega) vA j (css.take j).flatten (by rfl) (by first | exact hoA | exact hoA.drew) ad (rs.length - (j + 1)) (capr - (j + 1)) (css.drop (j + 1)).flatten (by first | rfl | exact congrArg (fun z => Value.slice z (rs.length - (j + 1)) (capr - (j + 1))) had) hda (fun i u h => EA.cell (HDB.out i u h)) HDC.out (by unfold maxLen; omega) (by omega) (by omega) ?_; intro vB wB hoB hgB hvB; clear hvB))
          have EB : Ext wr wB := Ext.grown EA hgB (fun k e => own_ge hoA k e)
          have hOB := own_erase (R := fun _ => RRule wr) hcss HCX.out hlt (by omega) hoB
          obtain ⟨Ab, capb, rfl, _, _⟩ := hOB.sl.shape
          have HS6 := Lib.hid ((hOB.to (fun cs x h => RRule.stable _ _ _ _ EB h)).sl)
          clear hOB hoB hgB hoA hgA HCX HTB HTC HDB HDC had own0 hcss hta hda
          obtain ⟨n, hn⟩ := some_of_lt (l := ns) (k := j) (by omega)
          have hq := HK.out j hlt
          obtain ⟨b3, off3, cs3, rfl, _, hcs3, hc3⟩ := (HN.out.ext RInt.stable (hE.trans EB)).at hn
          obtain rfl : cs3 = [.int .i64 n] := hcs3
          have y1 := hc3 0 _ rfl
          simp only [Nat.add_zero, Nat.mul_one] at y1
          have HNX := Lib.hid (chosenL_snoc ns KS j n _ hn hq)
          have hcl := chosenL_len (ns.take j) (KS.take j)
          rw [List.length_take] at hcl
          have hcl2 : (chosenL (ns.take j) (KS.take j)).length ≤ 24 := by omega
          have hel : (rs.eraseIdx j).length ≤ 24 := by have := List.length_eraseIdx_le rs j; omega
          have C5 := fun v' w' (h : Sl 11 RRule w' v' (rs.eraseIdx j)) => RKind_c v' (rs.eraseIdx j) w' h (by omega) (fun r hr => HCL.out r (List.mem_of_mem_eraseIdx hr))
          replace C5 := Lib.hid C5
          clear hc3 hn hq hcl
          generalize chosenL (ns.take j) (KS.take j) = D at *
          generalize rs.eraseIdx j = rest at *
          generalize kindN rest = z at *
          by_cases hz : z = 0
          · subst hz
            go_upto_region 12 with (go_at_call 35; refine (C5.out _ _ HS6.out).mono ?_; rintro e w7 ⟨rfl, hb7⟩)
            have E7 : Ext w5 w7 := hE.trans (EB.trans hb7)
            have y2 := hb7.cell y1
            obtain ⟨css, hcs, hown, hcx⟩ := HO.out.ext RInt.stable (EB.trans hb7)
            have HCX := Lib.hid hcx
            have hz2 := E7.size
            clear hcx HO
            go_wp2_with (at_builtin; refine wpList_append_lies _ rfl _ _ 41 rfl (w5.heap.size) 3 i1 _ 1 8 Try.underlying41 hi1 hi10 hi11 hi12 rfl (by omega) (.slice Ao D.length co) (D.length) (css).flatten rfl ((hown).alloc _) ⟨w7.heap.size, 0, none⟩ 1 1 [.int .i64 n] rfl rfl (World.news_of_block (cs := #[.int .i64 n]) (t := 3) (fr := (0, 0)) (heap_alloc_new w7 _)) (by simp [Value.oneCell']) (by omega) (by unfold maxLen; omega) (by omega) (by simp; omega) (w7.heap.size + 1) (by simp) ?_; intro g cap4 w4 hown4 hgrow4 hat4 hlt4)
            have E9 : Ext w5 w4 := Ext.grown (E7.alloc _) hgrow4 (fun j hj => own_ge hown j hj)
            have HO4 := Lib.hid (OwnL.snoc (R := RInt) (w' := w4) (x := n) hcs HCX.out hown4 rfl rfl)
            clear hown hown4 hgrow4 hat4 hlt4 hcs HCX
            go_roundw
            case rel => exact ⟨j + 1, _, by omega, by go_num, rfl, by rw [HNX.out]; exact HO4.out, E9⟩
            case measure => simp [intOf]; omega
          · have hz3 : ¬ (z : Int) = 0 := by omega
            go_wp2_with (go_at_call 35; refine (C5.out _ _ HS6.out).mono ?_; rintro e w7 ⟨rfl, hb7⟩)
            have E7 : Ext w5 w7 := hE.trans (EB.trans hb7)
            go_roundw
            case rel => exact ⟨j + 1, _, by omega, by go_num, rfl, by rw [HNX.out]; simpa [hz] using HO.out.ext RInt.stable (EB.trans hb7), E7⟩
            case measure => simp [intOf]; omega
        · obtain rfl : j = rs.length := by omega
          have e1 : chosenL (ns.take rs.length) (KS.take rs.length) = chosenL ns KS := by rw [List.take_of_length_le (by omega), List.take_of_length_le (by omega)]
          rw [e1] at HO ⊢
          go_wp2_with fail
          rw [← hPost.out]
          exact ⟨E5.trans hE, _, by rw [HA.out]; rfl, by rw [HA.out]; exact HO.out.sl⟩
  · have HA := Lib.hid (curesS_bad hne)
    have hne' : (someE l t k != 0) = true := by simp [hne]
    clear C2
    generalize someE l t k = E at *
    go_enter Try.func33, Try.ntmps33
    go_upto_region 2 with (go_at_call 70; refine (C1.out _ (by (repeat' (first | exact Ext.refl _ | assumption | refine Ext.alloc ?_ _ | refine Ext.drew ?_ | refine Ext.drewN ?_ _ | refine Ext.set ?_ (by first | exact Nat.le_refl _ | exact le1 _ | exact le2 _ | exact le3 _ | exact le4 _ | exact le5 _ | exact le6 _) _ | refine Ext.trans ?_ (by assumption))))).mono ?_; rintro e w1 ⟨rfl, hb1⟩)
    have E1 : Ext w w1 := by (repeat' (first | exact Ext.refl _ | assumption | refine Ext.alloc ?_ _ | refine Ext.drew ?_ | refine Ext.drewN ?_ _ | refine Ext.set ?_ (by first | exact Nat.le_refl _ | exact le1 _ | exact le2 _ | exact le3 _ | exact le4 _ | exact le5 _ | exact le6 _) _ | refine Ext.trans ?_ (by assumption)))
    have T1 := HT0.out.ext hb1
    obtain ⟨t0, t1, t2, t3, t4, t5, t6⟩ := T1
    go_wp2_with (go_at_call 70; refine (C1.out _ E1).mono ?_; rintro e w2 ⟨rfl, hb2⟩)
    rw [← hPost.out]
    exact ⟨by (repeat' (first | exact Ext.refl _ | assumption | refine Ext.alloc ?_ _ | refine Ext.drew ?_ | refine Ext.drewN ?_ _ | refine Ext.set ?_ (by first | exact Nat.le_refl _ | exact le1 _ | exact le2 _ | exact le3 _ | exact le4 _ | exact le5 _ | exact le6 _) _ | refine Ext.trans ?_ (by assumption))), _, by rw [HA.out]; rfl, by rw [HA.out]; exact sl_nil⟩
end Go.Proofs.Ytaomlmkcifpfkaa
