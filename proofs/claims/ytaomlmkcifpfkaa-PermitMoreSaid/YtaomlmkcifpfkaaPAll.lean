/- Contracts: when a list of authorities is valid. -/
import Derived.Test.YtaomlmkcifpfkaaPCheck
import Derived.Maps.Own
import Derived.Maps.OwnOps
import Derived.Maps.OwnSet
import Derived.Maps.Views
import Derived.StringKeys
import Derived.Deep.QuietTactic
import Derived.BigQuiet
namespace Go.Proofs.Ytaomlmkcifpfkaa
open Go.RowKit Go.Maps

def firstE : List PAuth → Int
  | [] => 0
  | a :: l => if authE a = 0 then firstE l else authE a
def okA (a : PAuth) : Bool := decide (authE a = 0)
theorem firstE_hit : ∀ {l : List PAuth} {k : Nat} {x : PAuth}, (l.take k).all okA = true → l[k]? = some x → okA x = false → firstE l = authE x
  | [], k, x, _, h, _ => by simp at h
  | a :: l, 0, x, _, h, hx => by
    simp only [List.getElem?_cons_zero, Option.some.injEq] at h
    subst h
    have : ¬ authE a = 0 := by simpa [okA] using hx
    simp [firstE, this]
  | a :: l, k + 1, x, h0, h, hx => by
    simp only [List.take_succ_cons, List.all_cons, Bool.and_eq_true] at h0
    have h1 : authE a = 0 := by simpa [okA] using h0.1
    simp only [firstE, h1, if_true]
    exact firstE_hit h0.2 (by simpa using h) hx
theorem firstE_ok : ∀ {l : List PAuth}, l.all okA = true → firstE l = 0
  | [], _ => rfl
  | a :: l, h => by
    simp only [List.all_cons, Bool.and_eq_true] at h
    have h1 : authE a = 0 := by simpa [okA] using h.1
    simp only [firstE, h1, if_true]
    exact firstE_ok h.2
def Uniq (l : List PAuth) : Prop := l.Pairwise fun a b => a.name ≠ b.name
instance (l : List PAuth) : Decidable (Uniq l) := by unfold Uniq; infer_instance
def allE (l : List PAuth) : Int := if l.length < 1 ∨ 8 < l.length then 6 else if firstE l = 0 then (if Uniq l then 0 else 12) else firstE l
theorem allE_many {l : List PAuth} (h : l.length < 1 ∨ 8 < l.length) : allE l = 6 := by simp only [allE, h, if_true]
theorem allE_bad {l : List PAuth} (h : ¬ (l.length < 1 ∨ 8 < l.length)) (k : ¬ firstE l = 0) : allE l = firstE l := by simp only [allE, h, k, if_false]
theorem allE_uniq {l : List PAuth} (h : ¬ (l.length < 1 ∨ 8 < l.length)) (k : firstE l = 0) (u : Uniq l) : allE l = 0 := by simp only [allE, h, k, u, if_false, if_true]
theorem allE_dup {l : List PAuth} (h : ¬ (l.length < 1 ∨ 8 < l.length)) (k : firstE l = 0) (u : ¬ Uniq l) : allE l = 12 := by simp only [allE, h, k, u, if_false, if_true]

theorem addKey_len : ∀ (xs acc : List Lit), (xs.foldl addKey acc).length ≤ acc.length + xs.length ∧ ((xs.foldl addKey acc).length = acc.length + xs.length ↔ (xs.Pairwise fun x y => x.sameKey y = false) ∧ ∀ x ∈ xs, acc.any (fun y => y.sameKey x) = false)
  | [], acc => by simp
  | x :: xs, acc => by
    simp only [List.foldl_cons]
    by_cases h : acc.any (fun y => y.sameKey x) = true
    · have e : addKey acc x = acc := by unfold addKey; rw [if_pos h]
      rw [e]
      obtain ⟨h1, h2⟩ := addKey_len xs acc
      refine ⟨by simp only [List.length_cons]; omega, ?_⟩
      constructor
      · intro h3; simp only [List.length_cons] at h3; omega
      · rintro ⟨_, h3⟩
        have := h3 x (by simp)
        rw [h] at this; cases this
    · have e : addKey acc x = acc ++ [x] := by unfold addKey; rw [if_neg h]
      rw [e]
      obtain ⟨h1, h2⟩ := addKey_len xs (acc ++ [x])
      simp only [List.length_append, List.length_cons, List.length_nil] at h1 h2
      refine ⟨by simp only [List.length_cons]; omega, ?_⟩
      have h' : acc.any (fun y => y.sameKey x) = false := by simpa using h
      rw [show (List.foldl addKey (acc ++ [x]) xs).length = acc.length + (x :: xs).length ↔ (List.foldl addKey (acc ++ [x]) xs).length = acc.length + (0 + 1) + xs.length by simp only [List.length_cons]; omega, h2, List.pairwise_cons]
      constructor
      · rintro ⟨p, q⟩
        refine ⟨⟨fun y hy => ?_, p⟩, fun y hy => ?_⟩
        · have := q y hy
          rw [List.any_append, Bool.or_eq_false_iff] at this
          simpa using this.2
        · rcases List.mem_cons.1 hy with rfl | hy
          · exact h'
          · have := q y hy
            rw [List.any_append, Bool.or_eq_false_iff] at this
            exact this.1
      · rintro ⟨⟨p, q⟩, r⟩
        refine ⟨q, fun y hy => ?_⟩
        rw [List.any_append, Bool.or_eq_false_iff]
        exact ⟨r y (by simp [hy]), by simpa using p y hy⟩
def keyOfA (a : PAuth) : Lit := .string a.name.data.toList
theorem keys_uniq (l : List PAuth) : ((l.map keyOfA).Pairwise fun x y => x.sameKey y = false) ↔ Uniq l := by
  unfold Uniq
  rw [List.pairwise_map]
  have : ∀ a b : PAuth, (keyOfA a).sameKey (keyOfA b) = false ↔ a.name ≠ b.name := by
    intro a b
    unfold keyOfA Lit.sameKey
    constructor
    · intro h e; rw [e] at h; simp at h
    · intro h
      change (a.name.data.toList == b.name.data.toList) = false
      cases hb : (a.name.data.toList == b.name.data.toList)
      · rfl
      · exact absurd (Go.WideShapes.bytes_inj (by simpa using hb)) h
  simp only [this]
theorem size_names (l : List PAuth) : (Maps.size (setOf (H := Unit) (.lit (.bool true)) (l.map keyOfA)) < l.length ↔ ¬ Uniq l) := by
  rw [size_setOf _ _ (by intro x hx; obtain ⟨a, _, rfl⟩ := List.mem_map.1 hx; simp [keyOfA, WideAt.IsKeyLit])]
  obtain ⟨h1, h2⟩ := addKey_len (l.map keyOfA) []
  simp only [List.length_nil, List.length_map, Nat.zero_add] at h1 h2
  rw [keys_uniq] at h2
  have h3 : (∀ x ∈ l.map keyOfA, ([] : List Lit).any (fun y => y.sameKey x) = false) := by simp
  constructor
  · intro h u
    have := h2.2 ⟨u, h3⟩
    omega
  · intro u
    by_cases he : (List.foldl addKey [] (l.map keyOfA)).length = l.length
    · exact absurd (h2.1 he).1 u
    · omega
theorem ownsMap_ext {H : Type} {w w' : World} {P : Program} {k : TypeId} {R : Value → Option (DataW H × List MemPlace)} {b n : Nat} {D : DataW H} (h : w.ownsMap P k R b n D) (he : Ext w w') : w'.ownsMap P k R b n D := by
  have hl := h.lt
  obtain ⟨es, c, hb, f⟩ := h
  exact ⟨es, c, (he.block b hl).trans hb, f⟩
theorem name_size {a : PAuth} (h : authE a = 0) : a.name.size ≤ maxLen := by
  unfold authE at h
  split at h
  · cases h
  · split at h
    · rename_i h2
      simp only [Bool.and_eq_true, nameB, decide_eq_true_eq] at h2
      unfold maxLen
      omega
    · cases h
theorem pair_take {l : List PAuth} {k : Nat} {x : PAuth} (h : l[k]? = some x) (h0 : Uniq (l.take k)) (h1 : ∀ y ∈ l.take k, y.name ≠ x.name) : Uniq (l.take (k + 1)) := by
  rw [take_some h]
  unfold Uniq at *
  rw [List.pairwise_append]
  exact ⟨h0, by simp, fun a ha b hb => by rw [List.mem_singleton.1 hb]; exact h1 a ha⟩
theorem not_uniq {l : List PAuth} {i k : Nat} {x y : PAuth} (hx : l[k]? = some x) (hy : l[i]? = some y) (hik : i < k) (he : x.name = y.name) : ¬ Uniq l := by
  intro u
  unfold Uniq at u
  obtain ⟨h1, rfl⟩ := List.getElem?_eq_some_iff.1 hx
  obtain ⟨h2, rfl⟩ := List.getElem?_eq_some_iff.1 hy
  exact (List.pairwise_iff_getElem.1 u i k h2 h1 hik) he.symm

set_option maxRecDepth 100000 in
set_option maxHeartbeats 3200000 in
theorem CheckAll_c (v : Value) (l : List PAuth) (w : World) (hs : Sl 4 RAuth w v l) :
    Calls Try.prog 16 #[v] w fun e w' => e = .returned (.int .i64 (allE l)) ∧ Ext w w' := by
  obtain ⟨A, cap, rfl, hl, hcap⟩ := hs.shape
  by_cases h1 : l.length < 1
  · rw [allE_many (.inl h1)]
    have h1' : (l.length : Int) < 1 := by omega
    clear hs
    go_enter Try.func16, Try.ntmps16
    go_wp2
    go_ret
    exact ⟨rfl, Ext.refl _⟩
  by_cases h2 : 8 < l.length
  · rw [allE_many (.inr h2)]
    have h1' : ¬ (l.length : Int) < 1 := by omega
    have h2' : 8 < (l.length : Int) := by omega
    clear hs
    go_enter Try.func16, Try.ntmps16
    go_wp2
    go_ret
    exact ⟨rfl, Ext.refl _⟩
  have h12 : ¬ (l.length < 1 ∨ 8 < l.length) := by omega
  have h1' : ¬ (l.length : Int) < 1 := by omega
  have h2' : ¬ 8 < (l.length : Int) := by omega
  obtain ⟨E, hE⟩ : ∃ E, allE l = E := ⟨_, rfl⟩
  rw [hE]
  have HE := Lib.hid hE
  have HS := Lib.hid hs
  have H12 := Lib.hid h12
  clear hs h12 hE h1 h2
  have hmm := @run_makeMap Try.prog
  go_enter Try.func16, Try.ntmps16
  go_wp2
  have hown0 := World.ownsMap_made (H := Unit) w Try.prog 9 (plainElem Try.prog 4)
  go_loopw [5, 6, 18] (fun _ _ i wr => ∃ k : Nat, k ≤ l.length ∧ i = .int .i64 k ∧ (l.take k).all okA = true ∧ Ext w wr ∧ wr.ownsMap (H := Unit) Try.prog 9 (plainElem Try.prog 4) w.heap.size k (setOf (.lit (.bool true)) ((l.take k).map keyOfA))) (fun _ _ i _ => l.length - (intOf i).toNat)
  case atStart => exact ⟨0, by omega, rfl, by simp, by (repeat' (first | exact Ext.refl _ | assumption | refine Ext.alloc ?_ _ | refine Ext.drew ?_ | refine Ext.drewN ?_ _ | refine Ext.set ?_ (by first | exact Nat.le_refl _ | exact le1 _ | exact le2 _ | exact le3 _ | exact le4 _ | exact le5 _ | exact le6 _) _ | refine Ext.trans ?_ (by assumption))), hown0⟩
  case round =>
    obtain ⟨k, hk, rfl, ha, hb, hown⟩ := hrel
    have HA := Lib.hid ha
    clear ha
    by_cases hlt : k < l.length
    · obtain ⟨x, hx⟩ := some_of_lt hlt
      obtain ⟨b, off, cs, rfl, hn, ⟨vr, rfl, hr⟩, hc⟩ := (HS.out.ext RAuth.stable hb).at hx
      have HR := fun w' (h : Ext wr w') => Check_c vr x w' (hr.ext RRule.stable h)
      obtain ⟨A2, cap2, rfl, hl2, hcap2⟩ := hr.shape
      have k0 := hc 0 _ rfl
      have k1 := hc 1 _ rfl
      have k2 := hc 2 _ rfl
      have k3 := hc 3 _ rfl
      simp only [Nat.add_zero] at k0
      have HX := Lib.hid hx
      obtain ⟨z, hz⟩ : ∃ z, authE x = z := ⟨_, rfl⟩
      rw [hz] at HR
      have HZ := Lib.hid hz
      replace HR := Lib.hid HR
      clear hc hn hx hz hr
      by_cases h0 : z = 0
      · subst h0
        have hns := name_size HZ.out
        have HO := Lib.hid hown
        have hok : okA x = true := by simp [okA, HZ.out]
        have HOK := Lib.hid (all_take HX.out HA.out hok)
        have HT := Lib.hid (take_some HX.out)
        clear hown hok
        go_wp2_with (first
          | (go_at_call 50; refine (HR.out _ (by (repeat' (first | exact Ext.refl _ | assumption | refine Ext.alloc ?_ _ | refine Ext.drew ?_ | refine Ext.drewN ?_ _ | refine Ext.set ?_ (by first | exact Nat.le_refl _ | exact le1 _ | exact le2 _ | exact le3 _ | exact le4 _ | exact le5 _ | exact le6 _) _ | refine Ext.trans ?_ (by assumption))))).mono ?_; rintro e w2 ⟨rfl, hb2⟩
             obtain ⟨hc2, hf2⟩ := bcell hb2
             have hown2 := ownsMap_ext (HO.out.alloc (.cells #[.string x.name, .int .i64 x.fee, .int .i64 x.notice, .slice A2 x.rules.length cap2] 64)) hb2)
          | (at_mapUpdate; refine wpList_mapUpdate_own _ rfl _ _ _ 97 rfl 9 4 (Maps.string_keyed Try.underlying9) Try.underlying97 _ w.heap.size k _ rfl hown2 (by unfold maxLen; omega) _ _ _ rfl rfl (Go.WideMaps.keyOf_string_mk Try.underlying9 hns) _ [] (plainElem_bool Try.underlying4 true) ?_; intro w3 hown3 hgrow3))
        have hE3 : Ext w w3 := Ext.grown (by (repeat' (first | exact Ext.refl _ | assumption | refine Ext.alloc ?_ _ | refine Ext.drew ?_ | refine Ext.drewN ?_ _ | refine Ext.set ?_ (by first | exact Nat.le_refl _ | exact le1 _ | exact le2 _ | exact le3 _ | exact le4 _ | exact le5 _ | exact le6 _) _ | refine Ext.trans ?_ (by assumption)))) hgrow3 (fun j hj => by cases hj; exact Nat.le_refl _)
        go_roundw
        case rel => exact ⟨k + 1, by omega, by go_num, HOK.out, hE3, by rw [HT.out, List.map_append, List.map_cons, List.map_nil, setOf_snoc]; exact hown3⟩
        case measure => simp [intOf]; omega
      · have hok : okA x = false := by simp [okA, HZ.out, h0]
        have hf := firstE_hit HA.out HX.out hok
        rw [HZ.out] at hf
        have hEE : z = E := by rw [← HE.out, allE_bad H12.out (by rw [hf]; exact h0), hf]
        subst hEE
        clear hok hf hown
        go_wp2_with (go_at_call 50; refine (HR.out _ (by (repeat' (first | exact Ext.refl _ | assumption | refine Ext.alloc ?_ _ | refine Ext.drew ?_ | refine Ext.drewN ?_ _ | refine Ext.set ?_ (by first | exact Nat.le_refl _ | exact le1 _ | exact le2 _ | exact le3 _ | exact le4 _ | exact le5 _ | exact le6 _) _ | refine Ext.trans ?_ (by assumption))))).mono ?_; rintro e w2 ⟨rfl, hb2⟩)
        go_ret
        exact ⟨rfl, by (repeat' (first | exact Ext.refl _ | assumption | refine Ext.alloc ?_ _ | refine Ext.drew ?_ | refine Ext.drewN ?_ _ | refine Ext.set ?_ (by first | exact Nat.le_refl _ | exact le1 _ | exact le2 _ | exact le3 _ | exact le4 _ | exact le5 _ | exact le6 _) _ | refine Ext.trans ?_ (by assumption)))⟩
    · have hall := all_end HA.out (show l.length ≤ k by omega)
      have hf := firstE_ok hall
      rw [List.take_of_length_le (show l.length ≤ k by omega)] at hown
      have hsz := size_names l
      by_cases hu : Uniq l
      · have hEE : E = 0 := by rw [← HE.out, allE_uniq H12.out hf hu]
        subst hEE
        have hlt2 : ¬ Maps.size (setOf (H := Unit) (.lit (.bool true)) (l.map keyOfA)) < l.length := fun h => hsz.1 h hu
        generalize setOf (H := Unit) (.lit (.bool true)) (l.map keyOfA) = D at *
        clear hsz hu hall hf
        go_wp2_with (at_len; refine wpList_len_own _ rfl _ _ rfl 9 4 Try.underlying97 _ w.heap.size _ _ rfl hown ?_)
        go_ret
        exact ⟨rfl, hb⟩
      · have hEE : E = 12 := by rw [← HE.out, allE_dup H12.out hf hu]
        subst hEE
        have hlt2 : Maps.size (setOf (H := Unit) (.lit (.bool true)) (l.map keyOfA)) < l.length := hsz.2 hu
        generalize setOf (H := Unit) (.lit (.bool true)) (l.map keyOfA) = D at *
        clear hsz hu hall hf
        go_wp2_with (at_len; refine wpList_len_own _ rfl _ _ rfl 9 4 Try.underlying97 _ w.heap.size _ _ rfl hown ?_)
        go_ret
        exact ⟨rfl, hb⟩

set_option maxRecDepth 100000 in
set_option maxHeartbeats 3200000 in
theorem RCheckAll_c (v : Value) (l : List PAuth) (w : World) (hs : Sl 4 RAuth w v l) :
    Calls Try.prog 17 #[v] w fun e w' => e = .returned (.int .i64 (allE l)) ∧ Ext w w' := by
  obtain ⟨A, cap, rfl, hl, hcap⟩ := hs.shape
  by_cases h1 : l.length < 1
  · rw [allE_many (.inl h1)]
    have h1' : (l.length : Int) < 1 := by omega
    clear hs
    go_enter Try.func17, Try.ntmps17
    go_wp2
    go_ret
    exact ⟨rfl, Ext.refl _⟩
  by_cases h2 : 8 < l.length
  · rw [allE_many (.inr h2)]
    have h1' : ¬ (l.length : Int) < 1 := by omega
    have h2' : 8 < (l.length : Int) := by omega
    clear hs
    go_enter Try.func17, Try.ntmps17
    go_wp2
    go_ret
    exact ⟨rfl, Ext.refl _⟩
  have h12 : ¬ (l.length < 1 ∨ 8 < l.length) := by omega
  have h1' : ¬ (l.length : Int) < 1 := by omega
  have h2' : ¬ 8 < (l.length : Int) := by omega
  obtain ⟨E, hE⟩ : ∃ E, allE l = E := ⟨_, rfl⟩
  rw [hE]
  have HE := Lib.hid hE
  have HS := Lib.hid hs
  have H12 := Lib.hid h12
  clear hs h12 hE h1 h2
  go_enter Try.func17, Try.ntmps17
  go_wp2
  go_loopw [3] (fun i wr => ∃ k : Nat, k ≤ l.length ∧ i = .int .i64 k ∧ (l.take k).all okA = true ∧ Ext w wr) (fun i _ => l.length - (intOf i).toNat)
  case atStart => exact ⟨0, by omega, rfl, by simp, Ext.refl _⟩
  case round =>
    obtain ⟨k, hk, rfl, ha, hb⟩ := hrel
    have HA := Lib.hid ha
    clear ha
    by_cases hlt : k < l.length
    · obtain ⟨x, hx⟩ := some_of_lt hlt
      obtain ⟨b, off, cs, rfl, hn, ⟨vr, rfl, hr⟩, hc⟩ := (HS.out.ext RAuth.stable hb).at hx
      have HR := fun w' (h : Ext wr w') => RCheck_c vr x w' (hr.ext RRule.stable h)
      obtain ⟨A2, cap2, rfl, hl2, hcap2⟩ := hr.shape
      have k0 := hc 0 _ rfl
      have k1 := hc 1 _ rfl
      have k2 := hc 2 _ rfl
      have k3 := hc 3 _ rfl
      simp only [Nat.add_zero] at k0
      have HX := Lib.hid hx
      obtain ⟨z, hz⟩ : ∃ z, authE x = z := ⟨_, rfl⟩
      rw [hz] at HR
      have HZ := Lib.hid hz
      replace HR := Lib.hid HR
      have hbl := lt_of_cell k0
      clear hc hn hx hz hr
      by_cases h0 : z = 0
      · subst h0
        have hok : okA x = true := by simp [okA, HZ.out]
        have HOK := Lib.hid (all_take HX.out HA.out hok)
        clear hok
        go_wp2_with (go_at_call 51; refine (HR.out _ (by (repeat' (first | exact Ext.refl _ | assumption | refine Ext.alloc ?_ _ | refine Ext.drew ?_ | refine Ext.drewN ?_ _ | refine Ext.set ?_ (by first | exact Nat.le_refl _ | exact le1 _ | exact le2 _ | exact le3 _ | exact le4 _ | exact le5 _ | exact le6 _) _ | refine Ext.trans ?_ (by assumption))))).mono ?_; rintro e w2 ⟨rfl, hb2⟩)
        go_roundw
        case rel => exact ⟨k + 1, by omega, by go_num, HOK.out, by (repeat' (first | exact Ext.refl _ | assumption | refine Ext.alloc ?_ _ | refine Ext.drew ?_ | refine Ext.drewN ?_ _ | refine Ext.set ?_ (by first | exact Nat.le_refl _ | exact le1 _ | exact le2 _ | exact le3 _ | exact le4 _ | exact le5 _ | exact le6 _) _ | refine Ext.trans ?_ (by assumption)))⟩
        case measure => simp [intOf]; omega
      · have hok : okA x = false := by simp [okA, HZ.out, h0]
        have hf := firstE_hit HA.out HX.out hok
        rw [HZ.out] at hf
        have hEE : z = E := by rw [← HE.out, allE_bad H12.out (by rw [hf]; exact h0), hf]
        subst hEE
        clear hok hf
        go_wp2_with fail
        refine (HR.out _ (by (repeat' (first | exact Ext.refl _ | assumption | refine Ext.alloc ?_ _ | refine Ext.drew ?_ | refine Ext.drewN ?_ _ | refine Ext.set ?_ (by first | exact Nat.le_refl _ | exact le1 _ | exact le2 _ | exact le3 _ | exact le4 _ | exact le5 _ | exact le6 _) _ | refine Ext.trans ?_ (by assumption))))).mono ?_
        rintro e w2 ⟨rfl, hb2⟩
        obtain ⟨hc2, hf2⟩ := bcell hb2
        go_wp2_with fail
        refine (HR.out _ hb2).mono ?_
        rintro e w3 ⟨rfl, hb3⟩
        go_wp2_with fail
        go_ret
        exact ⟨rfl, by (repeat' (first | exact Ext.refl _ | assumption | refine Ext.alloc ?_ _ | refine Ext.drew ?_ | refine Ext.drewN ?_ _ | refine Ext.set ?_ (by first | exact Nat.le_refl _ | exact le1 _ | exact le2 _ | exact le3 _ | exact le4 _ | exact le5 _ | exact le6 _) _ | refine Ext.trans ?_ (by assumption)))⟩
    · have hall := all_end HA.out (show l.length ≤ k by omega)
      have hf := firstE_ok hall
      have HU := Lib.hid (allE_uniq H12.out hf)
      have HD := Lib.hid (allE_dup H12.out hf)
      obtain ⟨wo, rfl⟩ : ∃ wo : World, wo = wr := ⟨_, rfl⟩
      clear hall hf
      go_wp2
      go_loopw [4, 5] (fun i _ wr => ∃ k : Nat, k ≤ l.length ∧ i = .int .i64 k ∧ Uniq (l.take k) ∧ Ext w wr) (fun i _ _ => l.length - (intOf i).toNat)
      case atStart => exact ⟨0, by omega, rfl, by simp [Uniq], hb⟩
      case round =>
        obtain ⟨k, hk, rfl, hu, hb⟩ := hrel
        have HQ := Lib.hid hu
        clear hu
        by_cases hlt : k < l.length
        · obtain ⟨x, hx⟩ := some_of_lt hlt
          have HX := Lib.hid hx
          clear hx
          obtain ⟨wo2, rfl⟩ : ∃ wo : World, wo = wr := ⟨_, rfl⟩
          go_wp2
          go_loopw [5] (fun j wr => ∃ i : Nat, i ≤ k ∧ j = .int .i64 i ∧ (∀ y ∈ l.take i, y.name ≠ x.name) ∧ Ext w wr) (fun j _ => k - (intOf j).toNat)
          case atStart => exact ⟨0, by omega, rfl, by simp, hb⟩
          case round =>
            obtain ⟨i, hi, rfl, hd, hb⟩ := hrel
            have HDi := Lib.hid hd
            clear hd
            by_cases hil : i < k
            · obtain ⟨y, hy⟩ := some_of_lt (show i < l.length by omega)
              have HY := Lib.hid hy
              obtain ⟨b, off, cs, hA1, hn, ⟨vr, rfl, hr⟩, hc⟩ := (HS.out.ext RAuth.stable hb).at HX.out
              obtain ⟨b', off', cs', hA2, hn', ⟨vr', rfl, hr'⟩, hc'⟩ := (HS.out.ext RAuth.stable hb).at hy
              rw [hA1] at hA2
              simp only [Option.some.injEq, Addr.mk.injEq, and_true] at hA2
              obtain ⟨rfl, rfl⟩ := hA2
              subst hA1
              have k0 := hc 0 _ rfl
              have j0 := hc' 0 _ rfl
              simp only [Nat.add_zero] at k0 j0
              clear hc hn hr hc' hn' hr' hy
              have i1 : (0 : Int) ≤ (k : Int) := by omega
              have i2 : (k : Int) < (l.length : Int) := by omega
              have i3 : (0 : Int) ≤ (i : Int) := by omega
              have i4 : (i : Int) < (l.length : Int) := by omega
              have i5 : (i : Int) < (k : Int) := by omega
              by_cases he : x.name = y.name
              · have hEE : E = 12 := by rw [← HE.out, HD.out (not_uniq HX.out HY.out hil he)]
                subst hEE
                rw [← he] at j0
                generalize x.name = xn at *
                clear he
                go_wp2_with fail
                go_quiet (fail)
                go_wp2_with fail
                go_ret
                exact ⟨rfl, by (repeat' (first | exact Ext.refl _ | assumption | refine Ext.alloc ?_ _ | refine Ext.drew ?_ | refine Ext.drewN ?_ _ | refine Ext.set ?_ (by first | exact Nat.le_refl _ | exact le1 _ | exact le2 _ | exact le3 _ | exact le4 _ | exact le5 _ | exact le6 _) _ | refine Ext.trans ?_ (by assumption)))⟩
              · have hbe := beq_toList he
                have HN := Lib.hid he
                generalize x.name = xn at *
                generalize hyn : y.name = yn at *
                have HYN := Lib.hid hyn
                clear he hyn
                go_wp2_with fail
                go_quiet (fail)
                go_wp2_with fail
                go_roundw
                case rel =>
                  refine ⟨i + 1, by omega, by go_num, ?_, by (repeat' (first | exact Ext.refl _ | assumption | refine Ext.alloc ?_ _ | refine Ext.drew ?_ | refine Ext.drewN ?_ _ | refine Ext.set ?_ (by first | exact Nat.le_refl _ | exact le1 _ | exact le2 _ | exact le3 _ | exact le4 _ | exact le5 _ | exact le6 _) _ | refine Ext.trans ?_ (by assumption)))⟩
                  rw [take_some HY.out]
                  intro z hz
                  rcases List.mem_append.1 hz with hz | hz
                  · exact HDi.out z hz
                  · rw [List.mem_singleton.1 hz, HYN.out]; exact fun e => HN.out e.symm
                case measure => simp [intOf]; omega
            · have hik : i = k := by omega
              subst hik
              have HP := Lib.hid (pair_take HX.out HQ.out HDi.out)
              have i1 : ¬ (i : Int) < (i : Int) := by omega
              have i2 : (i : Int) < (l.length : Int) := by omega
              go_wp2
              go_roundw
              case rel => exact ⟨i + 1, by omega, by go_num, HP.out, hb⟩
              case measure => simp [intOf]; omega
        · have hu := HQ.out
          rw [List.take_of_length_le (show l.length ≤ k by omega)] at hu
          have hEE : E = 0 := by rw [← HE.out, HU.out hu]
          subst hEE
          clear hu
          go_wp2
          go_ret
          exact ⟨rfl, hb⟩
end Go.Proofs.Ytaomlmkcifpfkaa
