/- What a permit is, plainly; rows of the call's own that read as lists. -/
import Derived.Test.YtaomlmkcifpfkaaPFor
namespace Go.Proofs.Ytaomlmkcifpfkaa
open Go.RowKit

/-! ### rows of the call's own -/
section
variable {α : Type}
/-- a row of the call's own reads as a list -/
def OwnL (n : Nat) (e : TypeId) (R : World → List Value → α → Prop) (base : Nat) (w : World) (v : Value) (l : List α) : Prop :=
  ∃ css : List (List Value), css.length = l.length ∧ w.ownsRow base e n v l.length css.flatten ∧ ∀ (i : Nat) (cs : List Value) (x : α), css[i]? = some cs → l[i]? = some x → cs.length = n ∧ R w cs x
theorem OwnL.nil {n : Nat} {e : TypeId} {R : World → List Value → α → Prop} {base : Nat} {w : World} : OwnL n e R base w (.slice none 0 0) [] :=
  ⟨[], rfl, by simpa using World.ownsRow_nil w base e n, fun i cs x h => by simp at h⟩
theorem OwnL.snoc {n : Nat} {e : TypeId} {R : World → List Value → α → Prop} {base : Nat} {w' : World} {v' : Value} {l : List α} {css : List (List Value)} {cs : List Value} {x : α}
    (hl : css.length = l.length) (hx : ∀ (i : Nat) (cs : List Value) (x : α), css[i]? = some cs → l[i]? = some x → cs.length = n ∧ R w' cs x) (hown : w'.ownsRow base e n v' (l.length + 1) (css.flatten ++ cs)) (hn : cs.length = n) (hr : R w' cs x) : OwnL n e R base w' v' (l ++ [x]) := by
  refine ⟨css ++ [cs], by simp [hl], by simpa using hown, fun i c y h1 h2 => ?_⟩
  rcases Nat.lt_or_ge i css.length with hi | hi
  · rw [List.getElem?_append_left hi] at h1
    rw [List.getElem?_append_left (by omega)] at h2
    exact hx i c y h1 h2
  · rw [List.getElem?_append_right hi] at h1
    rw [List.getElem?_append_right (by omega)] at h2
    have hi0 : i - css.length = 0 := by have := lt_of_some h1; simp at this; omega
    rw [hi0] at h1
    rw [show i - l.length = 0 by omega] at h2
    simp only [List.getElem?_cons_zero, Option.some.injEq] at h1 h2
    subst h1 h2
    exact ⟨hn, hr⟩
theorem flatten_get {n : Nat} : ∀ {css : List (List Value)} {i : Nat} {cs : List Value}, (∀ c ∈ css, c.length = n) → css[i]? = some cs → ∀ j c, cs[j]? = some c → css.flatten[i * n + j]? = some c
  | [], i, cs, _, h, j, c, hj => by simp at h
  | d :: css, 0, cs, hn, h, j, c, hj => by
    simp only [List.getElem?_cons_zero, Option.some.injEq] at h
    subst h
    rw [List.flatten_cons, Nat.zero_mul, Nat.zero_add, List.getElem?_append_left (lt_of_some hj)]
    exact hj
  | d :: css, i + 1, cs, hn, h, j, c, hj => by
    have hd : d.length = n := hn d (by simp)
    rw [List.flatten_cons, List.getElem?_append_right (by rw [hd, Nat.succ_mul]; omega), hd, show (i + 1) * n + j - n = i * n + j by rw [Nat.succ_mul]; omega]
    exact flatten_get (fun c hc => hn c (by simp [hc])) (by simpa using h) j c hj
theorem OwnL.sl {n : Nat} {e : TypeId} {R : World → List Value → α → Prop} {base : Nat} {w : World} {v : Value} {l : List α} (h : OwnL n e R base w v l) : Sl n R w v l := by
  obtain ⟨css, hl, hown, hx⟩ := h
  have hcs : ∀ c ∈ css, c.length = n := by
    intro c hc
    obtain ⟨i, hi, rfl⟩ := List.mem_iff_getElem.1 hc
    exact (hx i _ (l[i]'(by omega)) (List.getElem?_eq_getElem hi) (List.getElem?_eq_getElem _)).1
  rcases hown.2 with ⟨rfl, h0⟩ | ⟨g, cap, cur, rfl, hb, hg, hle, hm, _⟩
  · have hl0 : l = [] := List.eq_nil_of_length_eq_zero h0
    subst hl0
    exact ⟨none, 0, rfl, by simp, by simp, fun i x h => by simp at h⟩
  · refine ⟨some ⟨g, 0, none⟩, cap, rfl, by unfold maxLen at hm; omega, hle, fun i x hi => ?_⟩
    have hil := lt_of_some hi
    have hci : css[i]? = some (css[i]'(by omega)) := List.getElem?_eq_getElem _
    obtain ⟨h1, h2⟩ := hx i _ x hci hi
    refine ⟨g, 0, _, rfl, h1, h2, fun j c hj => ?_⟩
    have := World.ownsRow.cells hown (g := g) rfl _ _ (flatten_get hcs hci j c hj)
    rw [add_none] at this
    rw [Nat.zero_add] at this ⊢
    exact this
theorem ownsRow_ext {w w' : World} {base : Nat} {e : TypeId} {n m : Nat} {v : Value} {xs : List Value} (h : w.ownsRow base e n v m xs) (he : Ext w w') : w'.ownsRow base e n v m xs := by
  refine ⟨h.1, ?_⟩
  rcases h.2 with h0 | ⟨g, cap, cur, hv, hb, hg, hr⟩
  · exact .inl h0
  · refine .inr ⟨g, cap, cur, hv, hb, ?_, hr⟩
    have hlt : g < w.heap.size := by
      rcases Nat.lt_or_ge g w.heap.size with h | h
      · exact h
      · rw [Array.getElem?_eq_none h] at hg; cases hg
    exact (he.block g hlt).trans hg
theorem OwnL.ext {n : Nat} {e : TypeId} {R : World → List Value → α → Prop} (hR : Stable R) {base : Nat} {w w' : World} {v : Value} {l : List α} (h : OwnL n e R base w v l) (he : Ext w w') : OwnL n e R base w' v l := by
  obtain ⟨css, hl, hown, hx⟩ := h
  exact ⟨css, hl, ownsRow_ext hown he, fun i cs x h1 h2 => ⟨(hx i cs x h1 h2).1, hR _ _ _ _ he (hx i cs x h1 h2).2⟩⟩
/-- a store into another block leaves a row alone -/
theorem ownsRow_set {w : World} {base : Nat} {e : TypeId} {n m : Nat} {v : Value} {xs : List Value} (h : w.ownsRow base e n v m xs) {p : Addr} (hp : p.block < base) (u : Value) : (w.setCell p u).ownsRow base e n v m xs := by
  refine ⟨h.1, ?_⟩
  rcases h.2 with h0 | ⟨g, cap, cur, hv, hb, hg, hr⟩
  · exact .inl h0
  · exact .inr ⟨g, cap, cur, hv, hb, (Below.heap_setCell w p u g (by omega)).trans hg, hr⟩
end

/-! ### the permit -/
structure PCond where
  passage : Int
  auth : Int
  rule : Int
def condCs (c : PCond) : List Value := [.int .i64 c.passage, .int .i64 c.auth, .int .i64 c.rule]
def RCond (_ : World) (cs : List Value) (c : PCond) : Prop := cs = condCs c
theorem RCond.stable : Stable RCond := fun _ _ _ _ _ h => h

def usedB (l : List PAuth) (t : PTrip) (k : Nat) (a : Int) : Bool := (t.passages.take k).any fun p => decide (idxA l p.auth = a)
/-- the rules, of the first n, that are for a road -/
def ruleSel (t : PTrip) (road : ByteArray) (rules : List PRule) (n : Nat) : List (PRule × Nat) := (rules.take n).zipIdx.filter fun q => forB q.1 road t
theorem ruleSel_succ {t : PTrip} {road : ByteArray} {rules : List PRule} {n : Nat} {r : PRule} (h : rules[n]? = some r) :
    ruleSel t road rules (n + 1) = ruleSel t road rules n ++ if forB r road t = true then [(r, n)] else [] := by
  unfold ruleSel
  have hn := lt_of_some h
  rw [take_some h, List.zipIdx_append, List.filter_append, List.length_take, Nat.min_eq_left (by omega)]
  congr 1
  simp only [List.zipIdx_cons, List.zipIdx_nil, Nat.zero_add, List.filter_cons, List.filter_nil]
theorem ruleSel_zero (t : PTrip) (road : ByteArray) (rules : List PRule) : ruleSel t road rules 0 = [] := by simp [ruleSel]
theorem ruleSel_len (t : PTrip) (road : ByteArray) (rules : List PRule) (n : Nat) : (ruleSel t road rules n).length ≤ n := by
  unfold ruleSel
  refine Nat.le_trans (List.length_filter_le _ _) ?_
  simp; omega
theorem ruleSel_mem {t : PTrip} {road : ByteArray} {rules : List PRule} {n : Nat} {q : PRule × Nat} (h : q ∈ ruleSel t road rules n) : q.1 ∈ rules ∧ rules[q.2]? = some q.1 := by
  unfold ruleSel at h
  have h1 := (List.mem_filter.1 h).1
  rw [List.mem_zipIdx_iff_getElem?] at h1
  have h2 : rules[q.2]? = some q.1 := by
    rw [List.getElem?_take] at h1
    split at h1
    · exact h1
    · cases h1
  exact ⟨mem_of_some h2, h2⟩
def authAt (l : List PAuth) (p : PPass) : Option PAuth := l[(idxA l p.auth).toNat]?
def rulesOf (l : List PAuth) (p : PPass) : List PRule := match authAt l p with | some a => a.rules | none => []
def selOf (l : List PAuth) (t : PTrip) (p : PPass) : List (PRule × Nat) := ruleSel t p.road (rulesOf l p) (rulesOf l p).length
def condOf (k a : Int) (q : PRule × Nat) : PCond := ⟨k, a, q.2⟩
/-- the conditions of the first k passages -/
def condsN (l : List PAuth) (t : PTrip) : Nat → List PCond
  | 0 => []
  | k + 1 => condsN l t k ++ (match t.passages[k]? with | some p => (selOf l t p).map (condOf k (idxA l p.auth)) | none => [])
def costs (s : List (PRule × Nat)) : Int := (s.map fun q => q.1.cost).sum
def feeN (l : List PAuth) (t : PTrip) : Nat → Int
  | 0 => 0
  | k + 1 => feeN l t k + (match t.passages[k]? with | some p => (match authAt l p with | some a => if usedB l t k (idxA l p.auth) = true then 0 else a.fee | none => 0) + costs (selOf l t p) | none => 0)
def noticeN (l : List PAuth) (t : PTrip) : Nat → Int
  | 0 => 0
  | k + 1 => match t.passages[k]? with | some p => (match authAt l p with | some a => if usedB l t k (idxA l p.auth) = true then noticeN l t k else max (noticeN l t k) a.notice | none => noticeN l t k) | none => noticeN l t k
def conds (l : List PAuth) (t : PTrip) : List PCond := condsN l t t.passages.length
def feeS (l : List PAuth) (t : PTrip) : Int := feeN l t t.passages.length
def noticeS (l : List PAuth) (t : PTrip) : Int := noticeN l t t.passages.length

/-- authorities and a trip are valid -/
structure Valid (l : List PAuth) (t : PTrip) : Prop where
  len : 1 ≤ l.length ∧ l.length ≤ 8
  auths : ∀ a ∈ l, authE a = 0
  uniq : Uniq l
  plen : 1 ≤ t.passages.length ∧ t.passages.length ≤ 24
  sizes : sizesB t = true
  passes : ∀ p ∈ t.passages, passB p = true
  found : ∀ p ∈ t.passages, 0 ≤ idxA l p.auth
def foundB (l : List PAuth) (p : PPass) : Bool := decide (0 ≤ idxA l p.auth)
def beginE (l : List PAuth) (t : PTrip) : Int := if allE l = 0 then (if tripE t = 0 then (if t.passages.all (foundB l) = true then 0 else 5) else tripE t) else allE l
theorem firstE_zero : ∀ {l : List PAuth}, firstE l = 0 → ∀ a ∈ l, authE a = 0
  | [], _, a, h => by cases h
  | b :: l, h, a, ha => by
    unfold firstE at h
    split at h
    · rename_i hb
      rcases List.mem_cons.1 ha with rfl | ha
      · exact hb
      · exact firstE_zero h a ha
    · rename_i hb
      exact absurd h hb
theorem valid_of_begin {l : List PAuth} {t : PTrip} (h : beginE l t = 0) : Valid l t := by
  unfold beginE at h
  by_cases h1 : allE l = 0
  · rw [if_pos h1] at h
    by_cases h2 : tripE t = 0
    · rw [if_pos h2] at h
      by_cases h3 : t.passages.all (foundB l) = true
      · by_cases hl : l.length < 1 ∨ 8 < l.length
        · rw [allE_many hl] at h1; cases h1
        · by_cases hf : firstE l = 0
          · by_cases hu : Uniq l
            · by_cases hp : t.passages.length < 1 ∨ 24 < t.passages.length
              · rw [tripE_many hp] at h2; cases h2
              · rw [tripE_few hp] at h2
                split at h2
                · rename_i h4
                  rw [Bool.and_eq_true] at h4
                  exact ⟨by omega, firstE_zero hf, hu, by omega, h4.1, fun p hp => List.all_eq_true.1 h4.2 p hp, fun p hp => by have := List.all_eq_true.1 h3 p hp; simpa [foundB] using this⟩
                · cases h2
            · rw [allE_dup hl hf hu] at h1; cases h1
          · rw [allE_bad hl hf] at h1; exact absurd h1 hf
      · rw [if_neg h3] at h; cases h
    · rw [if_neg h2] at h; exact absurd h h2
  · rw [if_neg h1] at h; exact absurd h h1
theorem authE_zero {a : PAuth} (h : authE a = 0) : a.rules.length ≤ 24 ∧ nameB a.name = true ∧ (0 ≤ a.fee ∧ a.fee ≤ 1073741824) ∧ (0 ≤ a.notice ∧ a.notice ≤ 1048576) ∧ ∀ r ∈ a.rules, ruleB r = true := by
  by_cases hm : 24 < a.rules.length
  · rw [authE_many hm] at h; cases h
  · rw [authE_few hm] at h
    split at h
    · rename_i h2
      rw [Bool.and_eq_true, Bool.and_eq_true, Bool.and_eq_true, inB_iff, inB_iff] at h2
      obtain ⟨⟨⟨h3, h4⟩, h5⟩, h6⟩ := h2
      exact ⟨by omega, h3, h4, h5, fun r hr => List.all_eq_true.1 h6 r hr⟩
    · cases h
theorem ruleB_parts {r : PRule} (h : ruleB r = true) : (0 ≤ r.days ∧ r.days ≤ 127) ∧ (0 ≤ r.cost ∧ r.cost ≤ 1073741824) ∧ (0 ≤ r.h0 ∧ r.h0 ≤ 1440) ∧ (0 ≤ r.s0 ∧ r.s0 ≤ 365) ∧ (0 ≤ r.h1 ∧ r.h1 ≤ 1440) ∧ (0 ≤ r.s1 ∧ r.s1 ≤ 365) ∧ r.whens.all whenB = true ∧ r.counts.all countB = true ∧ r.counts.length ≤ 6 ∧ r.whens.length ≤ 6 ∧ r.roads.length ≤ 16 := by
  unfold ruleB headB hoursB at h
  simp only [Bool.and_eq_true, decide_eq_true_eq, inB_iff] at h
  obtain ⟨⟨⟨⟨⟨⟨h1, h2⟩, h3⟩, ⟨⟨h4, h5⟩, h6⟩, h7⟩, h8⟩, h9⟩, h10⟩ := h
  exact ⟨⟨h2.2.2.2.1, h2.2.2.2.2⟩, h3, h4, h5, h6, h7, h9, h10, h2.2.2.1, h2.2.1, h2.1⟩
theorem Valid.auth {l : List PAuth} {t : PTrip} (h : Valid l t) {k : Nat} {p : PPass} (hp : t.passages[k]? = some p) : ∃ (a : Nat) (x : PAuth), idxA l p.auth = (a : Int) ∧ a < l.length ∧ l[a]? = some x ∧ authAt l p = some x ∧ x.name = p.auth ∧ rulesOf l p = x.rules ∧ authE x = 0 := by
  have h0 := h.found p (mem_of_some hp)
  obtain ⟨a, ha⟩ : ∃ a : Nat, idxA l p.auth = (a : Int) := ⟨(idxA l p.auth).toNat, by omega⟩
  obtain ⟨x, hx, hn⟩ := idxL_some ha
  have hat : authAt l p = some x := by unfold authAt; rw [ha]; exact hx
  exact ⟨a, x, ha, lt_of_some hx, hx, hat, by simpa using hn, by unfold rulesOf; rw [hat], h.auths x (mem_of_some hx)⟩
end Go.Proofs.Ytaomlmkcifpfkaa
