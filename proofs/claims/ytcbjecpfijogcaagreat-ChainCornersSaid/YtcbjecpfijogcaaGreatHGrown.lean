
/- Contract: a hull that is grown, the definition; that the order of points does not matter. -/
import Derived.Test.YtcbjecpfijogcaaGreatHParting
import Derived.Test.YtcbjecpfijogcaaGreatHSame
namespace Go.Proofs.YtcbjecpfijogcaaGreat
open Go.RowKit Go.Shelf

theorem Pts.blk {w : World} {b c : Nat} {l : List HPt} (h : w.heap[b]? = some (.cells (flatP l).toArray 26 (0, 0))) (hc : l.length ≤ c) (hl : l.length ≤ 1000000) : Pts w (.slice (some ⟨b, 0, none⟩) l.length c) l := by
  refine .inr ⟨b, 0, c, rfl, by omega, hc, fun i hi => ?_⟩
  have hp : l[i]? = some l[i] := List.getElem?_eq_getElem hi
  obtain ⟨h1, h2⟩ := flatP_at l i _ hp
  rw [getD_lt hi]
  have k1 := World.news_of_block h (i * 2) _ (by simpa using h1)
  have k2 := World.news_of_block h (i * 2 + 1) _ (by simpa using h2)
  rw [add_noneH, Nat.zero_add] at k1 k2
  rw [Nat.zero_add]
  exact ⟨k1, k2⟩
def rgP (t : Int) (p : HPt) : List HPt := [(p.1 - t, p.2 - t), (p.1 + t, p.2 - t), (p.1 - t, p.2 + t), (p.1 + t, p.2 + t)]
def pgP (t : Int) (p : HPt) : List HPt := [(p.1 - t, p.2 - t), (p.1 - t, p.2 + t), (p.1 + t, p.2 - t), (p.1 + t, p.2 + t)]
/-- the corners of the squares about points -/
def growP (t : Int) (h : List HPt) : List HPt := h.flatMap (rgP t)
theorem grow_len (t : Int) (h : List HPt) : (growP t h).length = h.length * 4 := by
  induction h with
  | nil => rfl
  | cons a h ih => rw [show growP t (a :: h) = rgP t a ++ growP t h from rfl, List.length_append, ih]; simp [rgP]; omega
theorem grow_take {t : Int} {h : List HPt} {k : Nat} (hk : k < h.length) : growP t (h.take (k + 1)) = growP t (h.take k) ++ rgP t (h.getD k (0, 0)) := by
  unfold growP
  rw [getD_lt hk, List.take_succ_eq_append_getElem hk, List.flatMap_append]
  simp
/-- two lists with the same points have the same hull -/
theorem corners_mem {l m : List HPt} (h : ∀ p, p ∈ l ↔ p ∈ m) : cornersP l = cornersP m := by
  have hs : sortP l = sortP m := srt_unique (sort_srt l) (sort_srt m) (fun y => by rw [sort_mem, sort_mem, h])
  unfold cornersP
  rw [hs]
theorem pgrow_mem (t : Int) (h : List HPt) : ∀ p, p ∈ h.flatMap (pgP t) ↔ p ∈ growP t h := by
  intro p
  unfold growP
  simp only [List.mem_flatMap, pgP, rgP, List.mem_cons, List.not_mem_nil, or_false]
  constructor
  · rintro ⟨q, hq, h1 | h1 | h1 | h1⟩
    · exact ⟨q, hq, .inl h1⟩
    · exact ⟨q, hq, .inr (.inr (.inl h1))⟩
    · exact ⟨q, hq, .inr (.inl h1)⟩
    · exact ⟨q, hq, .inr (.inr (.inr h1))⟩
  · rintro ⟨q, hq, h1 | h1 | h1 | h1⟩
    · exact ⟨q, hq, .inl h1⟩
    · exact ⟨q, hq, .inr (.inr (.inl h1))⟩
    · exact ⟨q, hq, .inr (.inl h1)⟩
    · exact ⟨q, hq, .inr (.inr (.inr h1))⟩
/-- coordinates of what may grow -/
def midB (p : HPt) : Prop := (-134217728 ≤ p.1 ∧ p.1 ≤ 134217728) ∧ (-134217728 ≤ p.2 ∧ p.2 ≤ 134217728)
theorem grow_wide {t : Int} {h : List HPt} (ht : -134217728 ≤ t ∧ t ≤ 134217728) (hm : ∀ p ∈ h, midB p) : ∀ p ∈ growP t h, wideB p := by
  intro p hp
  unfold growP at hp
  obtain ⟨q, hq, h1⟩ := List.mem_flatMap.1 hp
  have := hm q hq
  unfold midB at this
  simp only [rgP, List.mem_cons, List.not_mem_nil, or_false] at h1
  unfold wideB
  rcases h1 with rfl | rfl | rfl | rfl <;> simp only <;> omega
theorem rg_blk (x y t : Int) (W : World) : Pts (W.alloc (.cells #[.int .i64 (x - t), .int .i64 (y - t), .int .i64 (x + t), .int .i64 (y - t), .int .i64 (x - t), .int .i64 (y + t), .int .i64 (x + t), .int .i64 (y + t)] 26)) (.slice (some ⟨W.heap.size, 0, none⟩) 4 4) (rgP t (x, y)) :=
  Pts.blk (l := rgP t (x, y)) (c := 4) (World.alloc_heap_new W _) (Nat.le_refl _) (by simp [rgP])
set_option maxRecDepth 100000 in
set_option maxHeartbeats 1600000 in
theorem Grown_c (t : Int) (v : Value) (h : List HPt) (w : World) (hp : Pts w v h) (ht : -134217728 ≤ t ∧ t ≤ 134217728) (hm : ∀ p ∈ h, midB p) (hn : h.length ≤ 10000) :
    Calls Tryz.prog 18 #[v, .int .i64 t] w fun e w' => ∃ v', e = .returned v' ∧ OwnP w.heap.size w' v' (cornersP (growP t h)) ∧ Ext w w' := by
  have HW := Lib.hid (grow_wide ht hm)
  obtain ⟨A0, c0, rfl, hl⟩ := hp.shapeH
  have HP := Lib.hid hp
  have HM := Lib.hid hm
  clear hp hm
  go_enter Tryz.func18, Tryz.ntmps18
  go_wp2
  go_loopw [5, 6] (fun o i wr => ∃ (k N : Nat) (A : Option Addr) (c : Nat), k ≤ h.length ∧ i = .int .i64 k ∧ o = .slice A N c ∧ N = k * 4 ∧ OwnP w.heap.size wr (.slice A N c) (growP t (h.take k)) ∧ Ext w wr) (fun _ i _ => h.length - (intOf i).toNat)
  case atStart => exact ⟨0, 0, none, 0, by omega, rfl, rfl, rfl, OwnP.none0, Ext.refl _⟩
  case round =>
    obtain ⟨k, N, A, c, hk, rfl, rfl, hN, ho, hE⟩ := hrel
    by_cases hlt : k < h.length
    · have hq : h[k]? = some (h.getD k (0, 0)) := by rw [getD_lt hlt]; exact List.getElem?_eq_getElem hlt
      obtain ⟨b, off, rfl, x0, x1⟩ := pts_atH (HP.out.ext hE) rfl hq
      have hmm := HM.out _ (get_mem hlt)
      have htk := grow_take (t := t) hlt
      generalize h.getD k (0, 0) = p at *
      obtain ⟨p1, p2⟩ := p
      simp only at x0 x1
      unfold midB at hmm
      simp only at hmm
      have e1 := IntWalk.i64_in (p1 - t) (by omega)
      have e2 := IntWalk.i64_in (p2 - t) (by omega)
      have e3 := IntWalk.i64_in (p1 + t) (by omega)
      have e4 := IntWalk.i64_in (p2 + t) (by omega)
      have hNl : (growP t (h.take k)).length = N := by rw [grow_len, List.length_take, hN, Nat.min_eq_left hk]
      have hNb : N ≤ 40000 := by omega
      have HO := Lib.hid (And.intro ho (And.intro hN hNl))
      have HE := Lib.hid hE
      have zE := hE.sz
      have HTK := Lib.hid htk
      clear ho hN hNl hE htk hq hmm
      go_wp2_with (at_builtin; refine wpList_append_pts (by rfl) _ _ (by rfl) w.heap.size (.slice A N c) (.slice (some ⟨wr.heap.size + 1, 0, none⟩) 4 4) (growP t (h.take k)) (rgP t (p1, p2)) (by rfl) (HO.out.1.ext (((Ext.refl wr).alloc _).alloc _)) (by rfl) (by have h9 := rg_blk p1 p2 t (wr.alloc (.cells #[.int .i64 p1, .int .i64 p2] 26)); rw [size_alloc] at h9; exact h9) (by rw [HO.out.2.2]; simp [rgP]; omega) (by simp; omega) ?_; intro v4 w4 ho4 hg4; have E4 : Ext w w4 := Ext.trans' (w := w) ((HE.out.alloc _).alloc _) hg4 (own_ge' HO.out.1); obtain ⟨A4, c4, rfl, _⟩ := ho4.shape; rw [← HTK.out, grow_len, List.length_take, Nat.min_eq_left (show k + 1 ≤ h.length by omega)] at ho4 ⊢; replace ho4 := Lib.hid ho4; replace hg4 := Lib.hid hg4; replace E4 := Lib.hid E4)
      exact ⟨⟨k + 1, (k + 1) * 4, A4, c4, by omega, by go_num, rfl, rfl, ho4.out, E4.out⟩, by simp [intOf]; omega⟩
    · have hkk : k = h.length := by omega
      rw [List.take_of_length_le (by omega)] at ho
      have hgl := grow_len t h
      have CC := Lib.hid (fun W' (hh : Ext wr W') => Corners_c _ (growP t h) W' (ho.ext hh).pts HW.out (by omega))
      have HE := Lib.hid hE
      have zE := hE.sz
      clear ho hE hgl hN hkk
      go_wp2_with (go_at_call 34; refine (CC.out _ (by (repeat' (first | exact Ext.refl _ | assumption | refine Ext.alloc ?_ _ | refine Ext.drew ?_ | refine Ext.drewN ?_ _ | refine Ext.set ?_ (by first | exact Nat.le_refl _ | exact le1 _ | exact le2 _ | exact le3 _ | exact le4 _ | exact le5 _ | exact le6 _) _ | refine Ext.trans ?_ (by assumption))))).mono ?_; rintro e w2 ⟨v2, rfl, ho2, hE2⟩; replace ho2 := Lib.hid (ho2.down (base' := w.heap.size) zE); replace hE2 := Lib.hid hE2)
      go_ret
      exact ⟨_, rfl, ho2.out, HE.out.trans hE2.out⟩
end Go.Proofs.YtcbjecpfijogcaaGreat
