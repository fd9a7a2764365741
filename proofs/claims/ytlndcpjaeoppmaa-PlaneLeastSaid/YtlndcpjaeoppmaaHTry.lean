
/- Contract: try, the first of some directions in which two hulls are parted. -/
import Derived.Test.YtlndcpjaeoppmaaHSpan
namespace Go.Proofs.Ytlndcpjaeoppmaa
open Go.RowKit Go.Shelf

/-- whether two lists are parted in a direction -/
def sepB (a b : List HPt) (d : HPt) : Bool := decide (hiP d a < loP d b)
def lnV (x y k : Int) : Value := .agg #[.int .i64 x, .int .i64 y, .int .i64 k]
def tryV (a : List HPt) : Option HPt → Value
  | some d => .tuple #[lnV d.1 d.2 (hiP d a), .bool true]
  | none => .tuple #[lnV 0 0 0, .bool false]
/-- the cells of a list of directions -/
def DirCells (w : World) (b off : Nat) (ds : List HPt) : Prop := ∀ (i : Nat) (d : HPt), ds[i]? = some d → w.cell? ⟨b, off + i * 3, none⟩ = some (.int .i64 d.1) ∧ w.cell? ⟨b, off + i * 3 + 1, none⟩ = some (.int .i64 d.2) ∧ w.cell? ⟨b, off + i * 3 + 2, none⟩ = some (.int .i64 0)
theorem DirCells.ext {w w' : World} {b off : Nat} {ds : List HPt} (h : DirCells w b off ds) (he : Ext w w') : DirCells w' b off ds := fun i d hi => ⟨he.cell (h i d hi).1, he.cell (h i d hi).2.1, he.cell (h i d hi).2.2⟩
theorem find_take_succ {α : Type} {p : α → Bool} {l : List α} {k : Nat} {x : α} (hx : l[k]? = some x) (h0 : (l.take k).find? p = none) (h : p x = false) : (l.take (k + 1)).find? p = none := by
  rw [List.take_add_one, hx, List.find?_append, h0]
  simp [h]
theorem find_here {α : Type} {p : α → Bool} {l : List α} {k : Nat} {x : α} (hx : l[k]? = some x) (h0 : (l.take k).find? p = none) (h : p x = true) : l.find? p = some x := by
  have hk := (List.getElem?_eq_some_iff.1 hx).1
  have hx2 := (List.getElem?_eq_some_iff.1 hx).2
  have e : l = l.take k ++ x :: l.drop (k + 1) := by rw [← hx2, List.getElem_cons_drop, List.take_append_drop]
  rw [e, List.find?_append, h0]
  simp [h]
theorem dir_sized {ds : List HPt} {i : Nat} {d : HPt} (h : ds[i]? = some d) : i < ds.length := (List.getElem?_eq_some_iff.1 h).1
theorem blk_frzH {W : World} {b : Nat} {cs : Array Value} {t : TypeId} (h : W.heap[b]? = some (.cells cs t (0, 0))) (i : Nat) : W.frozen? ⟨b, i, none⟩ = false := by
  unfold World.frozen?
  simp [h]
set_option maxRecDepth 100000 in
set_option maxHeartbeats 1600000 in
theorem try_c (va vb : Value) (a b : List HPt) (bd cap : Nat) (ds : List HPt) (w : World) (ha : Pts w va a) (hb : Pts w vb b) (ha0 : 0 < a.length) (hb0 : 0 < b.length) (hwa : ∀ p ∈ a, wideB p) (hwb : ∀ p ∈ b, wideB p)
    (hd : DirCells w bd 0 ds) (hwd : ∀ d ∈ ds, wideD d) (hn : ds.length ≤ 1000) :
    Calls Try.prog 72 #[va, vb, .slice (some ⟨bd, 0, none⟩) ds.length cap] w fun e w' => e = .returned (tryV a (ds.find? (sepB a b))) ∧ Ext w w' := by
  have SA := Lib.hid (fun (d1 d2 : Int) W (h : Ext w W) (hd : wideD (d1, d2)) => span_c d1 d2 0 va a W (ha.ext h) ha0 hd hwa)
  have SB := Lib.hid (fun (d1 d2 : Int) W (h : Ext w W) (hd : wideD (d1, d2)) => span_c d1 d2 0 vb b W (hb.ext h) hb0 hd hwb)
  obtain ⟨A, ca, rfl, _⟩ := ha.shapeH
  obtain ⟨B, cb, rfl, _⟩ := hb.shapeH
  have HD := Lib.hid hd
  have HWD := Lib.hid hwd
  clear hd hwd ha hb hwa hwb
  go_enter Try.func72, Try.ntmps72
  go_wp2
  have hB := World.alloc_heap_new w (.cells #[.int .i64 0, .int .i64 0, .int .i64 0] 43)
  have eW : Ext w (w.alloc (.cells #[.int .i64 0, .int .i64 0, .int .i64 0] 43)) := (Ext.refl w).alloc _
  generalize (w.alloc (.cells #[.int .i64 0, .int .i64 0, .int .i64 0] 43)) = W at *
  have HBk := Lib.hid hB
  have HEW := Lib.hid eW
  clear hB eW
  go_loopw [16] (fun i wr => ∃ k : Nat, k ≤ ds.length ∧ i = .int .i64 k ∧ (ds.take k).find? (sepB a b) = none ∧ Ext W wr) (fun i _ => ds.length - (intOf i).toNat)
  case atStart => exact ⟨0, by omega, rfl, by simp, Ext.refl _⟩
  case round =>
    obtain ⟨k, hk, rfl, hf, hE⟩ := hrel
    have HF := Lib.hid hf
    clear hf
    have hbl := (hE.block _ (Array.getElem?_eq_some_iff.1 HBk.out).1).trans HBk.out
    have r0 : wr.cell? ⟨w.heap.size, 0, none⟩ = some (.int .i64 0) := World.news_of_block hbl 0 _ rfl
    have r1 : wr.cell? ⟨w.heap.size, 1, none⟩ = some (.int .i64 0) := World.news_of_block hbl 1 _ rfl
    have r2 : wr.cell? ⟨w.heap.size, 2, none⟩ = some (.int .i64 0) := World.news_of_block hbl 2 _ rfl
    have fr0 := blk_frzH hbl 0
    have fr1 := blk_frzH hbl 1
    have fr2 := blk_frzH hbl 2
    have hEw := HEW.out.trans hE
    by_cases hlt : k < ds.length
    · have hd : ds[k]? = some ds[k] := List.getElem?_eq_getElem hlt
      have hw := HWD.out ds[k] (List.getElem_mem hlt)
      generalize ds[k] = d at *
      obtain ⟨d1, d2⟩ := d
      obtain ⟨k0, k1, k2⟩ := (HD.out.ext hEw) k _ hd
      simp only [Nat.zero_add] at k0 k1 k2
      have CA := Lib.hid (fun W' (h : Ext wr W') => SA.out d1 d2 W' (hEw.trans h) hw)
      have CB := Lib.hid (fun W' (h : Ext wr W') => SB.out d1 d2 W' (hEw.trans h) hw)
      have HDD := Lib.hid hd
      obtain ⟨hi, hhi⟩ : ∃ hi, hiP (d1, d2) a = hi := ⟨_, rfl⟩
      obtain ⟨lo, hlo⟩ : ∃ lo, loP (d1, d2) b = lo := ⟨_, rfl⟩
      have hsep : sepB a b (d1, d2) = decide (hi < lo) := by unfold sepB; rw [hhi, hlo]
      rw [hhi] at CA
      rw [hlo] at CB
      have HS := Lib.hid (And.intro hsep hhi)
      clear hsep hhi hlo hd hw
      have hE2 := Lib.hid hE
      have hbl2 := Lib.hid hbl
      clear hE hbl
      have lr := World.block_lt_of_cell? _ _ r0
      simp only at lr
      have lk := World.block_lt_of_cell? _ _ k0
      simp only at lk
      by_cases hc : hi < lo
      · go_wp2_with (first
          | (go_at_call 52; refine (CA.out _ (by (repeat' (first | exact Ext.refl _ | assumption | refine Ext.alloc ?_ _ | refine Ext.drew ?_ | refine Ext.drewN ?_ _ | refine Ext.set ?_ (by first | exact Nat.le_refl _ | exact le1 _ | exact le2 _ | exact le3 _ | exact le4 _ | exact le5 _ | exact le6 _) _ | refine Ext.trans ?_ (by assumption))))).mono ?_; rintro e w1 ⟨rfl, hb1⟩; clear CA; have bba := (hb1.block wr.heap.size (by rw [size_alloc]; exact Nat.lt_succ_self _)).trans (World.alloc_heap_new wr _); have rba := (hb1.block w.heap.size (by rw [size_alloc]; exact Nat.lt_succ_of_lt lr)).trans ((Below.heap_alloc wr _ w.heap.size lr).trans hbl2.out); have y0a : w1.cell? ⟨wr.heap.size, 0, none⟩ = some (.int .i64 d1) := World.news_of_block bba 0 _ rfl; have fy0a := blk_frzH bba 0; have y1a : w1.cell? ⟨wr.heap.size, 1, none⟩ = some (.int .i64 d2) := World.news_of_block bba 1 _ rfl; have fy1a := blk_frzH bba 1; have y2a : w1.cell? ⟨wr.heap.size, 2, none⟩ = some (.int .i64 0) := World.news_of_block bba 2 _ rfl; have fy2a := blk_frzH bba 2; have lya := (Array.getElem?_eq_some_iff.1 bba).1; have r0a : w1.cell? ⟨w.heap.size, 0, none⟩ = some (.int .i64 0) := World.news_of_block rba 0 _ rfl; have fr0a := blk_frzH rba 0; have r1a : w1.cell? ⟨w.heap.size, 1, none⟩ = some (.int .i64 0) := World.news_of_block rba 1 _ rfl; have fr1a := blk_frzH rba 1; have r2a : w1.cell? ⟨w.heap.size, 2, none⟩ = some (.int .i64 0) := World.news_of_block rba 2 _ rfl; have fr2a := blk_frzH rba 2; have lra := (Array.getElem?_eq_some_iff.1 rba).1; replace bba := Lib.hid bba; replace rba := Lib.hid rba)
          | (go_at_call 52; refine (CB.out _ (by (repeat' (first | exact Ext.refl _ | assumption | refine Ext.alloc ?_ _ | refine Ext.drew ?_ | refine Ext.drewN ?_ _ | refine Ext.set ?_ (by first | exact Nat.le_refl _ | exact le1 _ | exact le2 _ | exact le3 _ | exact le4 _ | exact le5 _ | exact le6 _) _ | refine Ext.trans ?_ (by assumption))))).mono ?_; rintro e w2 ⟨rfl, hb2⟩; clear CB; have bbb := (hb2.block wr.heap.size lya).trans bba.out; have rbb := (hb2.block w.heap.size lra).trans rba.out; have y0b : w2.cell? ⟨wr.heap.size, 0, none⟩ = some (.int .i64 d1) := World.news_of_block bbb 0 _ rfl; have fy0b := blk_frzH bbb 0; have y1b : w2.cell? ⟨wr.heap.size, 1, none⟩ = some (.int .i64 d2) := World.news_of_block bbb 1 _ rfl; have fy1b := blk_frzH bbb 1; have y2b : w2.cell? ⟨wr.heap.size, 2, none⟩ = some (.int .i64 0) := World.news_of_block bbb 2 _ rfl; have fy2b := blk_frzH bbb 2; have lyb := (Array.getElem?_eq_some_iff.1 bbb).1; have r0b : w2.cell? ⟨w.heap.size, 0, none⟩ = some (.int .i64 0) := World.news_of_block rbb 0 _ rfl; have fr0b := blk_frzH rbb 0; have r1b : w2.cell? ⟨w.heap.size, 1, none⟩ = some (.int .i64 0) := World.news_of_block rbb 1 _ rfl; have fr1b := blk_frzH rbb 1; have r2b : w2.cell? ⟨w.heap.size, 2, none⟩ = some (.int .i64 0) := World.news_of_block rbb 2 _ rfl; have fr2b := blk_frzH rbb 2; have lrb := (Array.getElem?_eq_some_iff.1 rbb).1; replace bbb := Lib.hid bbb; replace rbb := Lib.hid rbb))
        have q0 : ((((w2.setCell ⟨wr.heap.size, 2, none⟩ (.int .i64 hi)).setCell ⟨w.heap.size, 0, none⟩ (.int .i64 d1)).setCell ⟨w.heap.size, 1, none⟩ (.int .i64 d2)).setCell ⟨w.heap.size, 2, none⟩ (.int .i64 hi)).cell? ⟨w.heap.size, 0, none⟩ = some (.int .i64 d1) := by go_simp
        have q1 : ((((w2.setCell ⟨wr.heap.size, 2, none⟩ (.int .i64 hi)).setCell ⟨w.heap.size, 0, none⟩ (.int .i64 d1)).setCell ⟨w.heap.size, 1, none⟩ (.int .i64 d2)).setCell ⟨w.heap.size, 2, none⟩ (.int .i64 hi)).cell? ⟨w.heap.size, 1, none⟩ = some (.int .i64 d2) := by go_simp
        have q2 : ((((w2.setCell ⟨wr.heap.size, 2, none⟩ (.int .i64 hi)).setCell ⟨w.heap.size, 0, none⟩ (.int .i64 d1)).setCell ⟨w.heap.size, 1, none⟩ (.int .i64 d2)).setCell ⟨w.heap.size, 2, none⟩ (.int .i64 hi)).cell? ⟨w.heap.size, 2, none⟩ = some (.int .i64 hi) := by go_simp
        have EF : Ext w ((((w2.setCell ⟨wr.heap.size, 2, none⟩ (.int .i64 hi)).setCell ⟨w.heap.size, 0, none⟩ (.int .i64 d1)).setCell ⟨w.heap.size, 1, none⟩ (.int .i64 d2)).setCell ⟨w.heap.size, 2, none⟩ (.int .i64 hi)) := ((((hEw.trans (((Ext.refl wr).alloc _).trans (hb1.trans hb2))).set (Nat.le_of_lt lr) _).set (Nat.le_refl _) _).set (Nat.le_refl _) _).set (Nat.le_refl _) _
        generalize ((((w2.setCell ⟨wr.heap.size, 2, none⟩ (.int .i64 hi)).setCell ⟨w.heap.size, 0, none⟩ (.int .i64 d1)).setCell ⟨w.heap.size, 1, none⟩ (.int .i64 d2)).setCell ⟨w.heap.size, 2, none⟩ (.int .i64 hi)) = WF at *
        refine bodyPost_ret (v := .tuple #[lnV d1 d2 hi, .bool true]) (by simp [results, Try.results72, go_sem, q0, q1, q2, lnV]) rfl ⟨?_, EF⟩
        rw [find_here HDD.out HF.out (by rw [HS.out.1]; exact decide_eq_true hc)]
        unfold tryV
        simp only [HS.out.2]
      · go_wp2_with (first
          | (go_at_call 52; refine (CA.out _ (by (repeat' (first | exact Ext.refl _ | assumption | refine Ext.alloc ?_ _ | refine Ext.drew ?_ | refine Ext.drewN ?_ _ | refine Ext.set ?_ (by first | exact Nat.le_refl _ | exact le1 _ | exact le2 _ | exact le3 _ | exact le4 _ | exact le5 _ | exact le6 _) _ | refine Ext.trans ?_ (by assumption))))).mono ?_; rintro e w1 ⟨rfl, hb1⟩; clear CA; have bba := (hb1.block wr.heap.size (by rw [size_alloc]; exact Nat.lt_succ_self _)).trans (World.alloc_heap_new wr _); have rba := (hb1.block w.heap.size (by rw [size_alloc]; exact Nat.lt_succ_of_lt lr)).trans ((Below.heap_alloc wr _ w.heap.size lr).trans hbl2.out); have y0a : w1.cell? ⟨wr.heap.size, 0, none⟩ = some (.int .i64 d1) := World.news_of_block bba 0 _ rfl; have fy0a := blk_frzH bba 0; have y1a : w1.cell? ⟨wr.heap.size, 1, none⟩ = some (.int .i64 d2) := World.news_of_block bba 1 _ rfl; have fy1a := blk_frzH bba 1; have y2a : w1.cell? ⟨wr.heap.size, 2, none⟩ = some (.int .i64 0) := World.news_of_block bba 2 _ rfl; have fy2a := blk_frzH bba 2; have lya := (Array.getElem?_eq_some_iff.1 bba).1; have r0a : w1.cell? ⟨w.heap.size, 0, none⟩ = some (.int .i64 0) := World.news_of_block rba 0 _ rfl; have fr0a := blk_frzH rba 0; have r1a : w1.cell? ⟨w.heap.size, 1, none⟩ = some (.int .i64 0) := World.news_of_block rba 1 _ rfl; have fr1a := blk_frzH rba 1; have r2a : w1.cell? ⟨w.heap.size, 2, none⟩ = some (.int .i64 0) := World.news_of_block rba 2 _ rfl; have fr2a := blk_frzH rba 2; have lra := (Array.getElem?_eq_some_iff.1 rba).1; replace bba := Lib.hid bba; replace rba := Lib.hid rba)
          | (go_at_call 52; refine (CB.out _ (by (repeat' (first | exact Ext.refl _ | assumption | refine Ext.alloc ?_ _ | refine Ext.drew ?_ | refine Ext.drewN ?_ _ | refine Ext.set ?_ (by first | exact Nat.le_refl _ | exact le1 _ | exact le2 _ | exact le3 _ | exact le4 _ | exact le5 _ | exact le6 _) _ | refine Ext.trans ?_ (by assumption))))).mono ?_; rintro e w2 ⟨rfl, hb2⟩; clear CB; have bbb := (hb2.block wr.heap.size lya).trans bba.out; have rbb := (hb2.block w.heap.size lra).trans rba.out; have y0b : w2.cell? ⟨wr.heap.size, 0, none⟩ = some (.int .i64 d1) := World.news_of_block bbb 0 _ rfl; have fy0b := blk_frzH bbb 0; have y1b : w2.cell? ⟨wr.heap.size, 1, none⟩ = some (.int .i64 d2) := World.news_of_block bbb 1 _ rfl; have fy1b := blk_frzH bbb 1; have y2b : w2.cell? ⟨wr.heap.size, 2, none⟩ = some (.int .i64 0) := World.news_of_block bbb 2 _ rfl; have fy2b := blk_frzH bbb 2; have lyb := (Array.getElem?_eq_some_iff.1 bbb).1; have r0b : w2.cell? ⟨w.heap.size, 0, none⟩ = some (.int .i64 0) := World.news_of_block rbb 0 _ rfl; have fr0b := blk_frzH rbb 0; have r1b : w2.cell? ⟨w.heap.size, 1, none⟩ = some (.int .i64 0) := World.news_of_block rbb 1 _ rfl; have fr1b := blk_frzH rbb 1; have r2b : w2.cell? ⟨w.heap.size, 2, none⟩ = some (.int .i64 0) := World.news_of_block rbb 2 _ rfl; have fr2b := blk_frzH rbb 2; have lrb := (Array.getElem?_eq_some_iff.1 rbb).1; replace bbb := Lib.hid bbb; replace rbb := Lib.hid rbb))
        refine ⟨⟨k + 1, by omega, by go_num, find_take_succ HDD.out HF.out (by rw [HS.out.1]; exact decide_eq_false (by omega)), hE2.out.trans (((Ext.refl wr).alloc _).trans (hb1.trans hb2))⟩, by simp [intOf]; omega⟩
    · go_wp2
      have q0 : (((wr.setCell ⟨w.heap.size, 0, none⟩ (.int .i64 0)).setCell ⟨w.heap.size, 1, none⟩ (.int .i64 0)).setCell ⟨w.heap.size, 2, none⟩ (.int .i64 0)).cell? ⟨w.heap.size, 0, none⟩ = some (.int .i64 0) := by go_simp
      have q1 : (((wr.setCell ⟨w.heap.size, 0, none⟩ (.int .i64 0)).setCell ⟨w.heap.size, 1, none⟩ (.int .i64 0)).setCell ⟨w.heap.size, 2, none⟩ (.int .i64 0)).cell? ⟨w.heap.size, 1, none⟩ = some (.int .i64 0) := by go_simp
      have q2 : (((wr.setCell ⟨w.heap.size, 0, none⟩ (.int .i64 0)).setCell ⟨w.heap.size, 1, none⟩ (.int .i64 0)).setCell ⟨w.heap.size, 2, none⟩ (.int .i64 0)).cell? ⟨w.heap.size, 2, none⟩ = some (.int .i64 0) := by go_simp
      have EF : Ext w (((wr.setCell ⟨w.heap.size, 0, none⟩ (.int .i64 0)).setCell ⟨w.heap.size, 1, none⟩ (.int .i64 0)).setCell ⟨w.heap.size, 2, none⟩ (.int .i64 0)) := ((hEw.set (Nat.le_refl _) _).set (Nat.le_refl _) _).set (Nat.le_refl _) _
      generalize (((wr.setCell ⟨w.heap.size, 0, none⟩ (.int .i64 0)).setCell ⟨w.heap.size, 1, none⟩ (.int .i64 0)).setCell ⟨w.heap.size, 2, none⟩ (.int .i64 0)) = WF at *
      refine bodyPost_ret (v := .tuple #[lnV 0 0 0, .bool false]) (by simp [results, Try.results72, go_sem, q0, q1, q2, lnV]) rfl ⟨?_, EF⟩
      have h := HF.out
      rw [List.take_of_length_le (by omega)] at h
      rw [h]
      rfl
end Go.Proofs.Ytlndcpjaeoppmaa
