
/- slices.Compact at points: its two loops, walked. -/
import Derived.Test.YtkkeblgahbpmmaaHull2
import Derived.Lib.SlicesCompact
import Derived.Laws.StructEq
import Derived.Shelf.SlicesE.Kit
import Derived.Shelf.SlicesQ.Load
import Derived.Deep.LoopGhost
import Derived.Deep.Draws
import Derived.Sort.WalkB12
import Derived.Shelf.RegionOpenPlain
namespace Go.Proofs.Ytkkeblgahbpmmaa
open Go.RowKit Go.Shelf Go.Lib Go.Sort

theorem set_flatP (dk : Array HPt) (i : Nat) (hi : i < dk.size) (x : HPt) : setMany (flatK encP 2 dk) (i * 2) (encP x) = flatK encP 2 (dk.setIfInBounds i x) := by
  apply Array.ext
  · simp
  · intro t h1 h2
    have h3 : t < (flatK encP 2 dk).size := by simpa using h1
    have h4 : t < dk.size * 2 := by simpa using h3
    rw [← getElem!_pos _ t h1, ← getElem!_pos _ t h2, get_setMany _ _ _ t h3, get_flatK _ _ _ _ h4, get_flatK _ _ _ _ (by simpa using h4), encP_len]
    by_cases e : t / 2 = i
    · rw [if_pos (by omega), e, getElem!_set_same _ _ _ hi, show t - i * 2 = t % 2 by omega]
    · rw [if_neg (by omega), getElem!_set_other _ _ _ _ e]
theorem store_world_p {w wr : World} {n blk off : Nat} {dk : Array HPt} {i : Nat} (hi : i < dk.size) (hwr : wr = putRowK encP 2 (Sort.ahead w n) blk off dk) (x y : Int) :
    ((wr.setCell ⟨blk, off + i * 2, none⟩ (.int .i64 x)).setCell ⟨blk, off + i * 2 + 1, none⟩ (.int .i64 y)).drew = putRowK encP 2 (Sort.ahead w (n + 1)) blk off (dk.setIfInBounds i (x, y)) := by
  subst hwr
  have h := setCells_putRow (Sort.ahead w n) blk off (encP (x, y)) (i * 2) (flatK encP 2 dk) (by rw [encP_len, size_flatK]; omega)
  rw [set_flatP dk i hi] at h
  unfold putRowK
  have h2 : ((putRow id (Sort.ahead w n) blk off (flatK encP 2 dk)).setCell ⟨blk, off + i * 2, none⟩ (.int .i64 x)).setCell ⟨blk, off + i * 2 + 1, none⟩ (.int .i64 y) = putRow id (Sort.ahead w n) blk off (flatK encP 2 (dk.setIfInBounds i (x, y))) := h
  rw [h2, ← ahead_drew]
  rfl
def zeroP (n : Nat) : List Value := (Builtin.zeroCells (Value.agg #[.int .i64 0, .int .i64 0]).cells n).toList
theorem zeroP_len (n : Nat) : (zeroP n).length = n * 2 := by simp [zeroP, Builtin.zeroCells, Value.cells]
theorem run_clear_points (w : World) (ty : TypeId) (b o n c : Nat) (hn : 0 < n)
    (hc : ∀ j, j < n * 2 → (w.cell? ⟨b, o + j, none⟩).isSome = true) (hf : ∀ j, j < n * 2 → w.frozen? ⟨b, o + j, none⟩ = false) :
    (Builtin.clear_ #[48] ty #[.slice (some ⟨b, o, none⟩) n c]).run Try.prog w = .ok (.tuple #[]) (w.setCells b o (zeroP n)) := by
  unfold zeroP
  have hl : (Builtin.zeroCells (Value.agg #[.int .i64 0, .int .i64 0]).cells n).toList.length = n * 2 := by simp [Builtin.zeroCells, Value.cells]
  have h1 : ∀ v ∈ (Builtin.zeroCells (Value.agg #[.int .i64 0, .int .i64 0]).cells n).toList, v.oneCell' = true := by
    intro v hv
    simp only [Builtin.zeroCells, Value.cells, Array.toList_map, List.mem_map] at hv
    obtain ⟨i, _, rfl⟩ := hv
    have : i % 2 = 0 ∨ i % 2 = 1 := by omega
    rcases this with h | h <;> simp [h, Value.oneCell']
  have hst := run_storeCells_cells (P := Try.prog) b o (Builtin.zeroCells (Value.agg #[.int .i64 0, .int .i64 0]).cells n).toList 0 w (by rw [hl]; simpa using hc) (by rw [hl]; simpa using hf) h1
  simp only [Nat.add_zero] at hst
  obtain ⟨m, rfl⟩ : ∃ m, n = m + 1 := ⟨n - 1, by omega⟩
  simp [Builtin.clear_, run_underlying Try.underlying48, Try.zeroValue52, hst]

def CEnd (w w' : World) (blk off : Nat) (d : Array HPt) : Prop :=
  ∃ (q : Nat) (F : Array Value), F.size = d.size * 2 ∧ w' = putRow id (Sort.ahead w q) blk off F ∧ HoldsK encP 2 w' blk off (compactUpTo d d.size).toArray

theorem eqlP_c (x1 x2 y1 y2 : Int) (w : World) : (binOp .eql 52 (.agg #[.int .i64 x1, .int .i64 x2]) (.agg #[.int .i64 y1, .int .i64 y2])).run Try.prog w = .ok (.bool (decide (((x1, x2) : HPt) = (y1, y2)))) w := by
  have u2 := Try.underlying2
  have a2 := Try.isAgg2
  have z2 := Try.sizeOf2
  have hS : Try.prog.underlying 52 = some (.struct (Try.prog.fieldsOf 52)) := by kernel_rfl
  have hp : Try.prog.stoodInHeld 52 = false := by kernel_rfl
  rw [run_eql_struct, show (10000 : Nat) = 9999 + 1 from rfl, run_equalIn_agg w 9999 52 _ _ hS hp]
  simp only [Program.fieldsOf, Try.underlying52]
  go_simp
  by_cases h1 : x1 = y1 <;> by_cases h2 : x2 = y2 <;> simp [h1, h2]
theorem neqP_c (x1 x2 y1 y2 : Int) (w : World) : (binOp .neq 52 (.agg #[.int .i64 x1, .int .i64 x2]) (.agg #[.int .i64 y1, .int .i64 y2])).run Try.prog w = .ok (.bool (!decide (((x1, x2) : HPt) = (y1, y2)))) w := by
  have u2 := Try.underlying2
  have a2 := Try.isAgg2
  have z2 := Try.sizeOf2
  have hS : Try.prog.underlying 52 = some (.struct (Try.prog.fieldsOf 52)) := by kernel_rfl
  have hp : Try.prog.stoodInHeld 52 = false := by kernel_rfl
  rw [run_neq_struct, show (10000 : Nat) = 9999 + 1 from rfl, run_equalIn_agg w 9999 52 _ _ hS hp]
  simp only [Program.fieldsOf, Try.underlying52]
  go_simp
  by_cases h1 : x1 = y1 <;> by_cases h2 : x2 = y2 <;> simp [h1, h2]

theorem cellsP {w : World} {blk off : Nat} {d : Array HPt} (h : HoldsK encP 2 w blk off d) {i : Nat} (hi : i < d.size) :
    (w.cell? ⟨blk, off + i * 2, none⟩ = some (.int .i64 (d[i]!).1) ∧ w.frozen? ⟨blk, off + i * 2, none⟩ = false) ∧ w.cell? ⟨blk, off + i * 2 + 1, none⟩ = some (.int .i64 (d[i]!).2) ∧ w.frozen? ⟨blk, off + i * 2 + 1, none⟩ = false :=
  ⟨HoldsK.cell h hi (c := 0) (by omega), HoldsK.cell h hi (c := 1) (by omega)⟩

theorem comp_end {w wr : World} {blk off cap q2 k kk : Nat} {d dk : Array HPt} (W2 : wr = putRowK encP 2 (Sort.ahead w q2) blk off dk) (HH : HoldsK encP 2 w blk off d) (I2 : CompInv d k kk dk) (hend : k = d.size) (hlt : kk < d.size) :
    Ending.returned (.slice (some ⟨blk, off, none⟩) kk cap) = .returned (.slice (some ⟨blk, off, none⟩) (compactUpTo d d.size).length cap) ∧ CEnd w (wr.setCells blk (off + kk * 2) (zeroP (d.size - kk))) blk off d := by
  subst hend
  have hlen := I2.len
  have hds := I2.size
  refine ⟨by rw [hlen], q2, setMany (flatK encP 2 dk) (kk * 2) (zeroP (d.size - kk)), by rw [size_setMany, size_flatK, hds], ?_, ?_⟩
  · rw [W2]
    exact setCells_putRow (Sort.ahead w q2) blk off (zeroP (d.size - kk)) (kk * 2) (flatK encP 2 dk) (by rw [zeroP_len, size_flatK]; omega)
  · have e : wr.setCells blk (off + kk * 2) (zeroP (d.size - kk)) = putRow id (Sort.ahead w q2) blk off (setMany (flatK encP 2 dk) (kk * 2) (zeroP (d.size - kk))) := by
      rw [W2]
      exact setCells_putRow (Sort.ahead w q2) blk off (zeroP (d.size - kk)) (kk * 2) (flatK encP 2 dk) (by rw [zeroP_len, size_flatK]; omega)
    rw [e]
    have hh := holds_putRow id (Sort.ahead w q2) blk off (flatK encP 2 d) (setMany (flatK encP 2 dk) (kk * 2) (zeroP (d.size - kk))) HH (by simp [hds])
    intro t ht
    rw [size_flatK, List.size_toArray, hlen] at ht
    have h1 := hh t (by rw [size_setMany, size_flatK]; omega)
    rw [get_setMany _ _ _ _ (by rw [size_flatK]; omega), if_neg (by omega), get_flatK _ _ _ _ (by omega)] at h1
    rw [get_flatK _ _ _ _ (by rw [List.size_toArray, hlen]; exact ht)]
    have h2 := I2.low (t / 2) (by omega)
    have h3 : (compactUpTo d d.size).toArray[t / 2]! = dk[t / 2]! := by
      rw [getElem!_def, List.getElem?_toArray, h2]
    rw [h3]
    exact h1

set_option maxHeartbeats 4000000 in
set_option maxRecDepth 1000000 in
theorem compact_c (blk off cap : Nat) (d : Array HPt) (w : World) (hH : HoldsK encP 2 w blk off d) (hsz : d.size ≤ 4611686018427387903) (hcap : d.size ≤ cap) :
    Calls Try.prog 87 #[.slice (some ⟨blk, off, none⟩) d.size cap] w fun e w' => e = .returned (.slice (some ⟨blk, off, none⟩) (compactUpTo d d.size).length cap) ∧ CEnd w w' blk off d := by
  have same : ∀ q, (∀ j, j < d.size → keeps d j = true) → (compactUpTo d d.size).length = d.size ∧ CEnd w (w.drewN q) blk off d := by
    intro q hall
    have e : compactUpTo d d.size = d.toList := by rw [compactUpTo_all d _ hall, range_map_get]
    refine ⟨by rw [e]; simp, q, flatK encP 2 d, by simp, ?_, ?_⟩
    · exact (putRowK_self encP 2 (Sort.ahead w q) blk off d hH).symm
    · rw [e]; exact hH
  have HS : Aside (∀ q, (∀ j, j < d.size → keeps d j = true) → (compactUpTo d d.size).length = d.size ∧ CEnd w (w.drewN q) blk off d) := same
  clear same
  have mixed : Try.prog.follows .mixedOrders = true := by kernel_rfl
  have heq' := eqlP_c
  have hne' := neqP_c
  by_cases h2 : d.size < 2
  · have HH : Aside (HoldsK encP 2 w blk off d) := hH
    clear hH
    go_enter Try.func87, Try.ntmps87
    go_wp2
    go_ret
    obtain ⟨e1, e2⟩ := HS.out 0 (fun j hj => keeps_lt_one d j (by omega))
    exact ⟨by rw [e1]; rfl, e2⟩
  · go_enter Try.func87, Try.ntmps87
    go_wp2
    go_loopg [3] d.size (fun g s3 wr => ∃ k q : Nat, 1 ≤ k ∧ k ≤ d.size ∧ d.size - k ≤ g ∧ s3 = .int .i64 k ∧ wr = w.drewN q ∧ ∀ j, j < k → keeps d j = true)
    case atStart => exact ⟨1, 0, Nat.le_refl _, by omega, by omega, rfl, rfl, keeps_lt_one d⟩
    case round =>
      obtain ⟨k, q, hk1, hk, hg, rfl, rfl, hall⟩ := hrel
      by_cases hlt : k < d.size
      · obtain ⟨⟨c1, f1⟩, c1', f1'⟩ := cellsP hH hlt
        obtain ⟨⟨c0, f0⟩, c0', f0'⟩ := cellsP (i := k - 1) hH (by omega)
        have A : Aside (∀ j, j < k → keeps d j = true) := hall
        have HH : Aside (HoldsK encP 2 w blk off d) := hH
        clear hall hH f1 f1' f0 f0'
        generalize hx : d[k]! = x at c1 c1'
        generalize hy : d[k - 1]! = y at c0 c0'
        obtain ⟨x1, x2⟩ := x
        obtain ⟨y1, y2⟩ := y
        simp only at c1 c1' c0 c0'
        have B : Aside (d[k]! = (x1, x2) ∧ d[k - 1]! = (y1, y2)) := ⟨hx, hy⟩
        clear hx hy
        by_cases hdup : ((x1, x2) : HPt) = (y1, y2)
        · obtain ⟨rfl, rfl⟩ := Prod.mk.inj hdup
          clear hdup
          go_wp2_with fail
          go_region_o
          go_wp2
          clear c0 c1 c0' c1'
          go_loopg [3, 5] d.size (fun g s3 s5 wr => ∃ (kk k2 q2 : Nat) (dk : Array HPt), s3 = .int .i64 kk ∧ s5 = .int .i64 k2 ∧ 1 ≤ k2 ∧ k + k2 ≤ d.size ∧ d.size - (k + k2) ≤ g ∧ wr = putRowK encP 2 (Sort.ahead w q2) blk off dk ∧ CompInv d (k + k2) kk dk)
          case atStart => exact ⟨k, 1, q + 1, d, rfl, rfl, Nat.le_refl _, by omega, by omega, (putRowK_self encP 2 (Sort.ahead w (q + 1)) blk off d (holdsK_ahead encP 2 w (q + 1) blk off d HH.out)).symm, CompInv.start A.out (keeps_neg (by omega) (by rw [B.out.1, B.out.2]))⟩
          case round =>
            obtain ⟨kk, k2, q2, dk, rfl, rfl, h1, hle, hg2, hwr, hI⟩ := hrel
            have hkk := hI.lt
            have hds := hI.size
            have hHk : HoldsK encP 2 wr blk off dk := by rw [hwr]; exact holdsK_putRowK encP 2 _ blk off d dk (holdsK_ahead encP 2 w q2 blk off d HH.out) hds
            have W2 : Aside (wr = putRowK encP 2 (Sort.ahead w q2) blk off dk) := hwr
            have I2 : Aside (CompInv d (k + k2) kk dk) := hI
            clear hwr
            by_cases hlt2 : k + k2 < d.size
            · obtain ⟨⟨cm, _⟩, cm', _⟩ := cellsP (i := k + k2) hHk (by omega)
              obtain ⟨⟨cp, _⟩, cp', _⟩ := cellsP (i := k + k2 - 1) hHk (by omega)
              obtain ⟨⟨ck, fk⟩, ck', fk'⟩ := cellsP (i := kk) hHk (by omega)
              rw [hI.high (k + k2) (by omega), show off + (k + k2) * 2 = off + k * 2 + k2 * 2 by omega] at cm cm'
              rw [hI.high (k + k2 - 1) (by omega), show off + (k + k2 - 1) * 2 = off + k * 2 + (k2 - 1) * 2 by omega] at cp cp'
              clear hHk hI
              generalize hu : d[k + k2]! = u at cm cm'
              generalize hv : d[k + k2 - 1]! = v at cp cp'
              generalize dk[kk]! = old at ck ck'
              obtain ⟨u1, u2⟩ := u
              obtain ⟨v1, v2⟩ := v
              simp only at cm cm' cp cp'
              have C : Aside (d[k + k2]! = (u1, u2) ∧ d[k + k2 - 1]! = (v1, v2)) := ⟨hu, hv⟩
              clear hu hv
              by_cases huv : ((u1, u2) : HPt) = (v1, v2)
              · obtain ⟨rfl, rfl⟩ := Prod.mk.inj huv
                clear huv
                go_wp2_with fail
                go_region_o
                go_wp2
                go_roundg (d.size - (k + (k2 + 1)))
                case measure => omega
                case rel => exact ⟨kk, k2 + 1, q2 + 1, dk, rfl, by go_num, by omega, by omega, Nat.le_refl _, by rw [W2.out]; rfl, I2.out.skip (keeps_neg (by omega) (by rw [C.out.1, C.out.2]))⟩
              · go_wp2_with fail
                go_region_o
                go_wp2
                go_roundg (d.size - (k + (k2 + 1)))
                case measure => omega
                case rel => exact ⟨kk + 1, k2 + 1, q2 + 1, dk.setIfInBounds kk (u1, u2), by go_num, by go_num, by omega, by omega, Nat.le_refl _, store_world_p (by omega) W2.out u1 u2, by have := I2.out.keep hlt2 (keeps_pos (by rw [C.out.1, C.out.2]; exact huv)); rwa [C.out.1] at this⟩
            · have hend : k + k2 = d.size := by omega
              have hcc : ∀ j, j < (d.size - kk) * 2 → wr.cell? ⟨blk, off + kk * 2 + j, none⟩ ≠ none ∧ wr.frozen? ⟨blk, off + kk * 2 + j, none⟩ = false := by
                intro j hj
                have := hHk (kk * 2 + j) (by rw [size_flatK]; omega)
                rw [show off + kk * 2 + j = off + (kk * 2 + j) by omega, this.1]
                exact ⟨by simp, this.2⟩
              have hcl := fun ty => run_clear_points wr ty blk (off + kk * 2) (d.size - kk) (cap - kk) (by omega) (fun j hj => by have := (hcc j hj).1; exact Option.isSome_iff_ne_none.2 this) (fun j hj => (hcc j hj).2)
              clear hHk hI hcc
              go_wp2
              go_ret
              exact comp_end W2.out HH.out I2.out hend (by omega)
        · go_wp2_with fail
          go_region_o
          go_wp2
          go_roundg (d.size - (k + 1))
          case measure => omega
          case rel =>
            refine ⟨k + 1, q + 1, by omega, by omega, Nat.le_refl _, by go_num, rfl, fun j hj => ?_⟩
            by_cases e : j = k
            · subst e
              exact keeps_pos (by rw [B.out.1, B.out.2]; exact hdup)
            · exact A.out j (by omega)
      · have : k = d.size := by omega
        subst this
        have HH : Aside (HoldsK encP 2 w blk off d) := hH
        clear hH
        go_wp2
        go_ret
        obtain ⟨e1, e2⟩ := HS.out q hall
        exact ⟨by rw [e1]; rfl, e2⟩
end Go.Proofs.Ytkkeblgahbpmmaa
