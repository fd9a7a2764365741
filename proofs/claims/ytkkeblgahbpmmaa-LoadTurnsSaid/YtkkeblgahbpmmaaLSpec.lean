
/- The data of loads, how they lie in memory, and what the chapter says of them, plainly. -/
import Derived.Test.YtkkeblgahbpmmaaCBase
namespace Go.Proofs.Ytkkeblgahbpmmaa
open Go.RowKit

structure LPiece where
  x : Int
  y : Int
  z : Int
  l : Int
  w : Int
  h : Int
  mass : Int
structure LEye where
  x : Int
  y : Int
  z : Int
  strength : Int
structure LLoad where
  name : ByteArray
  pieces : List LPiece
  eyes : List LEye
  friction : Int
def pieceCs (p : LPiece) : List Value := [.int .i64 p.x, .int .i64 p.y, .int .i64 p.z, .int .i64 p.l, .int .i64 p.w, .int .i64 p.h, .int .i64 p.mass]
def eyeCs (e : LEye) : List Value := [.int .i64 e.x, .int .i64 e.y, .int .i64 e.z, .int .i64 e.strength]
def RPiece (_ : World) (cs : List Value) (p : LPiece) : Prop := cs = pieceCs p
def REye (_ : World) (cs : List Value) (e : LEye) : Prop := cs = eyeCs e
theorem RPiece.stable : Stable RPiece := fun _ _ _ _ _ h => h
theorem REye.stable : Stable REye := fun _ _ _ _ _ h => h
def loadV (l : LLoad) (vp ve : Value) : Value := .agg #[.string l.name, vp, ve, .int .i64 l.friction]
/-- a load among a call's arguments -/
structure IsLoad (w : World) (l : LLoad) (vp ve : Value) : Prop where
  pieces : Sl 7 RPiece w vp l.pieces
  eyes : Sl 4 REye w ve l.eyes
theorem IsLoad.ext {w w' : World} {l : LLoad} {vp ve : Value} (h : IsLoad w l vp ve) (he : Ext w w') : IsLoad w' l vp ve := ⟨h.pieces.ext RPiece.stable he, h.eyes.ext REye.stable he⟩

/-! ### names -/
def alnumL (c : UInt8) : Bool := (decide (97 ≤ c.toNat) && decide (c.toNat ≤ 122)) || (decide (48 ≤ c.toNat) && decide (c.toNat ≤ 57))
def allL (s : ByteArray) : Bool := s.data.toList.all alnumL
def lnameB (s : ByteArray) : Bool := decide (1 ≤ s.size ∧ s.size ≤ 20) && allL s

/-! ### valid -/
def sideB (at_ size : Int) : Bool := decide (1 ≤ size) && decide (size ≤ 131072 - at_)
def pieceB (p : LPiece) : Bool := inB p.x (-131072) 131072 && (inB p.y (-131072) 131072 && (inB p.z 0 131072 && (sideB p.x p.l && (sideB p.y p.w && (sideB p.z p.h && inB p.mass 0 16777216)))))
def eyeB (e : LEye) : Bool := inB e.x (-131072) 131072 && (inB e.y (-131072) 131072 && (inB e.z 0 131072 && inB e.strength 0 4194304))
def massN (l : List LPiece) : Int := (l.map (·.mass)).sum
def momX (l : List LPiece) : Int := (l.map (fun p => p.mass * (2 * p.x + p.l))).sum
def momY (l : List LPiece) : Int := (l.map (fun p => p.mass * (2 * p.y + p.w))).sum
def momZ (l : List LPiece) : Int := (l.map (fun p => p.mass * (2 * p.z + p.h))).sum
def greatB (l : LLoad) : Bool := decide (40 < l.pieces.length) || (decide (40 < l.eyes.length) || decide (100 < l.name.size))
/-- the error of a load -/
def loadE (l : LLoad) : Int :=
  if l.pieces.length < 1 ∨ 32 < l.pieces.length ∨ 32 < l.eyes.length then 6
  else if lnameB l.name && (inB l.friction 0 1000 && (l.pieces.all pieceB && (l.eyes.all eyeB && inB (massN l.pieces) 1 16777216))) then 0 else 2
theorem piece_bds {p : LPiece} (h : pieceB p = true) : (-131072 ≤ p.x ∧ p.x ≤ 131072) ∧ (-131072 ≤ p.y ∧ p.y ≤ 131072) ∧ (0 ≤ p.z ∧ p.z ≤ 131072) ∧ (1 ≤ p.l ∧ p.x + p.l ≤ 131072) ∧ (1 ≤ p.w ∧ p.y + p.w ≤ 131072) ∧ (1 ≤ p.h ∧ p.z + p.h ≤ 131072) ∧ (0 ≤ p.mass ∧ p.mass ≤ 16777216) := by
  unfold pieceB sideB inB at h
  simp only [Bool.and_eq_true, decide_eq_true_eq] at h
  omega
/-- a sum of bounded numbers -/
theorem sum_bds {α : Type} {f : α → Int} {lo hi : Int} : ∀ (l : List α), (∀ x ∈ l, lo ≤ f x ∧ f x ≤ hi) → lo * l.length ≤ (l.map f).sum ∧ (l.map f).sum ≤ hi * l.length
  | [], _ => by simp
  | a :: l, h => by
    have h1 := sum_bds l (fun x hx => h x (List.mem_cons_of_mem _ hx))
    have h2 := h a (by simp)
    rw [List.map_cons, List.sum_cons, List.length_cons]
    have e1 : lo * ((l.length + 1 : Nat) : Int) = lo * l.length + lo := by rw [Int.natCast_add, Int.mul_add]; simp
    have e2 : hi * ((l.length + 1 : Nat) : Int) = hi * l.length + hi := by rw [Int.natCast_add, Int.mul_add]; simp
    omega
theorem sum_snoc {α : Type} (f : α → Int) {l : List α} {k : Nat} {x : α} (h : l[k]? = some x) : ((l.take (k + 1)).map f).sum = ((l.take k).map f).sum + f x := by
  rw [take_some h, List.map_append, List.sum_append]
  simp
/-! ### the plain law of LoadCentres -/
/-- the centre lies between the ends -/
theorem centre_in {l : List LPiece} {a b : LPiece → Int} {lo hi : Int} (h : ∀ p ∈ l, 0 ≤ p.mass ∧ lo ≤ a p ∧ 1 ≤ b p ∧ a p + b p ≤ hi) (hm : 1 ≤ massN l) :
    lo ≤ ((l.map (fun p => p.mass * (2 * a p + b p))).sum + massN l) / (2 * massN l) ∧ ((l.map (fun p => p.mass * (2 * a p + b p))).sum + massN l) / (2 * massN l) ≤ hi := by
  have key : ∀ (l : List LPiece), (∀ p ∈ l, 0 ≤ p.mass ∧ lo ≤ a p ∧ 1 ≤ b p ∧ a p + b p ≤ hi) → massN l * (2 * lo) ≤ (l.map (fun p => p.mass * (2 * a p + b p))).sum ∧ (l.map (fun p => p.mass * (2 * a p + b p))).sum ≤ massN l * (2 * hi - 1) := by
    intro l
    induction l with
    | nil => intro _; simp [massN]
    | cons p l ih =>
      intro hl
      have h1 := ih (fun q hq => hl q (List.mem_cons_of_mem _ hq))
      obtain ⟨p0, p1, p2, p3⟩ := hl p (by simp)
      have e : massN (p :: l) = p.mass + massN l := by simp [massN]
      rw [List.map_cons, List.sum_cons, e, Int.add_mul, Int.add_mul]
      have m1 := Int.mul_le_mul_of_nonneg_left (show 2 * lo ≤ 2 * a p + b p by omega) p0
      have m2 := Int.mul_le_mul_of_nonneg_left (show 2 * a p + b p ≤ 2 * hi - 1 by omega) p0
      omega
  obtain ⟨k1, k2⟩ := key l h
  generalize (l.map (fun p => p.mass * (2 * a p + b p))).sum = S at *
  generalize massN l = M at *
  constructor
  · refine (Int.le_ediv_iff_mul_le (by omega)).2 ?_
    have : lo * (2 * M) = M * (2 * lo) := by grind
    omega
  · refine Int.lt_add_one_iff.1 ((Int.ediv_lt_iff_lt_mul (by omega)).2 ?_)
    have e1 : (hi + 1) * (2 * M) = M * (2 * hi - 1) + 3 * M := by grind
    omega
def quarterP (p : LPiece) : LPiece := { p with x := -p.y - p.w, y := p.x, l := p.w, w := p.l }
def shiftP (d1 d2 d3 : Int) (p : LPiece) : LPiece := { p with x := p.x + d1, y := p.y + d2, z := p.z + d3 }
theorem turn_mom (l : List LPiece) : momX (l.map quarterP) = - momY l ∧ momY (l.map quarterP) = momX l ∧ momZ (l.map quarterP) = momZ l := by
  induction l with
  | nil => exact ⟨rfl, rfl, rfl⟩
  | cons p l ih =>
    unfold momX momY momZ quarterP at *
    simp only [List.map_cons, List.sum_cons] at *
    have e : p.mass * (2 * (-p.y - p.w) + p.w) = - (p.mass * (2 * p.y + p.w)) := by grind
    omega
theorem shift_mom (d1 d2 d3 : Int) (l : List LPiece) : momX (l.map (shiftP d1 d2 d3)) = momX l + 2 * massN l * d1 ∧ momY (l.map (shiftP d1 d2 d3)) = momY l + 2 * massN l * d2 ∧ momZ (l.map (shiftP d1 d2 d3)) = momZ l + 2 * massN l * d3 := by
  induction l with
  | nil => simp [momX, momY, momZ, massN]
  | cons p l ih =>
    unfold momX momY momZ massN shiftP at *
    simp only [List.map_cons, List.sum_cons] at *
    obtain ⟨h1, h2, h3⟩ := ih
    refine ⟨?_, ?_, ?_⟩
    · rw [h1]; grind
    · rw [h2]; grind
    · rw [h3]; grind
theorem join_mom (l m : List LPiece) : momX (l ++ m) = momX l + momX m ∧ momY (l ++ m) = momY l + momY m ∧ momZ (l ++ m) = momZ l + momZ m ∧ massN (l ++ m) = massN l + massN m := by
  unfold momX momY momZ massN
  refine ⟨?_, ?_, ?_, ?_⟩ <;> rw [List.map_append, List.sum_append]
end Go.Proofs.Ytkkeblgahbpmmaa
