
/- The data of chains, how they lie in memory, and what the chapter says of them, plainly. -/
import Derived.Test.YtcbjecpfijogcaaGreatCNames
namespace Go.Proofs.YtcbjecpfijogcaaGreat
open Go.RowKit

abbrev Pt := Int × Int
structure CAxle where
  x : Int
  limit : Int
  wheels : Int
structure CUnit where
  kind : Int
  length : Int
  behind : Int
  front : Int
  rear : Int
  width : Int
  height : Int
  mass : Int
  steer : Int
  most : Int
  axles : List CAxle
structure CVeh where
  name : ByteArray
  units : List CUnit
  first : Int
  last : Int

def RAxle (_ : World) (cs : List Value) (a : CAxle) : Prop := cs = [.int .i64 a.x, .int .i64 a.limit, .int .i64 a.wheels]
def unitCs (v : Value) (u : CUnit) : List Value := [.int .i64 u.kind, .int .i64 u.length, .int .i64 u.behind, .int .i64 u.front, .int .i64 u.rear, .int .i64 u.width, .int .i64 u.height, .int .i64 u.mass, .int .i64 u.steer, .int .i64 u.most, v]
def RUnit (w : World) (cs : List Value) (u : CUnit) : Prop := ∃ v, cs = unitCs v u ∧ Sl 3 RAxle w v u.axles
theorem RAxle.stable : Stable RAxle := fun _ _ _ _ _ h => h
theorem RUnit.stable : Stable RUnit := fun _ _ _ _ he ⟨v, hcs, h⟩ => ⟨v, hcs, h.ext RAxle.stable he⟩

/-! ### valid -/
/-- the axles of a unit, from one on, behind a place -/
def axlesB (most : Int) : Int → List CAxle → Bool
  | _, [] => true
  | least, a :: l => inB a.x least most && inB a.limit 1 1048576 && inB a.wheels 1 16 && axlesB most a.x l
def sizesB (u : CUnit) : Bool := inB u.front 0 131072 && inB u.rear 0 131072 && inB u.width 0 131072 && inB u.height 0 131072
def barsB (u : CUnit) : Bool := inB u.kind 0 3 && inB u.length 100 131072 && inB u.behind (-u.length) 131072
def restB (u : CUnit) : Bool := inB u.mass 1 1048576 && inB u.steer 0 900 && inB u.most 0 40 && decide (1 ≤ u.axles.length)
def unitB (u : CUnit) : Bool := sizesB u && barsB u && restB u && axlesB (u.length + u.rear) 0 u.axles
def manyB (v : CVeh) : Bool := decide (12 < v.units.length) || v.units.any fun u => decide (24 < u.axles.length)
def kind0 (v : CVeh) : Int := match v.units with | [] => 1 | u :: _ => u.kind
def headB (v : CVeh) : Bool := nameB v.name && decide (1 ≤ v.units.length) && decide (kind0 v = 0) && decide (0 ≤ v.first ∧ v.first ≤ v.last ∧ v.last < v.units.length)
/-- the error of a vehicle -/
def vehE (v : CVeh) : Int := if manyB v then 6 else if headB v && v.units.all unitB then 0 else 2

/-! ### lengths -/
def pulledN (u : CUnit) : Int := (u.length * (1000 - u.steer)).tdiv 1000
def rearN (u : CUnit) : Int := pulledN u - u.length - u.behind

/-! ### poses -/
/-- a unit at its front joint, and the point that is pulled -/
structure CPut where
  unit : CUnit
  joint : Pt
  axle : Pt
/-- the units that stand, from a joint on -/
def putsN (joint : Pt) : List CUnit → List Pt → List CPut
  | u :: us, a :: xs => if okPt a = false ∨ a = joint then [] else ⟨u, joint, a⟩ :: (if (placeS a joint (rearN u) 0).2 = 0 then putsN (placeS a joint (rearN u) 0).1 us xs else [])
  | _, _ => []
/-- whether a pose is valid, for a valid vehicle -/
def poseB (us : List CUnit) (lead : Pt) (xs : List Pt) : Bool := decide (xs.length = us.length) && okPt lead && decide ((putsN lead us xs).length = us.length)
def poseE (v : CVeh) (lead : Pt) (xs : List Pt) : Int := if vehE v = 0 then (if poseB v.units lead xs then 0 else 3) else vehE v
end Go.Proofs.YtcbjecpfijogcaaGreat
