
import Derived.Test.YtapngkjgagapeaaDoorE3
import Derived.Deep.RegionHeld3
/- Contracts of the reference's Equal, of Before and its reference. -/
namespace Go.Proofs.YtapngkjgagapeaaDoor
open Go.RowKit

theorem l_eq (l1 l2 : List UInt8) : ((⟨l1.toArray⟩ : ByteArray).toList == (⟨l2.toArray⟩ : ByteArray).toList) = (l1 == l2) := by
  rw [Lib.toList_data, Lib.toList_data]

def befN (d1 d2 b1 b2 : Nat) : Bool := if d1 = d2 then decide (b1 < b2) else decide (d1 < d2)
def cmpN (a b : Nat) : Int := if a < b then -1 else if b < a then 1 else 0
def orZ (x y : Int) : Int := if x = 0 then y else x
theorem orZ_nz (x y : Int) (h : ¬ x = 0) : orZ x y = x := if_neg h
theorem orZ_z (y : Int) : orZ 0 y = y := if_pos rfl
theorem bef_cmp (d1 d2 b1 b2 : Nat) : decide (orZ (cmpN d1 d2) (cmpN b1 b2) < 0) = befN d1 d2 b1 b2 := by
  unfold orZ cmpN befN
  (repeat' split) <;> (rw [Bool.eq_iff_iff]; simp; try omega)

end Go.Proofs.YtapngkjgagapeaaDoor
