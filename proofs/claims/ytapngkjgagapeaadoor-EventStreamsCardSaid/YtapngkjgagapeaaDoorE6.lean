
import Derived.Test.YtapngkjgagapeaaDoorE5
import Derived.Deep.AppendLies
/- The digits of bytes in the reference: Hex; the reference's number. -/
namespace Go.Proofs.YtapngkjgagapeaaDoor
open Go.RowKit

theorem numsV_hex (l : List UInt8) (b : UInt8) (x y : UInt8) (hx : x = hexD (b.toNat / 16)) (hy : y = hexD (b.toNat % 16)) : (nums (hexP l)).map (Value.int .u8) ++ [.int .u8 (x.toNat : Int), .int .u8 (y.toNat : Int)] = (nums (hexP (l ++ [b]))).map (Value.int .u8) := by
  subst hx hy
  rw [hexP_snoc]; simp [nums]

end Go.Proofs.YtapngkjgagapeaaDoor
