
import Derived.Test.YtapngkjgagapeaaDoorE14
import Derived.RegionTactic
/- The contract of the reference's split. -/
namespace Go.Proofs.YtapngkjgagapeaaDoor
open Go.RowKit

theorem info_str : (Tryd.prog.info? 9).map (fun i => (i.zero, i.size, i.bytes)) = some (some (.string ⟨#[]⟩), 1, 16) := by kernel_rfl
def strs (ps : List (List UInt8)) : List Value := ps.map fun p => .string ⟨p.toArray⟩
theorem strs_len (ps : List (List UInt8)) : (strs ps).length = ps.length := by simp [strs]
theorem strs_at (ps : List (List UInt8)) (p : List UInt8) : (strs (ps ++ [p]))[ps.length]? = some (.string ⟨p.toArray⟩) := by simp [strs]
theorem strs_set (ps : List (List UInt8)) (p q : List UInt8) : (strs (ps ++ [p])).set ps.length (.string ⟨q.toArray⟩) = strs (ps ++ [q]) := by simp [strs]
theorem strs_snoc (ps : List (List UInt8)) (q : List UInt8) : strs ps ++ [.string ⟨q.toArray⟩] = strs (ps ++ [q]) := by simp [strs]

end Go.Proofs.YtapngkjgagapeaaDoor
