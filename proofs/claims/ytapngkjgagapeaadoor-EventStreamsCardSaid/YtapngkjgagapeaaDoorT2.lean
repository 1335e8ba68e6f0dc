
import Derived.Test.YtapngkjgagapeaaDoorLib
import Derived.Test.YtapngkjgagapeaaDoorTM
import Derived.Lib.Strings
/- Contracts of the reference's texts of times. -/
namespace Go.Proofs.YtapngkjgagapeaaDoor
open Go.RowKit

/-- What Parse returns. -/
def pV (o : Option Nat) : Nat := o.getD 0
def pB (o : Option Nat) : Bool := o.isSome
theorem lst_len (s : ByteArray) : s.data.toList.length = s.size := rfl
theorem str_ext {s t : ByteArray} (h : s.data.toList = t.data.toList) : s = t := by
  apply ByteArray.ext; exact Array.ext' h
theorem str_of (s : ByteArray) (l : List UInt8) (h : s.data.toList = l) : s = ⟨l.toArray⟩ := str_ext (by rw [h])
theorem str_empty (s : ByteArray) (h : s.size = 0) : s = ⟨#[]⟩ := str_of s [] (List.eq_nil_of_length_eq_zero h)
theorem ne_test (s : ByteArray) (l : List UInt8) (h : s.data.toList ≠ l) : (s.toList == l) = false := by
  rw [Lib.toList_data]; simpa using h
theorem eq_test (s : ByteArray) (l : List UInt8) (h : s.data.toList = l) : (s.toList == l) = true := by
  rw [Lib.toList_data]; simpa using h
theorem drop_cons (s : ByteArray) (k : Nat) (h : k < s.size) : s.data.toList.drop k = s[k] :: s.data.toList.drop (k + 1) := by
  rw [List.drop_eq_getElem_cons (by exact h)]; rfl

end Go.Proofs.YtapngkjgagapeaaDoor
