import Derived.Test.YtapngkjgagapeaaDoorLib
import Derived.Test.YtapngkjgagapeaaDoorTM
import Derived.Test.YtapngkjgagapeaaDoorCUM
import Derived.Test.YtapngkjgagapeaaDoorShelf
import Derived.Lib.IndexLaws
import Derived.Lib.Strings
import Derived.IntWalk
/- What stands before and behind a byte: the plain laws, and the contract of strings.Cut at one byte. -/
namespace Go.Proofs.YtapngkjgagapeaaDoor
open Go.RowKit

theorem cstr_ext {s t : ByteArray} (h : s.data.toList = t.data.toList) : s = t := by
  apply ByteArray.ext; exact Array.ext' h
theorem cextract_upto (s : ByteArray) (k : Nat) : s.extract 0 k = ⟨(s.data.toList.take k).toArray⟩ := by
  apply ByteArray.ext; apply Array.ext'; simp
theorem cextract_from (s : ByteArray) (k : Nat) : s.extract k s.size = ⟨(s.data.toList.drop k).toArray⟩ := by
  apply ByteArray.ext; apply Array.ext'
  have h : s.data.toList.length = s.size := rfl
  simp only [ByteArray.data_extract, Array.toList_extract, List.extract_eq_take_drop]
  exact List.take_of_length_le (by rw [List.length_drop, h]; exact Nat.le_refl _)
set_option maxHeartbeats 1000000 in
theorem sxcut_any (x : UInt8) (s : ByteArray) (w : World) (hs : s.size ≤ 281474976710656) :
    Calls Tryd.prog 69 #[.string s, .string ⟨#[x]⟩] w fun e w' => e = .returned (.tuple #[.string ⟨(cA x s.data.toList).toArray⟩, .string ⟨(cZ x s.data.toList).toArray⟩, .bool (cF x s.data.toList)]) ∧ Ext w w' := by
  have c1 : Box _ := ⟨fun w => Tryd.stringslite_Index_one s x w⟩
  have hge := Lib.indexByte_ge s.data.toList x
  by_cases h : Lib.indexByte s.data.toList x = -1
  · have hc := ccut_none x _ (Lib.indexByte_none h)
    rw [hc.1, hc.2.1, hc.2.2]
    rw [h] at c1
    rw [show (⟨s.data.toList.toArray⟩ : ByteArray) = s from cstr_ext rfl]
    clear h hge hc
    go_enter Tryd.func69, Tryd.ntmps69
    go_wp2_with (first | (go_at_call 79; (with_reducible refine (c1.out _).mono ?_); rintro e w' ⟨rfl, rfl⟩))
    go_ret3
    exact ⟨rfl, Below.refl _ _⟩
  · obtain ⟨o, ho⟩ : ∃ o : Nat, Lib.indexByte s.data.toList x = o := ⟨(Lib.indexByte s.data.toList x).toNat, by omega⟩
    obtain ⟨h1, h2⟩ := Lib.indexByte_some ho
    have hlt : o < s.size := (List.getElem?_eq_some_iff.1 h1).1
    have hc := ccut_some x _ o h1 h2
    rw [hc.1, hc.2.1, hc.2.2, ← cextract_upto, ← cextract_from]
    rw [ho] at c1
    have n0 : (0 : Int) ≤ (o : Int) := by omega
    have n1 : (o : Int) + 1 ≤ (s.size : Int) := by omega
    have n2 : (o : Int) ≤ (s.size : Int) := by omega
    clear h hge hc ho h1 h2
    go_enter Tryd.func69, Tryd.ntmps69
    go_wp2_with (first | (go_at_call 79; (with_reducible refine (c1.out _).mono ?_); rintro e w' ⟨rfl, rfl⟩))
    have t5 : IntKind.i64.wrap ((o : Int) + 1) = (o : Int) + 1 := IntWalk.i64_in _ (by omega)
    go_quiet (fail)
    go_wp2
    go_ret3
    exact ⟨rfl, Ext.drewN (Below.refl _ _) _⟩

set_option maxHeartbeats 1000000 in
theorem xcut_any (x : UInt8) (s : ByteArray) (w : World) (hs : s.size ≤ 281474976710656) :
    Calls Tryd.prog 60 #[.string s, .string ⟨#[x]⟩] w fun e w' => e = .returned (.tuple #[.string ⟨(cA x s.data.toList).toArray⟩, .string ⟨(cZ x s.data.toList).toArray⟩, .bool (cF x s.data.toList)]) ∧ Ext w w' := by
  have c1 : Box _ := ⟨fun w => sxcut_any x s w hs⟩
  generalize (⟨(cA x s.data.toList).toArray⟩ : ByteArray) = a at *
  generalize (⟨(cZ x s.data.toList).toArray⟩ : ByteArray) = b at *
  generalize cF x s.data.toList = f at *
  go_enter Tryd.func60, Tryd.ntmps60
  go_wp2_with (first | (go_at_call 69; (with_reducible refine (c1.out _).mono ?_); rintro e w' ⟨rfl, hb⟩))
  go_ret3
  exact ⟨rfl, hb⟩
end Go.Proofs.YtapngkjgagapeaaDoor
