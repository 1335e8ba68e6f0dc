import Derived.Test.YtapngkjgagapeaaDoorE8
import Derived.Lib.IndexLaws
import Derived.IntWalk
/- Contracts of strings.Cut at a space, and of the closure that cuts the parts off. -/
namespace Go.Proofs.YtapngkjgagapeaaDoor
open Go.RowKit

theorem extract_upto' (s : ByteArray) (k : Nat) : s.extract 0 k = ⟨(s.data.toList.take k).toArray⟩ := by
  apply ByteArray.ext; apply Array.ext'; simp
theorem extract_from' (s : ByteArray) (k : Nat) : s.extract k s.size = ⟨(s.data.toList.drop k).toArray⟩ := by
  apply ByteArray.ext; apply Array.ext'
  have h : s.data.toList.length = s.size := rfl
  simp only [ByteArray.data_extract, Array.toList_extract, List.extract_eq_take_drop]
  exact List.take_of_length_le (by rw [List.length_drop, h]; exact Nat.le_refl _)
theorem cut_none (l : List UInt8) (h : ∀ k : Nat, l[k]? ≠ some 32) : cutA l = l ∧ cutZ l = [] := by
  have hn : ∀ c ∈ l, c ≠ 32 := fun c hc e => by
    obtain ⟨i, hi, he⟩ := List.getElem_of_mem hc
    exact h i (by rw [List.getElem?_eq_getElem hi, he, e])
  exact ⟨cutA_all l hn, cutZ_all l hn⟩
theorem cut_some (l : List UInt8) (o : Nat) (h : l[o]? = some 32) (hk : ∀ k : Nat, k < o → l[k]? ≠ some 32) : cutA l = l.take o ∧ cutZ l = l.drop (o + 1) := by
  have ho : o < l.length := (List.getElem?_eq_some_iff.1 h).1
  have e0 : l[o] = 32 := (List.getElem?_eq_some_iff.1 h).2
  have e : l = l.take o ++ 32 :: l.drop (o + 1) := by
    rw [← e0, ← List.drop_eq_getElem_cons ho, List.take_append_drop]
  have hn : ∀ c ∈ l.take o, c ≠ 32 := fun c hc e1 => by
    obtain ⟨i, hi, he⟩ := List.getElem_of_mem hc
    have hi2 : i < o := by simp at hi; omega
    rw [List.getElem_take] at he
    exact hk i hi2 (by rw [List.getElem?_eq_getElem (by omega), he, e1])
  have a := cutA_at (l.take o) (l.drop (o + 1)) hn
  have z := cutZ_at (l.take o) (l.drop (o + 1)) hn
  rw [← e] at a z
  exact ⟨a, z⟩

set_option maxHeartbeats 1000000 in
theorem scut_any (s : ByteArray) (w : World) (hs : s.size ≤ 1000000) :
    Calls Tryd.prog 69 #[.string s, .string ⟨#[32]⟩] w fun e w' => ∃ f, e = .returned (.tuple #[.string ⟨(cutA s.data.toList).toArray⟩, .string ⟨(cutZ s.data.toList).toArray⟩, .bool f]) ∧ Ext w w' := by
  have c1 : Box _ := ⟨fun w => Tryd.stringslite_Index_one s 32 w⟩
  have hge := Lib.indexByte_ge s.data.toList 32
  by_cases h : Lib.indexByte s.data.toList 32 = -1
  · have hc := cut_none _ (Lib.indexByte_none h)
    rw [hc.1, hc.2]
    rw [h] at c1
    rw [show (⟨s.data.toList.toArray⟩ : ByteArray) = s from str_ext rfl]
    clear h hge hc
    go_enter Tryd.func69, Tryd.ntmps69
    go_wp2_with (first | (go_at_call 79; (with_reducible refine (c1.out _).mono ?_); rintro e w' ⟨rfl, rfl⟩))
    go_ret3
    exact ⟨_, rfl, Below.refl _ _⟩
  · obtain ⟨o, ho⟩ : ∃ o : Nat, Lib.indexByte s.data.toList 32 = o := ⟨(Lib.indexByte s.data.toList 32).toNat, by omega⟩
    obtain ⟨h1, h2⟩ := Lib.indexByte_some ho
    have hlt : o < s.size := (List.getElem?_eq_some_iff.1 h1).1
    have hc := cut_some _ o h1 h2
    rw [hc.1, hc.2, ← extract_upto', ← extract_from']
    rw [ho] at c1
    have n0 : (0 : Int) ≤ (o : Int) := by omega
    have n1 : (o : Int) + 1 ≤ (s.size : Int) := by omega
    have n2 : (o : Int) ≤ (s.size : Int) := by omega
    clear h hge hc ho h1 h2
    go_enter Tryd.func69, Tryd.ntmps69
    go_wp2_with (first | (go_at_call 79; (with_reducible refine (c1.out _).mono ?_); rintro e w' ⟨rfl, rfl⟩))
    have t5 : IntKind.i64.wrap ((o : Int) + 1) = (o : Int) + 1 := IntWalk.i64_in _ (by omega)
    go_quiet (fail)
    go_wp2
    go_ret3
    exact ⟨_, rfl, Ext.drewN (Below.refl _ _) _⟩

set_option maxHeartbeats 1000000 in
theorem cut_any (s : ByteArray) (w : World) (hs : s.size ≤ 1000000) :
    Calls Tryd.prog 60 #[.string s, .string ⟨#[32]⟩] w fun e w' => ∃ f, e = .returned (.tuple #[.string ⟨(cutA s.data.toList).toArray⟩, .string ⟨(cutZ s.data.toList).toArray⟩, .bool f]) ∧ Ext w w' := by
  have c1 : Box _ := ⟨fun w => scut_any s w hs⟩
  generalize (⟨(cutA s.data.toList).toArray⟩ : ByteArray) = x at *
  generalize (⟨(cutZ s.data.toList).toArray⟩ : ByteArray) = y at *
  go_enter Tryd.func60, Tryd.ntmps60
  go_wp2_with (first | (go_at_call 69; (with_reducible refine (c1.out _).mono ?_); rintro e w' ⟨f, rfl, hb⟩))
  go_ret3
  exact ⟨_, rfl, hb⟩

theorem grown_set {w w1 : World} (h : Ext w w1) (B : Nat) (x : Value) : w.grownBy (w1.setCell ⟨B, 0, none⟩ x) (some B) :=
  ⟨h.os, h.tape, h.output, by have := h.size; simp; exact this, fun k hk hr => by
    rw [Below.heap_setCell _ _ _ _ (fun e => hr (by rw [e]))]; exact h.block k hk⟩

set_option maxHeartbeats 1000000 in
theorem next_any (B : Nat) (s : ByteArray) (w : World) (hs : s.size ≤ 1000000) (hB : w.heap[B]? = some (.cells #[.string s] 9 (0, 0))) :
    Calls Tryd.prog 71 #[.pointer (some ⟨B, 0, none⟩)] w fun e w' => e = .returned (.string ⟨(cutA s.data.toList).toArray⟩) ∧ w'.heap[B]? = some (.cells #[.string ⟨(cutZ s.data.toList).toArray⟩] 9 (0, 0)) ∧ w.grownBy w' (some B) := by
  have c1 : Box _ := ⟨fun w => cut_any s w hs⟩
  generalize (⟨(cutA s.data.toList).toArray⟩ : ByteArray) = x at *
  generalize (⟨(cutZ s.data.toList).toArray⟩ : ByteArray) = y at *
  have m0 : w.cell? ⟨B, 0, none⟩ = some (.string s) := by rw [Lib.cell_of_heap hB]; rfl
  have HB := Box.mk hB
  clear hB
  go_enter Tryd.func71, Tryd.ntmps71
  go_wp2_with (first | (go_at_call 60; (with_reducible refine (c1.out _).mono ?_); rintro e w1 ⟨f, rfl, hb⟩; have m1 := hb.cell m0; have f1 := Lib.frozen_of_heap (Ext.blk hb HB.out) 0))
  go_ret
  refine ⟨rfl, ?_, grown_set hb B _⟩
  have h1 := Ext.blk hb HB.out
  simp [World.setCell, Array.getElem?_modify, h1]
end Go.Proofs.YtapngkjgagapeaaDoor
