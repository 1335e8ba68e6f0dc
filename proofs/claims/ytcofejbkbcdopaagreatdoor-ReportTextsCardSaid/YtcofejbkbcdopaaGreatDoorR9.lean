
import Derived.Test.YtcofejbkbcdopaaGreatDoorR4
import Derived.Test.YtcofejbkbcdopaaGreatDoorLD52
import Derived.BigQuiet
import Derived.Deep.QuietTactic
/- Contracts of the law's ratio, per cent and says; of the report's Check. -/
namespace Go.Proofs.YtcofejbkbcdopaaGreatDoor
open Go.RowKit
theorem l_dec (n : Nat) (h : n ≤ 9223372036854775807) (w : World) : Calls Tryz.prog 24 #[.int .i64 n] w fun e w' => e = .returned (.string (digs n)) ∧ Ext w w' := ldec_any n w (by omega)
theorem ratioL_ne (a b : Nat) : ratioL a b ≠ [] := by
  unfold ratioL
  split
  · simp
  · intro e
    have := congrArg List.length e
    simp at this
set_option maxRecDepth 100000 in
set_option maxHeartbeats 4000000 in
theorem says_bad (a b : Int) (h : hasB a b = false) (w : World) : Calls Tryz.prog 15 #[.int .i64 a, .int .i64 b, .string ⟨#[]⟩, .string ⟨#[]⟩] w fun e w' => e = .returned (.bool true) ∧ Ext w w' := by
  have c1 : Box _ := ⟨fun w => ratio_bad a b w h⟩
  have c2 : Box _ := ⟨fun w => percent_bad a b w h⟩
  clear h
  go_enter Tryz.func15, Tryz.ntmps15
  go_wp2_with (first
    | (go_at_call 31; (with_reducible refine (c1.out _).mono ?_); rintro e w' ⟨rfl, rfl⟩)
    | (go_at_call 32; (with_reducible refine (c2.out _).mono ?_); rintro e w' ⟨rfl, rfl⟩))
  go_ret
  exact ⟨rfl, Below.refl _ _⟩
set_option maxRecDepth 100000 in
set_option maxHeartbeats 4000000 in
theorem says_ok (a b : Nat) (h : a ≤ b) (hb : b ≤ 1073741824) (w : World) (ht : Tabs w) (r p : ByteArray) (hr : r = ⟨(ratioL a b).toArray⟩) (hp : p = ⟨(percentL a b).toArray⟩) :
    Calls Tryz.prog 15 #[.int .i64 a, .int .i64 b, .string r, .string p] w fun e w' => e = .returned (.bool true) ∧ Ext w w' := by
  have c1 : Box (∀ w', Ext w w' → _) := ⟨fun w' hx => ratio_ok a b h hb w' (ht.ext hx)⟩
  have c2 : Box (∀ w', Ext w w' → _) := ⟨fun w' hx => percent_ok a b h hb w' (ht.ext hx)⟩
  rw [← hr] at c1
  rw [← hp] at c2
  have r0 : r.data.toList ≠ [] := by rw [hr]; exact ratioL_ne a b
  have r1 : (r.toList == ([] : List UInt8)) = false := by rw [Lib.toList_data, beq_eq_false_iff_ne]; exact r0
  have r2 : ¬ r.toList = [] := by rw [Lib.toList_data]; exact r0
  have r3 : (!r.toList.isEmpty) = true := by simpa using r2
  have hx : Ext w w := Below.refl _ _
  clear h hb ht hr hp r0
  go_enter Tryz.func15, Tryz.ntmps15
  go_wp2_with (first
    | (go_at_call 31; (with_reducible refine (c1.out _ hx).mono ?_); rintro e w1 ⟨rfl, hb1⟩; replace hx := Ext.trans' hx hb1)
    | (go_at_call 32; (with_reducible refine (c2.out _ hx).mono ?_); rintro e w1 ⟨rfl, hb1⟩; replace hx := Ext.trans' hx hb1))
  go_ret
  exact ⟨rfl, hx⟩
end Go.Proofs.YtcofejbkbcdopaaGreatDoor
