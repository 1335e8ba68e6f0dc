import Derived.Test.YthlnhemdhlkhfaaDoorD18
/- The law of the numbers. -/
namespace Go.Proofs.YthlnhemdhlkhfaaDoor
open Go.RowKit

theorem nat_u64' {a : Int} (h : (Lit.int .u64 a).wf = true) : ∃ n : Nat, a = n ∧ n < 18446744073709551616 := by
  have := wf_u64 h
  exact ⟨a.toNat, by omega, by omega⟩
set_option maxRecDepth 100000 in
set_option maxHeartbeats 1000000 in
theorem lawLoadNumbers_walk (a0 i : Int) (W : World) (w0 : (Lit.int .u64 a0).wf = true) (_ : (Lit.int .i64 i).wf = true) (ht : Env W) :
    Calls Tryd.prog 3 #[.int .u64 a0, .int .i64 i] W fun e W' => e = .returned (.bool true) ∧ Below W.heap.size W W' := by
  obtain ⟨a, rfl, ha⟩ := nat_u64' w0
  have c1 : Box _ := ⟨fun w => number_any a i w ha⟩
  have c2 : Box _ := ⟨fun w => refNumber_any a i w ha⟩
  have ck : Box (∀ w, Ext W w → Calls Tryd.prog 10 #[] w fun e w' => e = .returned (.bool true) ∧ Ext w w') := ⟨fun w h => known_any w (ht.ext h)⟩
  have hx : Ext W W := Below.refl _ _
  generalize numI a i = x at *
  clear w0 ha ht
  go_enter Tryd.func3, Tryd.ntmps3
  go_wp2_with (first
    | (go_at_call 8; (with_reducible refine (c1.out _).mono ?_); rintro e w' ⟨rfl, rfl⟩)
    | (go_at_call 9; (with_reducible refine (c2.out _).mono ?_); rintro e w' ⟨rfl, rfl⟩)
    | (go_at_call 10; (with_reducible refine (ck.out _ hx).mono ?_); rintro e w1 ⟨rfl, hb⟩; have hx := Ext.trans' hx hb))
  go_ret
  exact ⟨rfl, hx⟩
end Go.Proofs.YthlnhemdhlkhfaaDoor
