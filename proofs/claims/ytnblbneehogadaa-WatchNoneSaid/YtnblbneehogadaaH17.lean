import Derived.Test.YtnblbneehogadaaH16
/- Contracts of a hub that is nil. -/
namespace Go.Proofs.Ytnblbneehogadaa
open Go.RowKit Go.ChangeMaps
set_option maxHeartbeats 1000000
theorem remove_nil (id : Int) (w : World) : Calls Try.prog 22 #[.pointer none, .int .i64 id] w fun e w' => e = .returned (.tuple #[.int .i64 0, .int .i64 1]) ∧ w = w' := by
  have c1 := Box.mk (find_nil id w)
  go_enter Try.func22, Try.ntmps22
  go_wp2_with (first | (go_at_call 39; (with_reducible refine (c1.out).mono ?_); rintro e w' ⟨rfl, rfl⟩))
  go_ret2
  exact ⟨rfl, rfl⟩
theorem publish_nil (v : Value) (w : World) : Calls Try.prog 13 #[.pointer none, v] w fun e w' => e = .returned (.tuple #[.int .i64 0, .int .i64 1]) ∧ w = w' := by
  go_enter Try.func13, Try.ntmps13
  go_wp2
  go_ret2
  exact ⟨rfl, rfl⟩
theorem htake_nil (id m : Int) (w : World) : Calls Try.prog 19 #[.pointer none, .int .i64 id, .int .i64 m] w fun e w' => e = .returned (.tuple #[.slice none 0 0, .int .i64 1]) ∧ w = w' := by
  go_enter Try.func19, Try.ntmps19
  go_wp2
  go_ret2
  exact ⟨rfl, rfl⟩
theorem hlost_nil (id : Int) (w : World) : Calls Try.prog 21 #[.pointer none, .int .i64 id] w fun e w' => e = .returned (.tuple #[.int .i64 0, .int .i64 1]) ∧ w = w' := by
  have c1 := Box.mk (find_nil id w)
  go_enter Try.func21, Try.ntmps21
  go_wp2_with (first | (go_at_call 39; (with_reducible refine (c1.out).mono ?_); rintro e w' ⟨rfl, rfl⟩))
  go_ret2
  exact ⟨rfl, rfl⟩
theorem hadd_nil (s : ByteArray) (a : Option Addr) (n c : Nat) (room : Int) (old : Bool) (w : World) : Calls Try.prog 17 #[.pointer none, .agg #[.string s, .slice a n c, .int .i64 room, .bool old]] w fun e w' => e = .returned (.tuple #[.int .i64 0, .int .i64 1]) ∧ Ext w w' := by
  have hx : Ext w (w.alloc (.cells #[.string s, .slice a n c, .int .i64 room, .bool old] 24)) := Ext.alloc (Below.refl _ _) _
  go_enter Try.func17, Try.ntmps17
  go_wp2
  go_ret2
  exact ⟨rfl, hx⟩
theorem watchers_nil (w : World) : Calls Try.prog 27 #[.pointer none] w fun e w' => e = .returned (.slice none 0 0) ∧ w = w' := by
  go_enter Try.func27, Try.ntmps27
  go_wp2
  go_ret
  exact ⟨rfl, rfl⟩
theorem hcopy_nil (w : World) : Calls Try.prog 28 #[.pointer none] w fun e w' => e = .returned (.pointer none) ∧ w = w' := by
  go_enter Try.func28, Try.ntmps28
  go_wp2
  go_ret
  exact ⟨rfl, rfl⟩
theorem ladds_nil (s : ByteArray) (a : Option Addr) (n c : Nat) (room : Int) (old : Bool) (w : World) : Calls Try.prog 11 #[.pointer none, .agg #[.string s, .slice a n c, .int .i64 room, .bool old], .int .i64 0, .int .i64 1] w fun e w' => e = .returned (.bool true) ∧ Ext w w' := by
  have hx : Ext w (w.alloc (.cells #[.string s, .slice a n c, .int .i64 room, .bool old] 24)) := Ext.alloc (Below.refl _ _) _
  have h2 := adds_of none s a n c room old 0 1 0 1 w (R := fun w' => Ext w w') ((hadd_nil s a n c room old _).mono (by
    rintro e w' ⟨he, hr⟩
    exact ⟨he, Ext.trans' hx hr⟩))
  refine h2.mono ?_
  rintro e w' ⟨he, hr⟩
  exact ⟨by rw [he]; simp, hr⟩
theorem rule_nil (id : Int) (w : World) : Calls Try.prog 26 #[.pointer none, .int .i64 id] w fun e w' => e = .returned (.tuple #[.agg #[.string ⟨#[]⟩, .slice none 0 0, .int .i64 0, .bool false], .int .i64 1]) ∧ Ext w w' := by
  have c1 := Box.mk fun w => find_nil id w
  have hB := newblk w (.cells #[.string ⟨#[]⟩, .slice none 0 0, .int .i64 0, .bool false] 24)
  have hx : Ext w (w.alloc (.cells #[.string ⟨#[]⟩, .slice none 0 0, .int .i64 0, .bool false] 24)) := Ext.alloc (Below.refl _ _) _
  obtain ⟨m0, m1, m2, m3, f0, f1, f2, f3⟩ := blk4 hB
  clear hB
  go_enter Try.func26, Try.ntmps26
  go_wp2_with (first | (go_at_call 39; (with_reducible refine (c1.out _).mono ?_); rintro e w' ⟨rfl, rfl⟩))
  refine bodyPost_ret (v := .tuple #[.agg #[.string ⟨#[]⟩, .slice none 0 0, .int .i64 0, .bool false], .int .i64 1]) ?_ rfl ⟨rfl, hx⟩
  simp [results, Try.results26, go_sem, m0, m1, m2, m3]
end Go.Proofs.Ytnblbneehogadaa
