import Derived.Test.YtfobbhphcgomgaaW6
/- The examples of the chapter: 'known' returns true. -/
namespace Go.Proofs.Ytfobbhphcgomgaa
open Go.RowKit

def exL (i : Nat) : Nat := [1, 2, 2, 255, 0, 128, 2, 127].getD i 0
def exW : Nat := WM.of8 exL
theorem exL_lt (i : Nat) : exL i < 256 := by
  unfold exL
  rcases Nat.lt_or_ge i 8 with h | h
  · rcases lt8_nat i h with rfl | rfl | rfl | rfl | rfl | rfl | rfl | rfl <;> decide
  · rw [List.getD_eq_getElem?_getD, List.getElem?_eq_none (by simpa using h)]; decide
theorem exW_lt : exW < 18446744073709551616 := WM.of8_lt _ exL_lt
theorem ex_m2 : WM.matchN exW 2 = 70 := by decide +kernel
theorem ex_m0 : WM.matchN exW 0 = 16 := by decide +kernel
theorem ex_m3 : WM.matchN exW 3 = 0 := by decide +kernel
theorem ex_hi : WM.highN exW = 40 := by decide +kernel
theorem ex_l3 : WM.lane exW 3 = 255 := by decide +kernel
theorem ex_w0 : WM.lane (WM.withN exW 0 9) 0 = 9 := by decide +kernel

set_option maxHeartbeats 2000000 in
theorem known_any (w : World) : Calls Try.prog 11 #[] w fun e w' => e = .returned (.bool true) ∧ Below w.heap.size w w' := by
  have hlt := exW_lt
  have hm2 : Box (∀ w, Calls Try.prog 13 #[.int .u64 exW, .int .u8 2] w fun e w' => e = .returned (.int .u8 70) ∧ w = w') := ⟨fun w => by have := match_any exW 2 w (by omega) (by omega) (by omega) (by omega); simpa [ex_m2] using this⟩
  have hm0 : Box (∀ w, Calls Try.prog 13 #[.int .u64 exW, .int .u8 0] w fun e w' => e = .returned (.int .u8 16) ∧ w = w') := ⟨fun w => by have := match_any exW 0 w (by omega) (by omega) (by omega) (by omega); simpa [ex_m0] using this⟩
  have hm3 : Box (∀ w, Calls Try.prog 13 #[.int .u64 exW, .int .u8 3] w fun e w' => e = .returned (.int .u8 0) ∧ w = w') := ⟨fun w => by have := match_any exW 3 w (by omega) (by omega) (by omega) (by omega); simpa [ex_m3] using this⟩
  have hhi : Box (∀ w, Calls Try.prog 15 #[.int .u64 exW] w fun e w' => e = .returned (.int .u8 40) ∧ w = w') := ⟨fun w => by have := high_any exW w (by omega) (by omega); simpa [ex_hi] using this⟩
  have hl3 : Box (∀ w, Calls Try.prog 10 #[.int .u64 exW, .int .i64 3] w fun e w' => e = .returned (.tuple #[.int .u8 255, .int .i64 0]) ∧ w = w') := ⟨fun w => by have := lane_any exW 3 w (by omega) (by omega) (by omega) (by omega); simpa [ex_l3] using this⟩
  have hl8 : Box (∀ w, Calls Try.prog 10 #[.int .u64 exW, .int .i64 8] w fun e w' => e = .returned (.tuple #[.int .u8 0, .int .i64 3]) ∧ w = w') := ⟨fun w => lane_bad exW 8 w (by omega)⟩
  have hw0 : Box (∀ w, Calls Try.prog 8 #[.int .u64 exW, .int .i64 0, .int .u8 9] w fun e w' => e = .returned (.tuple #[.int .u64 (WM.withN exW 0 9), .int .i64 0]) ∧ ∃ q, w' = w.drewN q) := ⟨fun w => by have := with_any exW 0 9 w (by omega) (by omega) (by omega) (by omega) (by omega) (by omega); simpa using this⟩
  have hx := WM.withN_lt exW 0 9 (by decide)
  have hl0 : Box (∀ w, Calls Try.prog 10 #[.int .u64 (WM.withN exW 0 9), .int .i64 0] w fun e w' => e = .returned (.tuple #[.int .u8 9, .int .i64 0]) ∧ w = w') := ⟨fun w => by have := lane_any (WM.withN exW 0 9) 0 w (by omega) (by omega) (by omega) (by omega); simpa [ex_w0] using this⟩
  have hld : Box (∀ b w, (∀ j, j < 8 → w.cell? ⟨b, 0 + j, none⟩ = some (.int .u8 (exL j))) → Calls Try.prog 20 #[.slice (some ⟨b, 0, none⟩) 8 8] w fun e w' => e = .returned (.tuple #[.int .u64 exW, .int .i64 0]) ∧ w = w') := ⟨fun b w hc => load_any b 0 8 8 exL w exL_lt (by omega) (by omega) hc⟩
  have hlds : Box (∀ a c w, Calls Try.prog 20 #[.slice a 7 c] w fun e w' => e = .returned (.tuple #[.int .u64 0, .int .i64 4]) ∧ w = w') := ⟨fun a c w => load_short a 7 c w (by omega)⟩
  clear hlt hx
  generalize WM.withN exW 0 9 = x9 at *
  generalize hk : exW = k at *
  clear hk
  have hmk : ∀ w, (Instr.makeSlice 44 (.int .i64 7) (.int .i64 7)).run Try.prog w = .ok (.slice (some ⟨w.heap.size, 0, none⟩) 7 7) (w.alloc (.cells #[.int .u8 0, .int .u8 0, .int .u8 0, .int .u8 0, .int .u8 0, .int .u8 0, .int .u8 0] 5)) := fun _ => by kernel_rfl
  have hf70 : Box (∀ w, Calls Try.prog 18 #[.int .u8 70] w fun e w' => e = .returned (.int .i64 1) ∧ w = w') := ⟨fun w => first_any 70 w (by omega) (by omega)⟩
  have hf0 : Box (∀ w, Calls Try.prog 18 #[.int .u8 0] w fun e w' => e = .returned (.int .i64 8) ∧ w = w') := ⟨fun w => first_any 0 w (by omega) (by omega)⟩
  have hc70 : Box (∀ w, Calls Try.prog 19 #[.int .u8 70] w fun e w' => e = .returned (.int .i64 3) ∧ w = w') := ⟨fun w => count_any 70 w (by omega) (by omega)⟩
  have hr1 : Box (∀ w, Calls Try.prog 24 #[.int .u8 1] w fun e w' => e = .returned (.int .u64 72340172838076673) ∧ w = w') := ⟨fun w => repeat_any 1 w (by omega) (by omega)⟩
  have hr255 : Box (∀ w, Calls Try.prog 24 #[.int .u8 255] w fun e w' => e = .returned (.int .u64 18446744073709551615) ∧ w = w') := ⟨fun w => repeat_any 255 w (by omega) (by omega)⟩
  have hall : Box (∀ v w, Sl w v 3 (ints [1, 2, 6]) → Calls Try.prog 27 #[.int .u8 70, v] w fun e w' => e = .returned (.bool true) ∧ Below w.heap.size w w') := ⟨fun v w hv => lawAll_any 70 (by decide) v 3 [1, 2, 6] w hv rfl (by decide)⟩
  go_enter Try.func11, Try.ntmps11
  go_wp2_with fail
  refine (hld.out _ _ ?_).mono ?_
  · intro j hj
    rw [World.cell?_alloc_new]
    rcases lt8_nat j hj with rfl | rfl | rfl | rfl | rfl | rfl | rfl | rfl <;> simp [exL]
  rintro e w' ⟨rfl, rfl⟩
  go_wp2_with (first | (go_at_call 13; (with_reducible refine (hm2.out _).mono ?_); rintro e w' ⟨rfl, rfl⟩) | (go_at_call 13; (with_reducible refine (hm0.out _).mono ?_); rintro e w' ⟨rfl, rfl⟩) | (go_at_call 13; (with_reducible refine (hm3.out _).mono ?_); rintro e w' ⟨rfl, rfl⟩) | (go_at_call 15; (with_reducible refine (hhi.out _).mono ?_); rintro e w' ⟨rfl, rfl⟩) | (go_at_call 10; (with_reducible refine (hl3.out _).mono ?_); rintro e w' ⟨rfl, rfl⟩) | (go_at_call 10; (with_reducible refine (hl8.out _).mono ?_); rintro e w' ⟨rfl, rfl⟩) | (go_at_call 8; (with_reducible refine (hw0.out _).mono ?_); rintro e w' ⟨rfl, q, rfl⟩) | (go_at_call 10; (with_reducible refine (hl0.out _).mono ?_); rintro e w' ⟨rfl, rfl⟩))
  refine (hlds.out _ _ _).mono ?_
  rintro e w' ⟨rfl, rfl⟩
  go_wp2_with (first | (go_at_call 18; (with_reducible refine (hf70.out _).mono ?_); rintro e w' ⟨rfl, rfl⟩) | (go_at_call 19; (with_reducible refine (hc70.out _).mono ?_); rintro e w' ⟨rfl, rfl⟩))
  refine (hall.out _ _ ?_).mono ?_
  · exact Sl.new _ _ _ _ 3 3 (by simp) (by decide) (by decide)
  rintro e w' ⟨rfl, hb⟩
  go_wp2_with (first | (go_at_call 18; (with_reducible refine (hf0.out _).mono ?_); rintro e w' ⟨rfl, rfl⟩) | (go_at_call 24; (with_reducible refine (hr1.out _).mono ?_); rintro e w' ⟨rfl, rfl⟩) | (go_at_call 24; (with_reducible refine (hr255.out _).mono ?_); rintro e w' ⟨rfl, rfl⟩))
  go_ret
  refine ⟨rfl, Below.trans ?_ (hb.mono ?_)⟩
  · repeat' (first | exact Below.refl _ _ | refine below_drewN ?_ _ | refine Below.alloc ?_ ?_ _ | (simp; done) | (simp; omega))
  · simp; omega
end Go.Proofs.Ytfobbhphcgomgaa
