import Derived.Test.YtbhfpofcebepiaaB15
import Derived.Deep.RegionHeld3
/- Contracts: cmp.Compare, cmp.Or, and the order in which places leave. -/
namespace Go.Proofs.Ytbhfpofcebepiaa
open Go.RowKit
def cmpB (a b : Int) : Int := if a < b then -1 else if b < a then 1 else 0
theorem nanI (a : Int) (w : World) : Calls Try.prog 50 #[.int .i64 a] w fun e w' => e = .returned (.bool false) ∧ w = w' := by
  go_enter Try.func50, Try.ntmps50
  go_wp2
  go_ret
  exact ⟨rfl, rfl⟩
theorem nanU (a : Int) (w : World) : Calls Try.prog 51 #[.int .u32 a] w fun e w' => e = .returned (.bool false) ∧ w = w' := by
  go_enter Try.func51, Try.ntmps51
  go_wp2
  go_ret
  exact ⟨rfl, rfl⟩
theorem cmpI (a b : Int) (w : World) : Calls Try.prog 46 #[.int .i64 a, .int .i64 b] w fun e w' => e = .returned (.int .i64 (cmpB a b)) ∧ w = w' := by
  have c1 : Box (∀ a w, Calls Try.prog 50 #[.int .i64 a] w fun e w' => e = .returned (.bool false) ∧ w = w') := ⟨fun a w => nanI a w⟩
  unfold cmpB
  by_cases h1 : a < b
  · have d1 : decide (a < b) = true := decide_eq_true h1
    rw [if_pos h1]
    clear h1
    go_enter Try.func46, Try.ntmps46
    go_wp2_with (first | (go_at_call 50; (with_reducible refine (c1.out _ _).mono ?_); rintro e w' ⟨rfl, rfl⟩))
    go_ret
    exact ⟨rfl, rfl⟩
  · have d1 : decide (a < b) = false := decide_eq_false h1
    rw [if_neg h1]
    by_cases h2 : b < a
    · have d2 : decide (b < a) = true := decide_eq_true h2
      rw [if_pos h2]
      clear h1 h2
      go_enter Try.func46, Try.ntmps46
      go_wp2_with (first | (go_at_call 50; (with_reducible refine (c1.out _ _).mono ?_); rintro e w' ⟨rfl, rfl⟩))
      go_ret
      exact ⟨rfl, rfl⟩
    · have d2 : decide (b < a) = false := decide_eq_false h2
      rw [if_neg h2]
      clear h1 h2
      go_enter Try.func46, Try.ntmps46
      go_wp2_with (first | (go_at_call 50; (with_reducible refine (c1.out _ _).mono ?_); rintro e w' ⟨rfl, rfl⟩))
      go_ret
      exact ⟨rfl, rfl⟩
theorem cmpU (a b : Int) (w : World) : Calls Try.prog 47 #[.int .u32 a, .int .u32 b] w fun e w' => e = .returned (.int .i64 (cmpB a b)) ∧ w = w' := by
  have c1 : Box (∀ a w, Calls Try.prog 51 #[.int .u32 a] w fun e w' => e = .returned (.bool false) ∧ w = w') := ⟨fun a w => nanU a w⟩
  unfold cmpB
  by_cases h1 : a < b
  · have d1 : decide (a < b) = true := decide_eq_true h1
    rw [if_pos h1]
    clear h1
    go_enter Try.func47, Try.ntmps47
    go_wp2_with (first | (go_at_call 51; (with_reducible refine (c1.out _ _).mono ?_); rintro e w' ⟨rfl, rfl⟩))
    go_ret
    exact ⟨rfl, rfl⟩
  · have d1 : decide (a < b) = false := decide_eq_false h1
    rw [if_neg h1]
    by_cases h2 : b < a
    · have d2 : decide (b < a) = true := decide_eq_true h2
      rw [if_pos h2]
      clear h1 h2
      go_enter Try.func47, Try.ntmps47
      go_wp2_with (first | (go_at_call 51; (with_reducible refine (c1.out _ _).mono ?_); rintro e w' ⟨rfl, rfl⟩))
      go_ret
      exact ⟨rfl, rfl⟩
    · have d2 : decide (b < a) = false := decide_eq_false h2
      rw [if_neg h2]
      clear h1 h2
      go_enter Try.func47, Try.ntmps47
      go_wp2_with (first | (go_at_call 51; (with_reducible refine (c1.out _ _).mono ?_); rintro e w' ⟨rfl, rfl⟩))
      go_ret
      exact ⟨rfl, rfl⟩
theorem orI (b : Nat) (x y : Int) (w : World) (h0 : w.cell? ⟨b, 0, none⟩ = some (.int .i64 x)) (h1 : w.cell? ⟨b, 1, none⟩ = some (.int .i64 y)) :
    Calls Try.prog 45 #[.slice (some ⟨b, 0, none⟩) 2 2] w fun e w' => e = .returned (.int .i64 (if x = 0 then y else x)) ∧ w = w' := by
  by_cases hx : x = 0
  · subst hx
    rw [if_pos rfl]
    by_cases hy : y = 0
    · subst hy
      go_enter Try.func45, Try.ntmps45
      go_wp2
      refine wp_loop_rounds 3 ?_
      repeat any_goals (rw [rounds_succ]; go_wp2)
      go_ret
      exact ⟨rfl, rfl⟩
    · have d2 : (y != 0) = true := by simpa using hy
      go_enter Try.func45, Try.ntmps45
      go_wp2
      refine wp_loop_rounds 2 ?_
      repeat any_goals (rw [rounds_succ]; go_wp2)
      go_ret
      exact ⟨rfl, rfl⟩
  · have d1 : (x != 0) = true := by simpa using hx
    rw [if_neg hx]
    go_enter Try.func45, Try.ntmps45
    go_wp2
    refine wp_loop_rounds 1 ?_
    repeat any_goals (rw [rounds_succ]; go_wp2)
    go_ret
    exact ⟨rfl, rfl⟩
theorem drew_new0 (W : World) (T : TypeId) (x y : Value) : (W.alloc (.cells #[x, y] T)).drew.cell? ⟨W.heap.size, 0, none⟩ = some x := by
  show (W.alloc (.cells #[x, y] T)).cell? _ = _
  rw [Lib.cell_of_heap (newblk W _)]; rfl
theorem drew_new1 (W : World) (T : TypeId) (x y : Value) : (W.alloc (.cells #[x, y] T)).drew.cell? ⟨W.heap.size, 1, none⟩ = some y := by
  show (W.alloc (.cells #[x, y] T)).cell? _ = _
  rw [Lib.cell_of_heap (newblk W _)]; rfl
/-- Which of two places leaves first. -/
def latB (k1 n1 k2 n2 : Nat) : Int := if cmpB (n2 : Int) (n1 : Int) = 0 then cmpB (k1 : Int) (k2 : Int) else cmpB (n2 : Int) (n1 : Int)
theorem lat_neg (k1 n1 k2 n2 : Nat) : latB k1 n1 k2 n2 < 0 ↔ n2 < n1 ∨ (n1 = n2 ∧ k1 < k2) := by
  unfold latB cmpB
  split <;> split at * <;> (try split) <;> (try split at *) <;> omega
set_option maxRecDepth 100000 in
set_option maxHeartbeats 4000000 in
theorem later_any (k1 n1 k2 n2 : Nat) (w : World) :
    Calls Try.prog 35 #[.agg #[.int .u32 (k1 : Nat), .int .i64 (n1 : Nat)], .agg #[.int .u32 (k2 : Nat), .int .i64 (n2 : Nat)]] w fun e w' => e = .returned (.int .i64 (latB k1 n1 k2 n2)) ∧ Ext w w' := by
  have c1 : Box (∀ w, _) := ⟨fun w => cmpI (n2 : Int) (n1 : Int) w⟩
  have c2 : Box (∀ w, _) := ⟨fun w => cmpU (k1 : Int) (k2 : Int) w⟩
  have hd : latB k1 n1 k2 n2 = if cmpB (n2 : Int) (n1 : Int) = 0 then cmpB (k1 : Int) (k2 : Int) else cmpB (n2 : Int) (n1 : Int) := rfl
  replace hd := Box.mk hd
  generalize cmpB (n2 : Int) (n1 : Int) = x at *
  generalize cmpB (k1 : Int) (k2 : Int) = y at *
  generalize latB k1 n1 k2 n2 = r at *
  have x1 : ∀ (W : World) (o : Obj), Ext W (W.alloc o) := fun W o => Ext.alloc (Below.refl _ _) _
  have hx : Box (Ext w (((w.alloc (.cells #[.int .u32 (k1 : Nat), .int .i64 (n1 : Nat)] 65)).alloc (.cells #[.int .u32 (k2 : Nat), .int .i64 (n2 : Nat)] 65)))) := ⟨Ext.trans' (x1 _ _) (x1 _ _)⟩
  have c3 : Box (∀ b w, w.cell? ⟨b, 0, none⟩ = some (.int .i64 x) → w.cell? ⟨b, 1, none⟩ = some (.int .i64 y) → Calls Try.prog 45 #[.slice (some ⟨b, 0, none⟩) 2 2] w fun e w' => e = .returned (.int .i64 r) ∧ w = w') := ⟨fun b w h0 h1 => by
    rw [hd.out]
    exact orI b x y w h0 h1⟩
  have m0 := newblk w (.cells #[.int .u32 (k1 : Nat), .int .i64 (n1 : Nat)] 65)
  have m1 := newblk (w.alloc (.cells #[.int .u32 (k1 : Nat), .int .i64 (n1 : Nat)] 65)) (.cells #[.int .u32 (k2 : Nat), .int .i64 (n2 : Nat)] 65)
  rw [World.size_alloc] at m1
  have m0' := Ext.blk (x1 _ (.cells #[.int .u32 (k2 : Nat), .int .i64 (n2 : Nat)] 65)) m0
  go_enter Try.func35, Try.ntmps35
  go_wp2_with (fail)
  have hsz : ((w.alloc (.cells #[.int .u32 (k1 : Nat), .int .i64 (n1 : Nat)] 65)).alloc (.cells #[.int .u32 (k2 : Nat), .int .i64 (n2 : Nat)] 65)).heap.size = w.heap.size + 2 := by simp
  generalize (w.alloc (.cells #[.int .u32 (k1 : Nat), .int .i64 (n1 : Nat)] 65)).alloc (.cells #[.int .u32 (k2 : Nat), .int .i64 (n2 : Nat)] 65) = W at *
  have q0 : W.cell? ⟨w.heap.size, 0, none⟩ = some (.int .u32 (k1 : Nat)) := by rw [Lib.cell_of_heap m0']; rfl
  have q1 : W.cell? ⟨w.heap.size, 1, none⟩ = some (.int .i64 (n1 : Nat)) := by rw [Lib.cell_of_heap m0']; rfl
  have q2 : W.cell? ⟨w.heap.size + 1, 0, none⟩ = some (.int .u32 (k2 : Nat)) := by rw [Lib.cell_of_heap m1]; rfl
  have q3 : W.cell? ⟨w.heap.size + 1, 1, none⟩ = some (.int .i64 (n2 : Nat)) := by rw [Lib.cell_of_heap m1]; rfl
  clear m0 m1 m0' hsz
  go_region_held3 (fun w' => w'.cell? ⟨w.heap.size, 0, none⟩ = some (.int .u32 (k1 : Nat)) ∧ w'.cell? ⟨w.heap.size, 1, none⟩ = some (.int .i64 (n1 : Nat)) ∧ w'.cell? ⟨w.heap.size + 1, 0, none⟩ = some (.int .u32 (k2 : Nat)) ∧ w'.cell? ⟨w.heap.size + 1, 1, none⟩ = some (.int .i64 (n2 : Nat)))
    (first
      | (with_reducible exact ⟨q0, q1, q2, q3⟩)
      | go_keep)
    (first
      | (go_at_call 46; (with_reducible refine (c1.out _).mono ?_); rintro e w' ⟨rfl, rfl⟩)
      | (go_at_call 47; (with_reducible refine (c2.out _).mono ?_); rintro e w' ⟨rfl, rfl⟩)
      | (go_at_call 45; (with_reducible refine (c3.out _ _ (drew_new0 _ _ _ _) (drew_new1 _ _ _ _)).mono ?_); rintro e w' ⟨rfl, rfl⟩))
  go_wp2
  go_ret
  exact ⟨rfl, Ext.drew1 (Ext.alloc hx.out _)⟩
end Go.Proofs.Ytbhfpofcebepiaa
