import Derived.Test.YtbnmnkmjokcmfaaDoorS11
import Derived.Deep.RegionHeld3
import Derived.Deep.CutRange
/- season's law: known. -/
namespace Go.Proofs.YtbnmnkmjokcmfaaDoor
open Go.RowKit
set_option maxRecDepth 100000 in
set_option maxHeartbeats 20000000 in
theorem known_any (w : World) (hw : EnvS w) : Calls Tryd.prog 8 #[] w fun e w' => e = .returned (.bool true) ∧ Ext w w' := by
  have cR : Box (∀ (a b c d : Int) (w : World), _) := ⟨fun a b c d w => real_any a b c d w⟩
  have cT : Box (∀ w : World, _) := ⟨fun w => k_tr w⟩
  have cI : Box (∀ w : World, _) := ⟨fun w => k_in w⟩
  have cI2 : Box (∀ w : World, _) := ⟨fun w => k_in2 w⟩
  have cP : Box (∀ w : World, _) := ⟨fun w => k_pr w⟩
  have t1 : Box (∀ w' : World, Ext w w' → _) := ⟨fun w' h => k_t1 w' (hw.ext h).tabs⟩
  have t2 : Box (∀ w' : World, Ext w w' → _) := ⟨fun w' h => k_t2 w' (hw.ext h).tabs⟩
  have p1 : Box (∀ w' : World, Ext w w' → _) := ⟨fun w' h => k_p1 w' (hw.ext h)⟩
  have p2 : Box (∀ w' : World, Ext w w' → _) := ⟨fun w' h => k_p2 w' (hw.ext h)⟩
  have p3 : Box (∀ w' : World, Ext w w' → _) := ⟨fun w' h => k_p3 w' (hw.ext h)⟩
  have cN : Box (∀ w : World, Calls Tryd.prog 22 #[.int .i64 10] w fun e w' => ∃ C, e = .returned (.tuple #[.pointer (some ⟨C, 0, none⟩), .int .i64 0]) ∧ w.heap.size ≤ C ∧ Ctr w' C 10 z0 ∧ Ext w w') := ⟨fun w => (cnew_ok 10 w (by decide) (by decide)).mono fun e w' ⟨h1, h2, h3⟩ => ⟨_, h1, Nat.le_refl _, h2, h3⟩⟩
  have u1 : Box (∀ (w : World) (C : Nat), Ctr w C 10 z0 → Calls Tryd.prog 24 #[.pointer (some ⟨C, 0, none⟩), .int .u64 5, .int .i64 3] w fun e w' => e = .returned (.int .i64 0) ∧ Ctr w' C 10 (l4 3 0 0 0) ∧ Tch C w w') := ⟨fun w C h => k_use w C 5 3 z0 (l4 3 0 0 0) h (by decide) (by decide) (all4 (by decide) (by decide) (by decide) (by decide))⟩
  have u2 : Box (∀ (w : World) (C : Nat), Ctr w C 10 (l4 3 0 0 0) → Calls Tryd.prog 24 #[.pointer (some ⟨C, 0, none⟩), .int .u64 15, .int .i64 1] w fun e w' => e = .returned (.int .i64 0) ∧ Ctr w' C 10 (l4 3 1 0 0) ∧ Tch C w w') := ⟨fun w C h => k_use w C 15 1 (l4 3 0 0 0) (l4 3 1 0 0) h (by decide) (by decide) (all4 (by decide) (by decide) (by decide) (by decide))⟩
  have u3 : Box (∀ (w : World) (C : Nat), Ctr w C 10 (l4 3 1 0 0) → Calls Tryd.prog 24 #[.pointer (some ⟨C, 0, none⟩), .int .u64 25, .int .i64 3] w fun e w' => e = .returned (.int .i64 0) ∧ Ctr w' C 10 (l4 3 1 3 0) ∧ Tch C w w') := ⟨fun w C h => k_use w C 25 3 (l4 3 1 0 0) (l4 3 1 3 0) h (by decide) (by decide) (all4 (by decide) (by decide) (by decide) (by decide))⟩
  have u4 : Box (∀ (w : World) (C : Nat), Ctr w C 10 (l4 3 1 3 0) → Calls Tryd.prog 24 #[.pointer (some ⟨C, 0, none⟩), .int .u64 79, .int .i64 1] w fun e w' => e = .returned (.int .i64 0) ∧ Ctr w' C 10 (l4 3 1 3 1) ∧ Tch C w w') := ⟨fun w C h => k_use w C 79 1 (l4 3 1 3 0) (l4 3 1 3 1) h (by decide) (by decide) (all4 (by decide) (by decide) (by decide) (by decide))⟩
  have cC : Box (∀ (w : World) (C : Nat), Ctr w C 10 (l4 3 1 3 1) → Calls Tryd.prog 27 #[.pointer (some ⟨C, 0, none⟩)] w fun e w' => e = .returned (.agg #[.int .i64 3, .int .i64 1, .int .i64 3, .int .i64 1]) ∧ Ext w w') := ⟨fun w C h => counts_any w C 10 _ h⟩
  have cS : Box (∀ (w : World) (C : Nat), Ctr w C 10 (l4 3 1 3 1) → Calls Tryd.prog 33 #[.pointer (some ⟨C, 0, none⟩)] w fun e w' => e = .returned (.int .i64 2) ∧ Ext w w') := ⟨fun w C h => by
    have h9 := season_any w C 10 _ h
    rw [show kindS (tR (l4 3 1 3 1) z0) (tI (l4 3 1 3 1) z0) = 2 by decide] at h9
    exact h9⟩
  have cB : Box (∀ (w : World) (C : Nat), Ctr w C 10 (l4 3 1 3 1) → Calls Tryd.prog 31 #[.pointer (some ⟨C, 0, none⟩)] w fun e w' => e = .returned (.tuple #[.int .i64 0, .int .i64 0]) ∧ Ext w w') := ⟨fun w C h => by
    have h9 := best_any w C 10 _ h (by decide)
    rw [show bst (l4 3 1 3 1) 4 = 0 by decide] at h9
    exact h9⟩
  have cW : Box (∀ (w : World) (C : Nat), Ctr w C 10 (l4 3 1 3 1) → Calls Tryd.prog 30 #[.pointer (some ⟨C, 0, none⟩)] w fun e w' => e = .returned (.tuple #[.agg #[.int .i64 8, .int .i64 0, .int .i64 0, .int .i64 0, .int .i64 4, .int .i64 0, .int .i64 0, .int .i64 0], .int .i64 0]) ∧ Ext w w') := ⟨fun w C h => by
    have h9 := wave_any w C 10 _ h
    have e : (.agg #[.int .i64 (tR (l4 3 1 3 1) z0 0), .int .i64 (tI (l4 3 1 3 1) z0 0), .int .i64 (tR (l4 3 1 3 1) z0 1), .int .i64 (tI (l4 3 1 3 1) z0 1), .int .i64 (tR (l4 3 1 3 1) z0 2), .int .i64 (tI (l4 3 1 3 1) z0 2), .int .i64 (tR (l4 3 1 3 1) z0 3), .int .i64 (tI (l4 3 1 3 1) z0 3)] : Value) = .agg #[.int .i64 8, .int .i64 0, .int .i64 0, .int .i64 0, .int .i64 4, .int .i64 0, .int .i64 0, .int .i64 0] := by kernel_rfl
    rw [e] at h9
    exact h9⟩
  have s1 : Box (∀ (w : World) (C : Nat), Ctr w C 10 (l4 3 1 3 1) → Calls Tryd.prog 35 #[.pointer (some ⟨C, 0, none⟩), .int .u64 0, .int .i64 3, .int .i64 8] w fun e w' => e = .returned (.bool true) ∧ Ext w w') := ⟨fun w C h => shares_any w C 10 0 8 3 _ h (by decide) (by decide) (by decide) (by decide) 3 8 (by decide) (by decide)⟩
  have s2 : Box (∀ (w : World) (C : Nat), Ctr w C 10 (l4 3 1 3 1) → Calls Tryd.prog 35 #[.pointer (some ⟨C, 0, none⟩), .int .u64 35, .int .i64 1, .int .i64 8] w fun e w' => e = .returned (.bool true) ∧ Ext w w') := ⟨fun w C h => shares_any w C 10 35 8 1 _ h (by decide) (by decide) (by decide) (by decide) 1 8 (by decide) (by decide)⟩
  have q1 : ∀ w : World, (Op.equalIn 10000 29 (.agg #[.int .i64 10, .int .i64 0, .int .i64 (-2), .int .i64 2, .int .i64 (-2), .int .i64 0, .int .i64 (-2), .int .i64 (-2)]) (.agg #[.int .i64 10, .int .i64 0, .int .i64 (-2), .int .i64 2, .int .i64 (-2), .int .i64 0, .int .i64 (-2), .int .i64 (-2)])).run Tryd.prog w = .ok true w := fun w => eqA (l4 10 (-2) (-2) (-2)) (l4 0 2 0 (-2)) w
  have q2 : ∀ w : World, (Op.equalIn 10000 29 (.agg #[.int .i64 1, .int .i64 0, .int .i64 2, .int .i64 0, .int .i64 3, .int .i64 0, .int .i64 4, .int .i64 0]) (.agg #[.int .i64 1, .int .i64 0, .int .i64 2, .int .i64 0, .int .i64 3, .int .i64 0, .int .i64 4, .int .i64 0])).run Tryd.prog w = .ok true w := fun w => eqA (l4 1 2 3 4) z0 w
  have q3 : ∀ w : World, (Op.equalIn 10000 29 (.agg #[.int .i64 8, .int .i64 0, .int .i64 5, .int .i64 0, .int .i64 6, .int .i64 0, .int .i64 7, .int .i64 0]) (.agg #[.int .i64 8, .int .i64 0, .int .i64 5, .int .i64 0, .int .i64 6, .int .i64 0, .int .i64 7, .int .i64 0])).run Tryd.prog w = .ok true w := fun w => eqA (l4 8 5 6 7) z0 w
  have q4 : ∀ w : World, (Op.equalIn 10000 29 (.agg #[.int .i64 8, .int .i64 0, .int .i64 0, .int .i64 0, .int .i64 4, .int .i64 0, .int .i64 0, .int .i64 0]) (.agg #[.int .i64 8, .int .i64 0, .int .i64 0, .int .i64 0, .int .i64 4, .int .i64 0, .int .i64 0, .int .i64 0])).run Tryd.prog w = .ok true w := fun w => eqA (l4 8 0 4 0) z0 w
  have q5 : ∀ w : World, (Op.equalIn 10000 23 (.agg #[.int .i64 4, .int .i64 0]) (.agg #[.int .i64 4, .int .i64 0])).run Tryd.prog w = .ok true w := fun w => eqG 4 0 w
  have q6 : ∀ w : World, (Op.equalIn 10000 50 (.agg #[.int .i64 3, .int .i64 1, .int .i64 3, .int .i64 1]) (.agg #[.int .i64 3, .int .i64 1, .int .i64 3, .int .i64 1])).run Tryd.prog w = .ok true w := fun w => eqI 3 1 3 1 w
  have ge1 := g4_type.2
  have ge2 := g_struct.2.2
  have ge3 := i4_type.2
  have hx : Ext w w := Below.refl _ _
  clear hw
  go_enter Tryd.func8, Tryd.ntmps8
  go_upto_region 6 with (first
    | (go_at_call 34; (with_reducible refine (cR.out _ _ _ _ _).mono ?_); rintro e w0 ⟨rfl, hb⟩; have hx := Ext.trans' hx hb; (try have hT := Ext.blk hb hT); (try have hW := Ext.blk hb hW); (try have hY := Ext.blk hb hY); (try have hP := Ext.blk hb hP))
    | (go_at_call 13; (with_reducible refine (cT.out _).mono ?_); rintro e w1 ⟨rfl, hb⟩; have hx := Ext.trans' hx hb; (try have hT := Ext.blk hb hT); (try have hW := Ext.blk hb hW); (try have hY := Ext.blk hb hY); (try have hP := Ext.blk hb hP); have hb := Ext.alloc (Below.refl _ w1) (.cells #[.int .i64 10, .int .i64 0, .int .i64 (-2), .int .i64 2, .int .i64 (-2), .int .i64 0, .int .i64 (-2), .int .i64 (-2)] 29); have hx := Ext.trans' hx hb; (try have hT := Ext.blk hb hT); (try have hW := Ext.blk hb hW); (try have hY := Ext.blk hb hY); (try have hP := Ext.blk hb hP); have hT := newblk w1 (.cells #[.int .i64 10, .int .i64 0, .int .i64 (-2), .int .i64 2, .int .i64 (-2), .int .i64 0, .int .i64 (-2), .int .i64 (-2)] 29); have hb := Ext.alloc (Below.refl _ (w1.alloc (.cells #[.int .i64 10, .int .i64 0, .int .i64 (-2), .int .i64 2, .int .i64 (-2), .int .i64 0, .int .i64 (-2), .int .i64 (-2)] 29))) (.cells #[.int .i64 10, .int .i64 0, .int .i64 (-2), .int .i64 2, .int .i64 (-2), .int .i64 0, .int .i64 (-2), .int .i64 (-2)] 29); have hx := Ext.trans' hx hb; have hT := Ext.blk hb hT; have hW := newblk (w1.alloc (.cells #[.int .i64 10, .int .i64 0, .int .i64 (-2), .int .i64 2, .int .i64 (-2), .int .i64 0, .int .i64 (-2), .int .i64 (-2)] 29)) (.cells #[.int .i64 10, .int .i64 0, .int .i64 (-2), .int .i64 2, .int .i64 (-2), .int .i64 0, .int .i64 (-2), .int .i64 (-2)] 29); rw [show (w1.alloc (.cells #[.int .i64 10, .int .i64 0, .int .i64 (-2), .int .i64 2, .int .i64 (-2), .int .i64 0, .int .i64 (-2), .int .i64 (-2)] 29)).heap.size = w1.heap.size + 1 by simp] at hW)
    | (go_at_call 14; (with_reducible refine (cI.out _).mono ?_); rintro e w2 ⟨rfl, hb⟩; have hx := Ext.trans' hx hb; (try have hT := Ext.blk hb hT); (try have hW := Ext.blk hb hW); (try have hY := Ext.blk hb hY); (try have hP := Ext.blk hb hP); have hb := Ext.alloc (Below.refl _ w2) (.cells #[.int .i64 1, .int .i64 0, .int .i64 2, .int .i64 0, .int .i64 3, .int .i64 0, .int .i64 4, .int .i64 0] 29); have hx := Ext.trans' hx hb; (try have hT := Ext.blk hb hT); (try have hW := Ext.blk hb hW); (try have hY := Ext.blk hb hY); (try have hP := Ext.blk hb hP); have hY := newblk w2 (.cells #[.int .i64 1, .int .i64 0, .int .i64 2, .int .i64 0, .int .i64 3, .int .i64 0, .int .i64 4, .int .i64 0] 29))
    | (go_at_call 14; (with_reducible refine (cI2.out _).mono ?_); rintro e w3 ⟨rfl, hb⟩; have hx := Ext.trans' hx hb; (try have hT := Ext.blk hb hT); (try have hW := Ext.blk hb hW); (try have hY := Ext.blk hb hY); (try have hP := Ext.blk hb hP); have hb := Ext.alloc (Below.refl _ w3) (.cells #[.int .i64 0, .int .i64 0, .int .i64 0, .int .i64 0, .int .i64 0, .int .i64 0, .int .i64 0, .int .i64 0] 29); have hx := Ext.trans' hx hb; (try have hT := Ext.blk hb hT); (try have hW := Ext.blk hb hW); (try have hY := Ext.blk hb hY); (try have hP := Ext.blk hb hP); have hZ := newblk w3 (.cells #[.int .i64 0, .int .i64 0, .int .i64 0, .int .i64 0, .int .i64 0, .int .i64 0, .int .i64 0, .int .i64 0] 29))
    | (go_at_call 15; (with_reducible refine (cP.out _).mono ?_); rintro e w4 ⟨rfl, hb⟩; have hx := Ext.trans' hx hb; (try have hT := Ext.blk hb hT); (try have hW := Ext.blk hb hW); (try have hY := Ext.blk hb hY); (try have hP := Ext.blk hb hP); have hb := Ext.alloc (Below.refl _ w4) (.cells #[.int .i64 8, .int .i64 0, .int .i64 5, .int .i64 0, .int .i64 6, .int .i64 0, .int .i64 7, .int .i64 0] 29); have hx := Ext.trans' hx hb; (try have hT := Ext.blk hb hT); (try have hW := Ext.blk hb hW); (try have hY := Ext.blk hb hY); (try have hP := Ext.blk hb hP); have hP := newblk w4 (.cells #[.int .i64 8, .int .i64 0, .int .i64 5, .int .i64 0, .int .i64 6, .int .i64 0, .int .i64 7, .int .i64 0] 29)))
  obtain ⟨⟨a0, a1, a2, a3, a4, a5, a6, a7⟩, -⟩ := cx8 hT; obtain ⟨⟨b0, b1, b2, b3, b4, b5, b6, b7⟩, -⟩ := cx8 hW; obtain ⟨⟨c0, c1, c2, c3, c4, c5, c6, c7⟩, -⟩ := cx8 hY; obtain ⟨⟨d0, d1, d2, d3, d4, d5, d6, d7⟩, -⟩ := cx8 hP
  have hx := Ext.drew1 hx
  have hT := Ext.blk (Ext.drew1 (Below.refl _ _)) hT; have hW := Ext.blk (Ext.drew1 (Below.refl _ _)) hW; have hY := Ext.blk (Ext.drew1 (Below.refl _ _)) hY; have hP := Ext.blk (Ext.drew1 (Below.refl _ _)) hP
  refine wp_region_held_drew (S := (fun w' => w'.cell? ⟨w1.heap.size, 0, none⟩ = some (.int .i64 10) ∧ w'.cell? ⟨w1.heap.size, 1, none⟩ = some (.int .i64 0) ∧ w'.cell? ⟨w1.heap.size, 2, none⟩ = some (.int .i64 (-2)) ∧ w'.cell? ⟨w1.heap.size, 3, none⟩ = some (.int .i64 2) ∧ w'.cell? ⟨w1.heap.size, 4, none⟩ = some (.int .i64 (-2)) ∧ w'.cell? ⟨w1.heap.size, 5, none⟩ = some (.int .i64 0) ∧ w'.cell? ⟨w1.heap.size, 6, none⟩ = some (.int .i64 (-2)) ∧ w'.cell? ⟨w1.heap.size, 7, none⟩ = some (.int .i64 (-2)) ∧ w'.cell? ⟨w1.heap.size + 1, 0, none⟩ = some (.int .i64 10) ∧ w'.cell? ⟨w1.heap.size + 1, 1, none⟩ = some (.int .i64 0) ∧ w'.cell? ⟨w1.heap.size + 1, 2, none⟩ = some (.int .i64 (-2)) ∧ w'.cell? ⟨w1.heap.size + 1, 3, none⟩ = some (.int .i64 2) ∧ w'.cell? ⟨w1.heap.size + 1, 4, none⟩ = some (.int .i64 (-2)) ∧ w'.cell? ⟨w1.heap.size + 1, 5, none⟩ = some (.int .i64 0) ∧ w'.cell? ⟨w1.heap.size + 1, 6, none⟩ = some (.int .i64 (-2)) ∧ w'.cell? ⟨w1.heap.size + 1, 7, none⟩ = some (.int .i64 (-2)) ∧ w'.cell? ⟨w2.heap.size, 0, none⟩ = some (.int .i64 1) ∧ w'.cell? ⟨w2.heap.size, 1, none⟩ = some (.int .i64 0) ∧ w'.cell? ⟨w2.heap.size, 2, none⟩ = some (.int .i64 2) ∧ w'.cell? ⟨w2.heap.size, 3, none⟩ = some (.int .i64 0) ∧ w'.cell? ⟨w2.heap.size, 4, none⟩ = some (.int .i64 3) ∧ w'.cell? ⟨w2.heap.size, 5, none⟩ = some (.int .i64 0) ∧ w'.cell? ⟨w2.heap.size, 6, none⟩ = some (.int .i64 4) ∧ w'.cell? ⟨w2.heap.size, 7, none⟩ = some (.int .i64 0) ∧ w'.cell? ⟨w4.heap.size, 0, none⟩ = some (.int .i64 8) ∧ w'.cell? ⟨w4.heap.size, 1, none⟩ = some (.int .i64 0) ∧ w'.cell? ⟨w4.heap.size, 2, none⟩ = some (.int .i64 5) ∧ w'.cell? ⟨w4.heap.size, 3, none⟩ = some (.int .i64 0) ∧ w'.cell? ⟨w4.heap.size, 4, none⟩ = some (.int .i64 6) ∧ w'.cell? ⟨w4.heap.size, 5, none⟩ = some (.int .i64 0) ∧ w'.cell? ⟨w4.heap.size, 6, none⟩ = some (.int .i64 7) ∧ w'.cell? ⟨w4.heap.size, 7, none⟩ = some (.int .i64 0))) (by kernel_rfl) ?_ (fun hHeld => ?_)
  · (try dsimp only); (exact ⟨a0, a1, a2, a3, a4, a5, a6, a7, b0, b1, b2, b3, b4, b5, b6, b7, c0, c1, c2, c3, c4, c5, c6, c7, d0, d1, d2, d3, d4, d5, d6, d7⟩)
  refine takeD (i := 0) (d := (some 44)) (v := ?_) rfl (by kernel_rfl) (by kernel_rfl) (by kernel_rfl) (by kernel_rfl) (fun _ _ _ h => h) (Or.inl ⟨by kernel_rfl, ?rgy⟩) (by assumption) ?rgn
  case rgy => (intro w hSw; (try dsimp only at hSw); go_simp; (try with_reducible rfl))
  case rgn =>
    (try simp only [Act.put, List.setIfInBounds_toArray, List.set_cons_zero, List.set_cons_succ])
    refine takeD (i := 1) (d := (some 45)) (v := ?_) rfl (by kernel_rfl) (by kernel_rfl) (by kernel_rfl) (by kernel_rfl) (fun _ _ _ h => h) (Or.inl ⟨by kernel_rfl, ?rgy⟩) (by assumption) ?rgn
    case rgy => (intro w hSw; (try dsimp only at hSw); go_simp; (try with_reducible rfl))
    case rgn =>
      (try simp only [Act.put, List.setIfInBounds_toArray, List.set_cons_zero, List.set_cons_succ])
      refine takeD (i := 2) (d := (some 46)) (v := ?_) rfl (by kernel_rfl) (by kernel_rfl) (by kernel_rfl) (by kernel_rfl) (fun _ _ _ h => h) (Or.inl ⟨by kernel_rfl, ?rgy⟩) (by assumption) ?rgn
      case rgy => (intro w hSw; (try dsimp only at hSw); go_simp; (try with_reducible rfl))
      case rgn =>
        (try simp only [Act.put, List.setIfInBounds_toArray, List.set_cons_zero, List.set_cons_succ])
        refine takeD (i := 3) (d := (some 47)) (v := ?_) rfl (by kernel_rfl) (by kernel_rfl) (by kernel_rfl) (by kernel_rfl) (fun _ _ _ h => h) (Or.inl ⟨by kernel_rfl, ?rgy⟩) (by assumption) ?rgn
        case rgy => (intro w hSw; (try dsimp only at hSw); go_simp; (try with_reducible rfl))
        case rgn =>
          (try simp only [Act.put, List.setIfInBounds_toArray, List.set_cons_zero, List.set_cons_succ])
          refine takeD (i := 4) (d := (some 48)) (v := ?_) rfl (by kernel_rfl) (by kernel_rfl) (by kernel_rfl) (by kernel_rfl) (fun _ _ _ h => h) (Or.inl ⟨by kernel_rfl, ?rgy⟩) (by assumption) ?rgn
          case rgy => (intro w hSw; (try dsimp only at hSw); go_simp; (try with_reducible rfl))
          case rgn =>
            (try simp only [Act.put, List.setIfInBounds_toArray, List.set_cons_zero, List.set_cons_succ])
            refine takeD (i := 5) (d := (some 49)) (v := ?_) rfl (by kernel_rfl) (by kernel_rfl) (by kernel_rfl) (by kernel_rfl) (fun _ _ _ h => h) (Or.inl ⟨by kernel_rfl, ?rgy⟩) (by assumption) ?rgn
            case rgy => (intro w hSw; (try dsimp only at hSw); go_simp; (try with_reducible rfl))
            case rgn =>
              (try simp only [Act.put, List.setIfInBounds_toArray, List.set_cons_zero, List.set_cons_succ])
              refine takeD (i := 6) (d := (some 50)) (v := ?_) rfl (by kernel_rfl) (by kernel_rfl) (by kernel_rfl) (by kernel_rfl) (fun _ _ _ h => h) (Or.inl ⟨by kernel_rfl, ?rgy⟩) (by assumption) ?rgn
              case rgy => (intro w hSw; (try dsimp only at hSw); go_simp; (try with_reducible rfl))
              case rgn =>
                (try simp only [Act.put, List.setIfInBounds_toArray, List.set_cons_zero, List.set_cons_succ])
                refine takeD (i := 7) (d := (some 51)) (v := ?_) rfl (by kernel_rfl) (by kernel_rfl) (by kernel_rfl) (by kernel_rfl) (fun _ _ _ h => h) (Or.inl ⟨by kernel_rfl, ?rgy⟩) (by assumption) ?rgn
                case rgy => (intro w hSw; (try dsimp only at hSw); go_simp; (try with_reducible rfl))
                case rgn =>
                  (try simp only [Act.put, List.setIfInBounds_toArray, List.set_cons_zero, List.set_cons_succ])
                  refine takeD (i := 8) (d := (some 52)) (v := ?_) rfl (by kernel_rfl) (by kernel_rfl) (by kernel_rfl) (by kernel_rfl) (fun _ _ _ h => h) (Or.inl ⟨by kernel_rfl, ?rgy⟩) (by assumption) ?rgn
                  case rgy => (intro w hSw; (try dsimp only at hSw); go_simp; (try with_reducible rfl))
                  case rgn =>
                    (try simp only [Act.put, List.setIfInBounds_toArray, List.set_cons_zero, List.set_cons_succ])
                    refine wpAnyH_ready (rs := [9]) (by kernel_rfl) (by simp) ?_
                    refine AllReadyH.cons rfl (fun K hK => ?_) AllReadyH.nil
                    go_simp
                    (go_at_call 34; (with_reducible refine (cR.out _ _ _ _ _).mono ?_); rintro e w5 ⟨rfl, hb⟩; have hx := Ext.trans' hx hb; have hT := Ext.blk hb hT; have hW := Ext.blk hb hW; have hY := Ext.blk hb hY; have hP := Ext.blk hb hP; (try clear a0 a1 a2 a3 a4 a5 a6 a7 b0 b1 b2 b3 b4 b5 b6 b7 c0 c1 c2 c3 c4 c5 c6 c7 d0 d1 d2 d3 d4 d5 d6 d7); obtain ⟨⟨a0, a1, a2, a3, a4, a5, a6, a7⟩, -⟩ := cx8 hT; obtain ⟨⟨b0, b1, b2, b3, b4, b5, b6, b7⟩, -⟩ := cx8 hW; obtain ⟨⟨c0, c1, c2, c3, c4, c5, c6, c7⟩, -⟩ := cx8 hY; obtain ⟨⟨d0, d1, d2, d3, d4, d5, d6, d7⟩, -⟩ := cx8 hP)
                    (try go_wp2_with fail)
                    refine hK.out _ _ ?_ (fun hHeld => ?_)
                    · (try dsimp only); (exact ⟨a0, a1, a2, a3, a4, a5, a6, a7, b0, b1, b2, b3, b4, b5, b6, b7, c0, c1, c2, c3, c4, c5, c6, c7, d0, d1, d2, d3, d4, d5, d6, d7⟩)
                    clear hK K
                    (try simp only [Act.put, List.setIfInBounds_toArray, List.set_cons_zero, List.set_cons_succ])
                    refine takeD (i := 10) (d := (some 54)) (v := ?_) rfl (by kernel_rfl) (by kernel_rfl) (by kernel_rfl) (by kernel_rfl) (fun _ _ _ h => h) (Or.inl ⟨by kernel_rfl, ?rgy⟩) (by assumption) ?rgn
                    case rgy => (intro w hSw; (try dsimp only at hSw); go_simp; (try with_reducible rfl))
                    case rgn =>
                      (try simp only [Act.put, List.setIfInBounds_toArray, List.set_cons_zero, List.set_cons_succ])
                      refine takeD (i := 11) (d := (some 55)) (v := ?_) rfl (by kernel_rfl) (by kernel_rfl) (by kernel_rfl) (by kernel_rfl) (fun _ _ _ h => h) (Or.inl ⟨by kernel_rfl, ?rgy⟩) (by assumption) ?rgn
                      case rgy => (intro w hSw; (try dsimp only at hSw); go_simp; (try with_reducible rfl))
                      case rgn =>
                        (try simp only [Act.put, List.setIfInBounds_toArray, List.set_cons_zero, List.set_cons_succ])
                        refine takeD (i := 12) (d := (some 56)) (v := ?_) rfl (by kernel_rfl) (by kernel_rfl) (by kernel_rfl) (by kernel_rfl) (fun _ _ _ h => h) (Or.inl ⟨by kernel_rfl, ?rgy⟩) (by assumption) ?rgn
                        case rgy => (intro w hSw; (try dsimp only at hSw); go_simp; (try with_reducible rfl))
                        case rgn =>
                          (try simp only [Act.put, List.setIfInBounds_toArray, List.set_cons_zero, List.set_cons_succ])
                          refine takeD (i := 13) (d := (some 57)) (v := ?_) rfl (by kernel_rfl) (by kernel_rfl) (by kernel_rfl) (by kernel_rfl) (fun _ _ _ h => h) (Or.inl ⟨by kernel_rfl, ?rgy⟩) (by assumption) ?rgn
                          case rgy => (intro w hSw; (try dsimp only at hSw); go_simp; (try with_reducible rfl))
                          case rgn =>
                            (try simp only [Act.put, List.setIfInBounds_toArray, List.set_cons_zero, List.set_cons_succ])
                            refine takeD (i := 14) (d := (some 58)) (v := ?_) rfl (by kernel_rfl) (by kernel_rfl) (by kernel_rfl) (by kernel_rfl) (fun _ _ _ h => h) (Or.inl ⟨by kernel_rfl, ?rgy⟩) (by assumption) ?rgn
                            case rgy => (intro w hSw; (try dsimp only at hSw); go_simp; (try with_reducible rfl))
                            case rgn =>
                              (try simp only [Act.put, List.setIfInBounds_toArray, List.set_cons_zero, List.set_cons_succ])
                              refine takeD (i := 15) (d := (some 59)) (v := ?_) rfl (by kernel_rfl) (by kernel_rfl) (by kernel_rfl) (by kernel_rfl) (fun _ _ _ h => h) (Or.inl ⟨by kernel_rfl, ?rgy⟩) (by assumption) ?rgn
                              case rgy => (intro w hSw; (try dsimp only at hSw); go_simp; (try with_reducible rfl))
                              case rgn =>
                                (try simp only [Act.put, List.setIfInBounds_toArray, List.set_cons_zero, List.set_cons_succ])
                                refine takeD (i := 16) (d := (some 60)) (v := ?_) rfl (by kernel_rfl) (by kernel_rfl) (by kernel_rfl) (by kernel_rfl) (fun _ _ _ h => h) (Or.inl ⟨by kernel_rfl, ?rgy⟩) (by assumption) ?rgn
                                case rgy => (intro w hSw; (try dsimp only at hSw); go_simp; (try with_reducible rfl))
                                case rgn =>
                                  (try simp only [Act.put, List.setIfInBounds_toArray, List.set_cons_zero, List.set_cons_succ])
                                  refine takeD (i := 17) (d := (some 61)) (v := ?_) rfl (by kernel_rfl) (by kernel_rfl) (by kernel_rfl) (by kernel_rfl) (fun _ _ _ h => h) (Or.inl ⟨by kernel_rfl, ?rgy⟩) (by assumption) ?rgn
                                  case rgy => (intro w hSw; (try dsimp only at hSw); go_simp; (try with_reducible rfl))
                                  case rgn =>
                                    (try simp only [Act.put, List.setIfInBounds_toArray, List.set_cons_zero, List.set_cons_succ])
                                    refine takeD (i := 18) (d := (some 62)) (v := ?_) rfl (by kernel_rfl) (by kernel_rfl) (by kernel_rfl) (by kernel_rfl) (fun _ _ _ h => h) (Or.inl ⟨by kernel_rfl, ?rgy⟩) (by assumption) ?rgn
                                    case rgy => (intro w hSw; (try dsimp only at hSw); go_simp; (try with_reducible rfl))
                                    case rgn =>
                                      (try simp only [Act.put, List.setIfInBounds_toArray, List.set_cons_zero, List.set_cons_succ])
                                      refine takeD (i := 19) (d := (some 63)) (v := ?_) rfl (by kernel_rfl) (by kernel_rfl) (by kernel_rfl) (by kernel_rfl) (fun _ _ _ h => h) (Or.inl ⟨by kernel_rfl, ?rgy⟩) (by assumption) ?rgn
                                      case rgy => (intro w hSw; (try dsimp only at hSw); go_simp; (try with_reducible rfl))
                                      case rgn =>
                                        (try simp only [Act.put, List.setIfInBounds_toArray, List.set_cons_zero, List.set_cons_succ])
                                        refine takeD (i := 20) (d := (some 64)) (v := ?_) rfl (by kernel_rfl) (by kernel_rfl) (by kernel_rfl) (by kernel_rfl) (fun _ _ _ h => h) (Or.inl ⟨by kernel_rfl, ?rgy⟩) (by assumption) ?rgn
                                        case rgy => (intro w hSw; (try dsimp only at hSw); go_simp; (try with_reducible rfl))
                                        case rgn =>
                                          (try simp only [Act.put, List.setIfInBounds_toArray, List.set_cons_zero, List.set_cons_succ])
                                          refine takeD (i := 21) (d := (some 65)) (v := ?_) rfl (by kernel_rfl) (by kernel_rfl) (by kernel_rfl) (by kernel_rfl) (fun _ _ _ h => h) (Or.inl ⟨by kernel_rfl, ?rgy⟩) (by assumption) ?rgn
                                          case rgy => (intro w hSw; (try dsimp only at hSw); go_simp; (try with_reducible rfl))
                                          case rgn =>
                                            (try simp only [Act.put, List.setIfInBounds_toArray, List.set_cons_zero, List.set_cons_succ])
                                            refine wpAnyH_ready (rs := [22]) (by kernel_rfl) (by simp) ?_
                                            refine AllReadyH.cons rfl (fun K hK => ?_) AllReadyH.nil
                                            go_simp
                                            (go_at_call 34; (with_reducible refine (cR.out _ _ _ _ _).mono ?_); rintro e w5 ⟨rfl, hb⟩; have hx := Ext.trans' hx hb; have hT := Ext.blk hb hT; have hW := Ext.blk hb hW; have hY := Ext.blk hb hY; have hP := Ext.blk hb hP; (try clear a0 a1 a2 a3 a4 a5 a6 a7 b0 b1 b2 b3 b4 b5 b6 b7 c0 c1 c2 c3 c4 c5 c6 c7 d0 d1 d2 d3 d4 d5 d6 d7); obtain ⟨⟨a0, a1, a2, a3, a4, a5, a6, a7⟩, -⟩ := cx8 hT; obtain ⟨⟨b0, b1, b2, b3, b4, b5, b6, b7⟩, -⟩ := cx8 hW; obtain ⟨⟨c0, c1, c2, c3, c4, c5, c6, c7⟩, -⟩ := cx8 hY; obtain ⟨⟨d0, d1, d2, d3, d4, d5, d6, d7⟩, -⟩ := cx8 hP)
                                            (try go_wp2_with fail)
                                            refine hK.out _ _ ?_ (fun hHeld => ?_)
                                            · (try dsimp only); (exact ⟨a0, a1, a2, a3, a4, a5, a6, a7, b0, b1, b2, b3, b4, b5, b6, b7, c0, c1, c2, c3, c4, c5, c6, c7, d0, d1, d2, d3, d4, d5, d6, d7⟩)
                                            clear hK K
                                            (try simp only [Act.put, List.setIfInBounds_toArray, List.set_cons_zero, List.set_cons_succ])
                                            refine takeD (i := 23) (d := (some 67)) (v := ?_) rfl (by kernel_rfl) (by kernel_rfl) (by kernel_rfl) (by kernel_rfl) (fun _ _ _ h => h) (Or.inl ⟨by kernel_rfl, ?rgy⟩) (by assumption) ?rgn
                                            case rgy => (intro w hSw; (try dsimp only at hSw); go_simp; (try with_reducible rfl))
                                            case rgn =>
                                              (try simp only [Act.put, List.setIfInBounds_toArray, List.set_cons_zero, List.set_cons_succ])
                                              refine takeD (i := 24) (d := (some 68)) (v := ?_) rfl (by kernel_rfl) (by kernel_rfl) (by kernel_rfl) (by kernel_rfl) (fun _ _ _ h => h) (Or.inl ⟨by kernel_rfl, ?rgy⟩) (by assumption) ?rgn
                                              case rgy => (intro w hSw; (try dsimp only at hSw); go_simp; (try with_reducible rfl))
                                              case rgn =>
                                                (try simp only [Act.put, List.setIfInBounds_toArray, List.set_cons_zero, List.set_cons_succ])
                                                refine takeD (i := 25) (d := (some 69)) (v := ?_) rfl (by kernel_rfl) (by kernel_rfl) (by kernel_rfl) (by kernel_rfl) (fun _ _ _ h => h) (Or.inl ⟨by kernel_rfl, ?rgy⟩) (by assumption) ?rgn
                                                case rgy => (intro w hSw; (try dsimp only at hSw); go_simp; (try with_reducible rfl))
                                                case rgn =>
                                                  (try simp only [Act.put, List.setIfInBounds_toArray, List.set_cons_zero, List.set_cons_succ])
                                                  refine takeD (i := 26) (d := (some 70)) (v := ?_) rfl (by kernel_rfl) (by kernel_rfl) (by kernel_rfl) (by kernel_rfl) (fun _ _ _ h => h) (Or.inl ⟨by kernel_rfl, ?rgy⟩) (by assumption) ?rgn
                                                  case rgy => (intro w hSw; (try dsimp only at hSw); go_simp; (try with_reducible rfl))
                                                  case rgn =>
                                                    (try simp only [Act.put, List.setIfInBounds_toArray, List.set_cons_zero, List.set_cons_succ])
                                                    refine takeD (i := 27) (d := (some 71)) (v := ?_) rfl (by kernel_rfl) (by kernel_rfl) (by kernel_rfl) (by kernel_rfl) (fun _ _ _ h => h) (Or.inl ⟨by kernel_rfl, ?rgy⟩) (by assumption) ?rgn
                                                    case rgy => (intro w hSw; (try dsimp only at hSw); go_simp; (try with_reducible rfl))
                                                    case rgn =>
                                                      (try simp only [Act.put, List.setIfInBounds_toArray, List.set_cons_zero, List.set_cons_succ])
                                                      refine takeD (i := 28) (d := (some 72)) (v := ?_) rfl (by kernel_rfl) (by kernel_rfl) (by kernel_rfl) (by kernel_rfl) (fun _ _ _ h => h) (Or.inl ⟨by kernel_rfl, ?rgy⟩) (by assumption) ?rgn
                                                      case rgy => (intro w hSw; (try dsimp only at hSw); go_simp; (try with_reducible rfl))
                                                      case rgn =>
                                                        (try simp only [Act.put, List.setIfInBounds_toArray, List.set_cons_zero, List.set_cons_succ])
                                                        refine wpAnyH_done (by kernel_rfl) ?_ _
                                                        (try clear a0 a1 a2 a3 a4 a5 a6 a7 b0 b1 b2 b3 b4 b5 b6 b7 c0 c1 c2 c3 c4 c5 c6 c7 d0 d1 d2 d3 d4 d5 d6 d7)
                                                        clear hT hW hY hP
                                                        go_upto_region 20 with (first
                                                          | (go_at_call 9; (with_reducible refine (t1.out _ hx).mono ?_); rintro e w6 ⟨rfl, hb⟩; have hx := Ext.trans' hx hb; skip)
                                                          | (go_at_call 9; (with_reducible refine (t2.out _ hx).mono ?_); rintro e w6 ⟨rfl, hb⟩; have hx := Ext.trans' hx hb; skip)
                                                          | (go_at_call 11; (with_reducible refine (p1.out _ hx).mono ?_); rintro e w7 ⟨rfl, hb⟩; have hx := Ext.trans' hx hb; skip; have hb := Ext.alloc (Below.refl _ w7) (.cells #[.int .i64 4, .int .i64 0] 23); have hx := Ext.trans' hx hb; have hA := newblk w7 (.cells #[.int .i64 4, .int .i64 0] 23); obtain ⟨⟨y0, y1⟩, _⟩ := gz hA)
                                                          | (go_at_call 11; (with_reducible refine (p2.out _ hx).mono ?_); rintro e w8 ⟨rfl, hb⟩; have hx := Ext.trans' hx hb; have hA := Ext.blk hb hA; (try clear y0 y1); obtain ⟨⟨y0, y1⟩, _⟩ := gz hA)
                                                          | (go_at_call 11; (with_reducible refine (p3.out _ hx).mono ?_); rintro e w9 ⟨rfl, hb⟩; have hx := Ext.trans' hx hb; have hA := Ext.blk hb hA; (try clear y0 y1); obtain ⟨⟨y0, y1⟩, _⟩ := gz hA; have hb := Ext.alloc (Below.refl _ w9) (.cells #[.int .i64 0, .int .i64 0] 23); have hx := Ext.trans' hx hb; have hA := Ext.blk hb hA; (try clear y0 y1); obtain ⟨⟨y0, y1⟩, _⟩ := gz hA)
                                                          | (go_at_call 22; (with_reducible refine (cN.out _).mono ?_); rintro e w10 ⟨C, rfl, hC0, hC, hb⟩; have hC0 := Nat.le_trans hx.size hC0; have hx := Ext.trans' hx hb; clear hA; (try clear y0 y1))
                                                          | (go_at_call 24; (with_reducible refine (u1.out _ _ hC).mono ?_); rintro e v1 ⟨rfl, hC, hU⟩; have hx := hU.ext _ hx hC0)
                                                          | (go_at_call 24; (with_reducible refine (u2.out _ _ hC).mono ?_); rintro e v2 ⟨rfl, hC, hU⟩; have hx := hU.ext _ hx hC0)
                                                          | (go_at_call 24; (with_reducible refine (u3.out _ _ hC).mono ?_); rintro e v3 ⟨rfl, hC, hU⟩; have hx := hU.ext _ hx hC0)
                                                          | (go_at_call 24; (with_reducible refine (u4.out _ _ hC).mono ?_); rintro e v4 ⟨rfl, hC, hU⟩; have hx := hU.ext _ hx hC0)
                                                          | (go_at_call 27; (with_reducible refine (cC.out _ _ hC).mono ?_); rintro e v5 ⟨rfl, hb⟩; have hx := Ext.trans' hx hb; have hC := hC.ext hb)
                                                          | (go_at_call 33; (with_reducible refine (cS.out _ _ hC).mono ?_); rintro e v6 ⟨rfl, hb⟩; have hx := Ext.trans' hx hb; have hC := hC.ext hb)
                                                          | (go_at_call 31; (with_reducible refine (cB.out _ _ hC).mono ?_); rintro e v7 ⟨rfl, hb⟩; have hx := Ext.trans' hx hb; have hC := hC.ext hb)
                                                          | (go_at_call 30; (with_reducible refine (cW.out _ _ hC).mono ?_); rintro e v8 ⟨rfl, hb⟩; have hx := Ext.trans' hx hb; have hC := hC.ext hb; have hb := Ext.alloc (Below.refl _ v8) (.cells #[.int .i64 8, .int .i64 0, .int .i64 0, .int .i64 0, .int .i64 4, .int .i64 0, .int .i64 0, .int .i64 0] 29); have hx := Ext.trans' hx hb; have hC := hC.ext hb; have hV := newblk v8 (.cells #[.int .i64 8, .int .i64 0, .int .i64 0, .int .i64 0, .int .i64 4, .int .i64 0, .int .i64 0, .int .i64 0] 29)))
                                                        obtain ⟨⟨a0, a1, a2, a3, a4, a5, a6, a7⟩, -⟩ := cx8 hV
                                                        have hx := Ext.drew1 hx
                                                        have hC := hC.ext (Ext.drew1 (Below.refl _ _)); have hV := Ext.blk (Ext.drew1 (Below.refl _ _)) hV
                                                        refine wp_region_held_drew (S := (fun w' => w'.cell? ⟨v8.heap.size, 0, none⟩ = some (.int .i64 8) ∧ w'.cell? ⟨v8.heap.size, 1, none⟩ = some (.int .i64 0) ∧ w'.cell? ⟨v8.heap.size, 2, none⟩ = some (.int .i64 0) ∧ w'.cell? ⟨v8.heap.size, 3, none⟩ = some (.int .i64 0) ∧ w'.cell? ⟨v8.heap.size, 4, none⟩ = some (.int .i64 4) ∧ w'.cell? ⟨v8.heap.size, 5, none⟩ = some (.int .i64 0) ∧ w'.cell? ⟨v8.heap.size, 6, none⟩ = some (.int .i64 0) ∧ w'.cell? ⟨v8.heap.size, 7, none⟩ = some (.int .i64 0))) (by kernel_rfl) ?_ (fun hHeld => ?_)
                                                        · (try dsimp only); (exact ⟨a0, a1, a2, a3, a4, a5, a6, a7⟩)
                                                        refine takeD (i := 0) (d := (some 177)) (v := ?_) rfl (by kernel_rfl) (by kernel_rfl) (by kernel_rfl) (by kernel_rfl) (fun _ _ _ h => h) (Or.inl ⟨by kernel_rfl, ?rgy⟩) (by assumption) ?rgn
                                                        case rgy => (intro w hSw; (try dsimp only at hSw); go_simp; (try with_reducible rfl))
                                                        case rgn =>
                                                          (try simp only [Act.put, List.setIfInBounds_toArray, List.set_cons_zero, List.set_cons_succ])
                                                          refine takeD (i := 1) (d := (some 178)) (v := ?_) rfl (by kernel_rfl) (by kernel_rfl) (by kernel_rfl) (by kernel_rfl) (fun _ _ _ h => h) (Or.inl ⟨by kernel_rfl, ?rgy⟩) (by assumption) ?rgn
                                                          case rgy => (intro w hSw; (try dsimp only at hSw); go_simp; (try with_reducible rfl))
                                                          case rgn =>
                                                            (try simp only [Act.put, List.setIfInBounds_toArray, List.set_cons_zero, List.set_cons_succ])
                                                            refine takeD (i := 2) (d := (some 179)) (v := ?_) rfl (by kernel_rfl) (by kernel_rfl) (by kernel_rfl) (by kernel_rfl) (fun _ _ _ h => h) (Or.inl ⟨by kernel_rfl, ?rgy⟩) (by assumption) ?rgn
                                                            case rgy => (intro w hSw; (try dsimp only at hSw); go_simp; (try with_reducible rfl))
                                                            case rgn =>
                                                              (try simp only [Act.put, List.setIfInBounds_toArray, List.set_cons_zero, List.set_cons_succ])
                                                              refine takeD (i := 3) (d := (some 180)) (v := ?_) rfl (by kernel_rfl) (by kernel_rfl) (by kernel_rfl) (by kernel_rfl) (fun _ _ _ h => h) (Or.inl ⟨by kernel_rfl, ?rgy⟩) (by assumption) ?rgn
                                                              case rgy => (intro w hSw; (try dsimp only at hSw); go_simp; (try with_reducible rfl))
                                                              case rgn =>
                                                                (try simp only [Act.put, List.setIfInBounds_toArray, List.set_cons_zero, List.set_cons_succ])
                                                                refine takeD (i := 4) (d := (some 181)) (v := ?_) rfl (by kernel_rfl) (by kernel_rfl) (by kernel_rfl) (by kernel_rfl) (fun _ _ _ h => h) (Or.inl ⟨by kernel_rfl, ?rgy⟩) (by assumption) ?rgn
                                                                case rgy => (intro w hSw; (try dsimp only at hSw); go_simp; (try with_reducible rfl))
                                                                case rgn =>
                                                                  (try simp only [Act.put, List.setIfInBounds_toArray, List.set_cons_zero, List.set_cons_succ])
                                                                  refine takeD (i := 5) (d := (some 182)) (v := ?_) rfl (by kernel_rfl) (by kernel_rfl) (by kernel_rfl) (by kernel_rfl) (fun _ _ _ h => h) (Or.inl ⟨by kernel_rfl, ?rgy⟩) (by assumption) ?rgn
                                                                  case rgy => (intro w hSw; (try dsimp only at hSw); go_simp; (try with_reducible rfl))
                                                                  case rgn =>
                                                                    (try simp only [Act.put, List.setIfInBounds_toArray, List.set_cons_zero, List.set_cons_succ])
                                                                    refine takeD (i := 6) (d := (some 183)) (v := ?_) rfl (by kernel_rfl) (by kernel_rfl) (by kernel_rfl) (by kernel_rfl) (fun _ _ _ h => h) (Or.inl ⟨by kernel_rfl, ?rgy⟩) (by assumption) ?rgn
                                                                    case rgy => (intro w hSw; (try dsimp only at hSw); go_simp; (try with_reducible rfl))
                                                                    case rgn =>
                                                                      (try simp only [Act.put, List.setIfInBounds_toArray, List.set_cons_zero, List.set_cons_succ])
                                                                      refine takeD (i := 7) (d := (some 184)) (v := ?_) rfl (by kernel_rfl) (by kernel_rfl) (by kernel_rfl) (by kernel_rfl) (fun _ _ _ h => h) (Or.inl ⟨by kernel_rfl, ?rgy⟩) (by assumption) ?rgn
                                                                      case rgy => (intro w hSw; (try dsimp only at hSw); go_simp; (try with_reducible rfl))
                                                                      case rgn =>
                                                                        (try simp only [Act.put, List.setIfInBounds_toArray, List.set_cons_zero, List.set_cons_succ])
                                                                        refine wpAnyH_ready (rs := [8]) (by kernel_rfl) (by simp) ?_
                                                                        refine AllReadyH.cons rfl (fun K hK => ?_) AllReadyH.nil
                                                                        go_simp
                                                                        (go_at_call 34; (with_reducible refine (cR.out _ _ _ _ _).mono ?_); rintro e x5 ⟨rfl, hb⟩; have hx := Ext.trans' hx hb; have hC := hC.ext hb; have hV := Ext.blk hb hV; (try clear a0 a1 a2 a3 a4 a5 a6 a7); obtain ⟨⟨a0, a1, a2, a3, a4, a5, a6, a7⟩, -⟩ := cx8 hV)
                                                                        (try go_wp2_with fail)
                                                                        refine hK.out _ _ ?_ (fun hHeld => ?_)
                                                                        · (try dsimp only); (exact ⟨a0, a1, a2, a3, a4, a5, a6, a7⟩)
                                                                        clear hK K
                                                                        (try simp only [Act.put, List.setIfInBounds_toArray, List.set_cons_zero, List.set_cons_succ])
                                                                        refine takeD (i := 9) (d := (some 186)) (v := ?_) rfl (by kernel_rfl) (by kernel_rfl) (by kernel_rfl) (by kernel_rfl) (fun _ _ _ h => h) (Or.inl ⟨by kernel_rfl, ?rgy⟩) (by assumption) ?rgn
                                                                        case rgy => (intro w hSw; (try dsimp only at hSw); go_simp; (try with_reducible rfl))
                                                                        case rgn =>
                                                                          (try simp only [Act.put, List.setIfInBounds_toArray, List.set_cons_zero, List.set_cons_succ])
                                                                          refine takeD (i := 10) (d := (some 187)) (v := ?_) rfl (by kernel_rfl) (by kernel_rfl) (by kernel_rfl) (by kernel_rfl) (fun _ _ _ h => h) (Or.inl ⟨by kernel_rfl, ?rgy⟩) (by assumption) ?rgn
                                                                          case rgy => (intro w hSw; (try dsimp only at hSw); go_simp; (try with_reducible rfl))
                                                                          case rgn =>
                                                                            (try simp only [Act.put, List.setIfInBounds_toArray, List.set_cons_zero, List.set_cons_succ])
                                                                            refine takeD (i := 11) (d := (some 188)) (v := ?_) rfl (by kernel_rfl) (by kernel_rfl) (by kernel_rfl) (by kernel_rfl) (fun _ _ _ h => h) (Or.inl ⟨by kernel_rfl, ?rgy⟩) (by assumption) ?rgn
                                                                            case rgy => (intro w hSw; (try dsimp only at hSw); go_simp; (try with_reducible rfl))
                                                                            case rgn =>
                                                                              (try simp only [Act.put, List.setIfInBounds_toArray, List.set_cons_zero, List.set_cons_succ])
                                                                              refine takeD (i := 12) (d := (some 189)) (v := ?_) rfl (by kernel_rfl) (by kernel_rfl) (by kernel_rfl) (by kernel_rfl) (fun _ _ _ h => h) (Or.inl ⟨by kernel_rfl, ?rgy⟩) (by assumption) ?rgn
                                                                              case rgy => (intro w hSw; (try dsimp only at hSw); go_simp; (try with_reducible rfl))
                                                                              case rgn =>
                                                                                (try simp only [Act.put, List.setIfInBounds_toArray, List.set_cons_zero, List.set_cons_succ])
                                                                                refine takeD (i := 13) (d := (some 190)) (v := ?_) rfl (by kernel_rfl) (by kernel_rfl) (by kernel_rfl) (by kernel_rfl) (fun _ _ _ h => h) (Or.inl ⟨by kernel_rfl, ?rgy⟩) (by assumption) ?rgn
                                                                                case rgy => (intro w hSw; (try dsimp only at hSw); go_simp; (try with_reducible rfl))
                                                                                case rgn =>
                                                                                  (try simp only [Act.put, List.setIfInBounds_toArray, List.set_cons_zero, List.set_cons_succ])
                                                                                  refine takeD (i := 14) (d := (some 191)) (v := ?_) rfl (by kernel_rfl) (by kernel_rfl) (by kernel_rfl) (by kernel_rfl) (fun _ _ _ h => h) (Or.inl ⟨by kernel_rfl, ?rgy⟩) (by assumption) ?rgn
                                                                                  case rgy => (intro w hSw; (try dsimp only at hSw); go_simp; (try with_reducible rfl))
                                                                                  case rgn =>
                                                                                    (try simp only [Act.put, List.setIfInBounds_toArray, List.set_cons_zero, List.set_cons_succ])
                                                                                    refine takeD (i := 15) (d := (some 192)) (v := ?_) rfl (by kernel_rfl) (by kernel_rfl) (by kernel_rfl) (by kernel_rfl) (fun _ _ _ h => h) (Or.inl ⟨by kernel_rfl, ?rgy⟩) (by assumption) ?rgn
                                                                                    case rgy => (intro w hSw; (try dsimp only at hSw); go_simp; (try with_reducible rfl))
                                                                                    case rgn =>
                                                                                      (try simp only [Act.put, List.setIfInBounds_toArray, List.set_cons_zero, List.set_cons_succ])
                                                                                      refine takeD (i := 16) (d := (some 193)) (v := ?_) rfl (by kernel_rfl) (by kernel_rfl) (by kernel_rfl) (by kernel_rfl) (fun _ _ _ h => h) (Or.inl ⟨by kernel_rfl, ?rgy⟩) (by assumption) ?rgn
                                                                                      case rgy => (intro w hSw; (try dsimp only at hSw); go_simp; (try with_reducible rfl))
                                                                                      case rgn =>
                                                                                        (try simp only [Act.put, List.setIfInBounds_toArray, List.set_cons_zero, List.set_cons_succ])
                                                                                        refine wpAnyH_ready (rs := [17]) (by kernel_rfl) (by simp) ?_
                                                                                        refine AllReadyH.cons rfl (fun K hK => ?_) AllReadyH.nil
                                                                                        go_simp
                                                                                        (go_at_call 35; (with_reducible refine (s1.out _ _ hC).mono ?_); rintro e x6 ⟨rfl, hb⟩; have hx := Ext.trans' hx hb; have hC := hC.ext hb; have hV := Ext.blk hb hV; (try clear a0 a1 a2 a3 a4 a5 a6 a7); obtain ⟨⟨a0, a1, a2, a3, a4, a5, a6, a7⟩, -⟩ := cx8 hV)
                                                                                        (try go_wp2_with fail)
                                                                                        refine hK.out _ _ ?_ (fun hHeld => ?_)
                                                                                        · (try dsimp only); (exact ⟨a0, a1, a2, a3, a4, a5, a6, a7⟩)
                                                                                        clear hK K
                                                                                        (try simp only [Act.put, List.setIfInBounds_toArray, List.set_cons_zero, List.set_cons_succ])
                                                                                        refine takeD (i := 18) (d := (some 195)) (v := ?_) rfl (by kernel_rfl) (by kernel_rfl) (by kernel_rfl) (by kernel_rfl) (fun _ _ _ h => h) (Or.inl ⟨by kernel_rfl, ?rgy⟩) (by assumption) ?rgn
                                                                                        case rgy => (intro w hSw; (try dsimp only at hSw); go_simp; (try with_reducible rfl))
                                                                                        case rgn =>
                                                                                          (try simp only [Act.put, List.setIfInBounds_toArray, List.set_cons_zero, List.set_cons_succ])
                                                                                          refine takeD (i := 19) (d := (some 196)) (v := ?_) rfl (by kernel_rfl) (by kernel_rfl) (by kernel_rfl) (by kernel_rfl) (fun _ _ _ h => h) (Or.inl ⟨by kernel_rfl, ?rgy⟩) (by assumption) ?rgn
                                                                                          case rgy => (intro w hSw; (try dsimp only at hSw); go_simp; (try with_reducible rfl))
                                                                                          case rgn =>
                                                                                            (try simp only [Act.put, List.setIfInBounds_toArray, List.set_cons_zero, List.set_cons_succ])
                                                                                            refine takeD (i := 20) (d := (some 197)) (v := ?_) rfl (by kernel_rfl) (by kernel_rfl) (by kernel_rfl) (by kernel_rfl) (fun _ _ _ h => h) (Or.inl ⟨by kernel_rfl, ?rgy⟩) (by assumption) ?rgn
                                                                                            case rgy => (intro w hSw; (try dsimp only at hSw); go_simp; (try with_reducible rfl))
                                                                                            case rgn =>
                                                                                              (try simp only [Act.put, List.setIfInBounds_toArray, List.set_cons_zero, List.set_cons_succ])
                                                                                              refine wpAnyH_ready (rs := [21]) (by kernel_rfl) (by simp) ?_
                                                                                              refine AllReadyH.cons rfl (fun K hK => ?_) AllReadyH.nil
                                                                                              go_simp
                                                                                              (go_at_call 35; (with_reducible refine (s2.out _ _ hC).mono ?_); rintro e x6 ⟨rfl, hb⟩; have hx := Ext.trans' hx hb; have hC := hC.ext hb; have hV := Ext.blk hb hV; (try clear a0 a1 a2 a3 a4 a5 a6 a7); obtain ⟨⟨a0, a1, a2, a3, a4, a5, a6, a7⟩, -⟩ := cx8 hV)
                                                                                              (try go_wp2_with fail)
                                                                                              refine hK.out _ _ ?_ (fun hHeld => ?_)
                                                                                              · (try dsimp only); (exact ⟨a0, a1, a2, a3, a4, a5, a6, a7⟩)
                                                                                              clear hK K
                                                                                              (try simp only [Act.put, List.setIfInBounds_toArray, List.set_cons_zero, List.set_cons_succ])
                                                                                              refine takeD (i := 22) (d := (some 199)) (v := ?_) rfl (by kernel_rfl) (by kernel_rfl) (by kernel_rfl) (by kernel_rfl) (fun _ _ _ h => h) (Or.inl ⟨by kernel_rfl, ?rgy⟩) (by assumption) ?rgn
                                                                                              case rgy => (intro w hSw; (try dsimp only at hSw); go_simp; (try with_reducible rfl))
                                                                                              case rgn =>
                                                                                                (try simp only [Act.put, List.setIfInBounds_toArray, List.set_cons_zero, List.set_cons_succ])
                                                                                                refine takeD (i := 23) (d := (some 0)) (v := ?_) rfl (by kernel_rfl) (by kernel_rfl) (by kernel_rfl) (by kernel_rfl) (fun _ _ _ h => h) (Or.inl ⟨by kernel_rfl, ?rgy⟩) (by assumption) ?rgn
                                                                                                case rgy => (intro w hSw; (try dsimp only at hSw); go_simp; (try with_reducible rfl))
                                                                                                case rgn =>
                                                                                                  (try simp only [Act.put, List.setIfInBounds_toArray, List.set_cons_zero, List.set_cons_succ])
                                                                                                  refine wpAnyH_done (by kernel_rfl) ?_ _
                                                                                                  go_wp2
                                                                                                  go_ret
                                                                                                  exact ⟨rfl, hx⟩
end Go.Proofs.YtbnmnkmjokcmfaaDoor
