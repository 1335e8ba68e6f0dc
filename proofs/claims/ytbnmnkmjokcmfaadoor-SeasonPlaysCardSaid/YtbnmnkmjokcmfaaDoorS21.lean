import Derived.Test.YtbnmnkmjokcmfaaDoorS20
/- The law's looks. -/
namespace Go.Proofs.YtbnmnkmjokcmfaaDoor
open Go.RowKit
/-- the kind's five cases -/
theorem kind_key {u v : Nat → Int} (hv : v 2 = 0) (f1 f2 : Int) (e1 : f1 = u 1 * u 1 + v 1 * v 1) (e2 : f2 = u 2 * u 2) : ∃ z, z = kindS u v ∧ ((f1 == 0) = true ∧ (f2 == 0) = true ∧ z = 0 ∨ (f1 == 0) = true ∧ (f2 == 0) = false ∧ decide (f2 ≤ 2 * f1) = true ∧ z = 1 ∨ (f1 == 0) = true ∧ (f2 == 0) = false ∧ decide (f2 ≤ 2 * f1) = false ∧ z = 2 ∨ (f1 == 0) = false ∧ decide (f2 ≤ 2 * f1) = true ∧ z = 1 ∨ (f1 == 0) = false ∧ decide (f2 ≤ 2 * f1) = false ∧ z = 2) := by
  have hk : kindS u v = if f1 = 0 ∧ f2 = 0 then 0 else if f2 ≤ 2 * f1 then 1 else 2 := by
    unfold kindS sq
    rw [hv, e1, e2, Int.mul_zero, Int.add_zero]
  refine ⟨_, rfl, ?_⟩
  rw [hk]
  by_cases h1 : f1 = 0
  · by_cases h2 : f2 = 0
    · exact Or.inl ⟨by rw [h1]; rfl, by rw [h2]; rfl, by rw [if_pos ⟨h1, h2⟩]⟩
    · by_cases h3 : f2 ≤ 2 * f1
      · exact Or.inr (Or.inl ⟨by rw [h1]; rfl, by rw [beq_eq_false_iff_ne]; exact h2, decide_eq_true h3, by rw [if_neg (fun h => h2 h.2), if_pos h3]⟩)
      · exact Or.inr (Or.inr (Or.inl ⟨by rw [h1]; rfl, by rw [beq_eq_false_iff_ne]; exact h2, decide_eq_false h3, by rw [if_neg (fun h => h2 h.2), if_neg h3]⟩))
  · by_cases h3 : f2 ≤ 2 * f1
    · exact Or.inr (Or.inr (Or.inr (Or.inl ⟨by rw [beq_eq_false_iff_ne]; exact h1, decide_eq_true h3, by rw [if_neg (fun h => h1 h.1), if_pos h3]⟩)))
    · exact Or.inr (Or.inr (Or.inr (Or.inr ⟨by rw [beq_eq_false_iff_ne]; exact h1, decide_eq_false h3, by rw [if_neg (fun h => h1 h.1), if_neg h3]⟩)))
theorem tI_two (m : Nat → Int) : tI m z0 2 = 0 := by
  rw [(tF m z0).2.2.1.2]; rfl
set_option maxRecDepth 100000 in
set_option maxHeartbeats 16000000 in
theorem looks_any (w : World) (C W now : Nat) (m : Nat → Int) (h : Ctr w C W m) (hn : now < 18446744073709551616) :
    Calls Tryd.prog 29 #[.pointer (some ⟨C, 0, none⟩), .agg #[.int .i64 (m 0), .int .i64 (m 1), .int .i64 (m 2), .int .i64 (m 3)], .int .i64 W, .int .u64 now] w fun e w' => e = .returned (.bool true) ∧ Ext w w' := by
  have hx : Ext w (w.alloc (.cells #[.int .i64 (m 0), .int .i64 (m 1), .int .i64 (m 2), .int .i64 (m 3)] 50)) := Ext.alloc (Below.refl _ _) _
  have hM : Box ((w.alloc (.cells #[.int .i64 (m 0), .int .i64 (m 1), .int .i64 (m 2), .int .i64 (m 3)] 50)).heap[w.heap.size]? = some (.cells (Cells4i m) 50 (0, 0))) := ⟨newblk w _⟩
  have cW : Box (∀ w', Ext w w' → _) := ⟨fun w' hx => wave_any w' C W m (h.ext hx)⟩
  have cC : Box (∀ w', Ext w w' → _) := ⟨fun w' hx => counts_any w' C W m (h.ext hx)⟩
  have cK : Box (∀ w', Ext w w' → _) := ⟨fun w' hx => season_any w' C W m (h.ext hx)⟩
  have cR : Box (∀ w, _) := ⟨fun w => real_any (m 0) (m 1) (m 2) (m 3) w⟩
  have hlim := h.lim
  have hL : ∀ j, j < 4 → Lim (2 ^ 44) (m j) ∧ Lim (2 ^ 44) (z0 j) := fun j hj => by
    have := hlim j hj
    unfold Lim z0; omega
  have cS : Box (∀ w, Calls Tryd.prog 17 #[.agg #[.int .i64 (m 0), .int .i64 0, .int .i64 (m 1), .int .i64 0, .int .i64 (m 2), .int .i64 0, .int .i64 (m 3), .int .i64 0], .int .i64 (-1)] w fun e w' => e = .returned (.agg #[.int .i64 (tR m z0 0), .int .i64 (tI m z0 0), .int .i64 (tR m z0 1), .int .i64 (tI m z0 1), .int .i64 (tR m z0 2), .int .i64 (tI m z0 2), .int .i64 (tR m z0 3), .int .i64 (tI m z0 3)]) ∧ Ext w w') := ⟨fun w => lsums_any (-1) (Or.inr rfl) m z0 hL w⟩
  have hl1 := tz_lim hlim 1
  have hl2 := tz_lim hlim 2
  have hv2 := tI_two m
  have HLIM := Box.mk hlim
  have l0 := hlim 0 (by omega); have l1 := hlim 1 (by omega); have l2 := hlim 2 (by omega); have l3 := hlim 3 (by omega)
  have hq4 : now / W % 4 < 4 := Nat.mod_lt _ (by decide)
  have key0 : (sm m = 0 ∧ Box (∀ w', Ext w w' → Calls Tryd.prog 31 #[.pointer (some ⟨C, 0, none⟩)] w' fun e w'' => e = .returned (.tuple #[.int .i64 0, .int .i64 9]) ∧ Ext w' w'') ∧ Box (∀ w', Ext w w' → Calls Tryd.prog 32 #[.pointer (some ⟨C, 0, none⟩), .int .u64 now] w' fun e w'' => e = .returned (.tuple #[.int .i64 0, .int .i64 0, .int .i64 9]) ∧ Ext w' w'')) ∨
      (∃ s n : Nat, sm m = s ∧ 0 < s ∧ m (now / W % 4) = n ∧ n ≤ s ∧ Box (∀ w', Ext w w' → Calls Tryd.prog 31 #[.pointer (some ⟨C, 0, none⟩)] w' fun e w'' => e = .returned (.tuple #[.int .i64 (bst m 4 : Nat), .int .i64 0]) ∧ Ext w' w'') ∧ Box (∀ w', Ext w w' → Calls Tryd.prog 32 #[.pointer (some ⟨C, 0, none⟩), .int .u64 now] w' fun e w'' => e = .returned (.tuple #[.int .i64 (n / Nat.gcd s n : Nat), .int .i64 (s / Nat.gcd s n : Nat), .int .i64 0]) ∧ Ext w' w'')) := by
    by_cases hs : sm m = 0
    · exact Or.inl ⟨hs, ⟨fun w' hx => best_none w' C W m (h.ext hx) hs⟩, ⟨fun w' hx => share_none w' C W now m (h.ext hx) hs⟩⟩
    · have hs' : sm m = m 0 + m 1 + m 2 + m 3 := rfl
      have hmq := hlim _ hq4
      have hle : m (now / W % 4) ≤ sm m := by
        obtain e | e | e | e : now / W % 4 = 0 ∨ now / W % 4 = 1 ∨ now / W % 4 = 2 ∨ now / W % 4 = 3 := by omega
        all_goals (rw [e]; omega)
      have e1 : sm m = ((sm m).toNat : Int) := by omega
      have e2 : m (now / W % 4) = ((m (now / W % 4)).toNat : Int) := by omega
      exact Or.inr ⟨(sm m).toNat, (m (now / W % 4)).toNat, e1, by omega, e2, by omega, ⟨fun w' hx => best_any w' C W m (h.ext hx) hs⟩, ⟨fun w' hx => share_any w' C W now _ _ m (h.ext hx) hn e1 (by omega) e2⟩⟩
  have KEY := Box.mk key0
  have hW1 := h.w1
  have hW2 := h.w2
  have hsm : Box (sm m = m 0 + m 1 + m 2 + m 3) := ⟨rfl⟩
  have hat : Box (∀ (w' : World) (T : TypeId), w'.heap[w.heap.size]? = some (.cells (Cells4i m) T (0, 0)) → ∀ q, q < 4 → w'.cell? ⟨w.heap.size, q, none⟩ = some (.int .i64 (m q))) := ⟨fun w' T h q hq => (cells4i_at h q hq).1⟩
  have hbl : Box (bst m 4 < 4 ∧ (∀ j, j < 4 → m j ≤ m (bst m 4)) ∧ ∀ j, j < bst m 4 → m j < m (bst m 4)) := ⟨bst_lt m 4 (by omega), bst_ge m 4, bst_first m 4⟩
  have MI : Box (∀ w' : World, w'.heap[w.heap.size]? = some (.cells (Cells4i m) 50 (0, 0)) → w'.cell? ⟨w.heap.size, 0, none⟩ = some (.int .i64 (m 0)) ∧ w'.cell? ⟨w.heap.size, 1, none⟩ = some (.int .i64 (m 1)) ∧ w'.cell? ⟨w.heap.size, 2, none⟩ = some (.int .i64 (m 2)) ∧ w'.cell? ⟨w.heap.size, 3, none⟩ = some (.int .i64 (m 3))) := ⟨fun w' h => ⟨(cells4i_at h 0 (by omega)).1, (cells4i_at h 1 (by omega)).1, (cells4i_at h 2 (by omega)).1, (cells4i_at h 3 (by omega)).1⟩⟩
  have qi : ∀ w : World, (Op.equalIn 10000 50 (.agg #[.int .i64 (m 0), .int .i64 (m 1), .int .i64 (m 2), .int .i64 (m 3)]) (.agg #[.int .i64 (m 0), .int .i64 (m 1), .int .i64 (m 2), .int .i64 (m 3)])).run Tryd.prog w = .ok true w := fun w => eqI (m 0) (m 1) (m 2) (m 3) w
  clear h hlim hL key0
  generalize tR m z0 = u at *
  generalize tI m z0 = v at *
  have qa : ∀ w : World, (Op.equalIn 10000 29 (.agg #[.int .i64 (u 0), .int .i64 (v 0), .int .i64 (u 1), .int .i64 (v 1), .int .i64 (u 2), .int .i64 (v 2), .int .i64 (u 3), .int .i64 (v 3)]) (.agg #[.int .i64 (u 0), .int .i64 (v 0), .int .i64 (u 1), .int .i64 (v 1), .int .i64 (u 2), .int .i64 (v 2), .int .i64 (u 3), .int .i64 (v 3)])).run Tryd.prog w = .ok true w := fun w => eqA u v w
  obtain ⟨z, hz, hkey⟩ := kind_key hv2 (u 1 * u 1 + v 1 * v 1) (u 2 * u 2) rfl rfl
  rw [← hz] at cK
  have g1 := pb (2 ^ 23) (2 ^ 23) (a := u 1) (c := u 1) (by simpa [Lim] using hl1.1) (by simpa [Lim] using hl1.1)
  have g2 := pb (2 ^ 23) (2 ^ 23) (a := v 1) (c := v 1) (by simpa [Lim] using hl1.2) (by simpa [Lim] using hl1.2)
  have g3 := pb (2 ^ 23) (2 ^ 23) (a := u 2) (c := u 2) (by simpa [Lim] using hl2.1) (by simpa [Lim] using hl2.1)
  simp only [Nat.reducePow, Nat.reduceMul] at g1 g2 g3
  have w1 : IntKind.i64.wrap (u 1 * u 1) = u 1 * u 1 := by rw [IntKind.wrap_i64]; omega
  have w2 : IntKind.i64.wrap (v 1 * v 1) = v 1 * v 1 := by rw [IntKind.wrap_i64]; omega
  have w3 : IntKind.i64.wrap (u 2 * u 2) = u 2 * u 2 := by rw [IntKind.wrap_i64]; omega
  have w4 : IntKind.i64.wrap (u 1 * u 1 + v 1 * v 1) = u 1 * u 1 + v 1 * v 1 := by rw [IntKind.wrap_i64]; omega
  have w5 : IntKind.i64.wrap (2 * (u 1 * u 1 + v 1 * v 1)) = 2 * (u 1 * u 1 + v 1 * v 1) := by rw [IntKind.wrap_i64]; omega
  have w6 : wrap64 (u 1 * u 1 + v 1 * v 1) = u 1 * u 1 + v 1 * v 1 := by unfold wrap64; omega
  have w7 : wrap64 (u 1 * u 1) = u 1 * u 1 := by unfold wrap64; omega
  have w8 : wrap64 (v 1 * v 1) = v 1 * v 1 := by unfold wrap64; omega
  have w9 : wrap64 (u 2 * u 2) = u 2 * u 2 := by unfold wrap64; omega
  have HK := Box.mk hkey
  clear hl1 hl2 hv2 hz hkey g1 g2 g3
  have s1 : IntKind.i64.wrap (m 0 + m 1) = m 0 + m 1 := by rw [IntKind.wrap_i64]; omega
  have s2 : IntKind.i64.wrap (m 0 + m 1 + m 2) = m 0 + m 1 + m 2 := by rw [IntKind.wrap_i64]; omega
  have s3 : IntKind.i64.wrap (m 0 + m 1 + m 2 + m 3) = m 0 + m 1 + m 2 + m 3 := by rw [IntKind.wrap_i64]; omega
  generalize hm0 : m 0 = m0 at *
  generalize hm1 : m 1 = m1 at *
  generalize hm2 : m 2 = m2 at *
  generalize hm3 : m 3 = m3 at *
  clear hm0 hm1 hm2 hm3 l0 l1 l2 l3
  have ge1 := g4_type.2
  have ge2 := g_struct.2.2
  have ge3 := i4_type.2
  obtain ⟨i0, i1, i2, i3⟩ := MI.out _ hM.out
  go_enter Tryd.func29, Tryd.ntmps29
  go_wp2_with (first
    | (go_at_call 30; (with_reducible refine (cW.out _ hx).mono ?_); rintro e w1 ⟨rfl, hb⟩; have hV := Box.mk (newblk w1 (.cells #[.int .i64 (u 0), .int .i64 (v 0), .int .i64 (u 1), .int .i64 (v 1), .int .i64 (u 2), .int .i64 (v 2), .int .i64 (u 3), .int .i64 (v 3)] 29)); have hb := Ext.trans' hb (Ext.alloc (Below.refl _ w1) (.cells #[.int .i64 (u 0), .int .i64 (v 0), .int .i64 (u 1), .int .i64 (v 1), .int .i64 (u 2), .int .i64 (v 2), .int .i64 (u 3), .int .i64 (v 3)] 29)); have hx := Ext.trans' hx hb; have hM := Box.mk (Ext.blk hb hM.out); clear i0 i1 i2 i3; obtain ⟨i0, i1, i2, i3⟩ := MI.out _ hM.out)
    | (go_at_call 34; (with_reducible refine (cR.out _).mono ?_); rintro e w2 ⟨rfl, hb⟩; have hx := Ext.trans' hx hb; have hM := Box.mk (Ext.blk hb hM.out); have hV := Box.mk (Ext.blk hb hV.out); clear i0 i1 i2 i3; obtain ⟨i0, i1, i2, i3⟩ := MI.out _ hM.out)
    | (go_at_call 17; (with_reducible refine (cS.out _).mono ?_); rintro e w3 ⟨rfl, hb⟩; have hN := Box.mk (newblk w3 (.cells #[.int .i64 (u 0), .int .i64 (v 0), .int .i64 (u 1), .int .i64 (v 1), .int .i64 (u 2), .int .i64 (v 2), .int .i64 (u 3), .int .i64 (v 3)] 29)); have hb := Ext.trans' hb (Ext.alloc (Below.refl _ w3) (.cells #[.int .i64 (u 0), .int .i64 (v 0), .int .i64 (u 1), .int .i64 (v 1), .int .i64 (u 2), .int .i64 (v 2), .int .i64 (u 3), .int .i64 (v 3)] 29)); have hx := Ext.trans' hx hb; have hM := Box.mk (Ext.blk hb hM.out); have hV := Box.mk (Ext.blk hb hV.out); clear i0 i1 i2 i3; obtain ⟨i0, i1, i2, i3⟩ := MI.out _ hM.out; obtain ⟨⟨o0, o1, o2, o3, o4, o5, o6, o7⟩, -⟩ := cx8 hN.out; obtain ⟨⟨a0, a1, a2, a3, a4, a5, a6, a7⟩, -⟩ := cx8 hV.out))
  generalize w1.heap.size = V at *
  generalize w3.heap.size = N at *
  generalize w3.alloc (.cells #[.int .i64 (u 0), .int .i64 (v 0), .int .i64 (u 1), .int .i64 (v 1), .int .i64 (u 2), .int .i64 (v 2), .int .i64 (u 3), .int .i64 (v 3)] 29) = wk at *
  have hR := Ext.drew1 (Below.refl wk.heap.size wk)
  apply cutX
  case k =>
    intro H
    go_region
    all_goals exact H
  generalize u 1 * u 1 + v 1 * v 1 = F1 at *
  generalize u 2 * u 2 = F2 at *
  clear hb
  have hMk := hM
  rcases HK.out with ⟨e1, e2, rfl⟩ | ⟨e1, e2, e3, rfl⟩ | ⟨e1, e2, e3, rfl⟩ | ⟨e1, e3, rfl⟩ | ⟨e1, e3, rfl⟩
  all_goals
    have hR := Ext.drew1 (Below.refl wk.heap.size wk)
    go_wp2
    have hR := Ext.drew1 hR
    go_region_held3 (fun w' => (w'.cell? ⟨w.heap.size, 0, none⟩ = some (.int .i64 m0) ∧ w'.cell? ⟨w.heap.size, 1, none⟩ = some (.int .i64 m1) ∧ w'.cell? ⟨w.heap.size, 2, none⟩ = some (.int .i64 m2) ∧ w'.cell? ⟨w.heap.size, 3, none⟩ = some (.int .i64 m3)) ∧ (w'.cell? ⟨V, 0, none⟩ = some (.int .i64 (u 0)) ∧ w'.cell? ⟨V, 1, none⟩ = some (.int .i64 (v 0)) ∧ w'.cell? ⟨V, 2, none⟩ = some (.int .i64 (u 1)) ∧ w'.cell? ⟨V, 3, none⟩ = some (.int .i64 (v 1)) ∧ w'.cell? ⟨V, 4, none⟩ = some (.int .i64 (u 2)) ∧ w'.cell? ⟨V, 5, none⟩ = some (.int .i64 (v 2)) ∧ w'.cell? ⟨V, 6, none⟩ = some (.int .i64 (u 3)) ∧ w'.cell? ⟨V, 7, none⟩ = some (.int .i64 (v 3))) ∧ (w'.cell? ⟨N, 0, none⟩ = some (.int .i64 (u 0)) ∧ w'.cell? ⟨N, 1, none⟩ = some (.int .i64 (v 0)) ∧ w'.cell? ⟨N, 2, none⟩ = some (.int .i64 (u 1)) ∧ w'.cell? ⟨N, 3, none⟩ = some (.int .i64 (v 1)) ∧ w'.cell? ⟨N, 4, none⟩ = some (.int .i64 (u 2)) ∧ w'.cell? ⟨N, 5, none⟩ = some (.int .i64 (v 2)) ∧ w'.cell? ⟨N, 6, none⟩ = some (.int .i64 (u 3)) ∧ w'.cell? ⟨N, 7, none⟩ = some (.int .i64 (v 3))))
      (exact ⟨⟨i0, i1, i2, i3⟩, ⟨a0, a1, a2, a3, a4, a5, a6, a7⟩, o0, o1, o2, o3, o4, o5, o6, o7⟩)
      (first
        | (go_at_call 27; (with_reducible refine (cC.out _ (Ext.trans' hx hR)).mono ?_); rintro e w5 ⟨rfl, hb⟩; have hR := Ext.trans' hR hb; have i0 := Ext.cell hb i0; have i1 := Ext.cell hb i1; have i2 := Ext.cell hb i2; have i3 := Ext.cell hb i3; have a0 := Ext.cell hb a0; have a1 := Ext.cell hb a1; have a2 := Ext.cell hb a2; have a3 := Ext.cell hb a3; have a4 := Ext.cell hb a4; have a5 := Ext.cell hb a5; have a6 := Ext.cell hb a6; have a7 := Ext.cell hb a7; have o0 := Ext.cell hb o0; have o1 := Ext.cell hb o1; have o2 := Ext.cell hb o2; have o3 := Ext.cell hb o3; have o4 := Ext.cell hb o4; have o5 := Ext.cell hb o5; have o6 := Ext.cell hb o6; have o7 := Ext.cell hb o7)
        | (go_at_call 33; (with_reducible refine (cK.out _ (Ext.trans' hx hR)).mono ?_); rintro e w6 ⟨rfl, hb⟩; have hR := Ext.trans' hR hb; have i0 := Ext.cell hb i0; have i1 := Ext.cell hb i1; have i2 := Ext.cell hb i2; have i3 := Ext.cell hb i3; have a0 := Ext.cell hb a0; have a1 := Ext.cell hb a1; have a2 := Ext.cell hb a2; have a3 := Ext.cell hb a3; have a4 := Ext.cell hb a4; have a5 := Ext.cell hb a5; have a6 := Ext.cell hb a6; have a7 := Ext.cell hb a7; have o0 := Ext.cell hb o0; have o1 := Ext.cell hb o1; have o2 := Ext.cell hb o2; have o3 := Ext.cell hb o3; have o4 := Ext.cell hb o4; have o5 := Ext.cell hb o5; have o6 := Ext.cell hb o6; have o7 := Ext.cell hb o7))
    clear a0 a1 a2 a3 a4 a5 a6 a7 o0 o1 o2 o3 o4 o5 o6 o7
    rcases KEY.out with ⟨hs, cB, cH⟩ | ⟨s, n, hs, hs0, hmn, hns, cB, cH⟩
    · have e9 : (m0 + m1 + m2 + m3 == 0) = true := by rw [← hsm.out, hs]; rfl
      clear hs
      go_wp2_with (first
        | (go_at_call 31; (with_reducible refine (cB.out _ (Ext.trans' hx hR)).mono ?_); rintro e w7 ⟨rfl, hb⟩; have hR := Ext.trans' hR hb; have i0 := Ext.cell hb i0; have i1 := Ext.cell hb i1; have i2 := Ext.cell hb i2; have i3 := Ext.cell hb i3)
        | (go_at_call 32; (with_reducible refine (cH.out _ (Ext.trans' hx hR)).mono ?_); rintro e w8 ⟨rfl, hb⟩; have hR := Ext.trans' hR hb; have i0 := Ext.cell hb i0; have i1 := Ext.cell hb i1; have i2 := Ext.cell hb i2; have i3 := Ext.cell hb i3))
      go_ret
      exact ⟨rfl, Ext.trans' hx hR⟩
    · have hsum : m0 + m1 + m2 + m3 = (s : Int) := by rw [← hsm.out, hs]
      have e9 : ((s : Int) == 0) = false := by rw [beq_eq_false_iff_ne]; omega
      obtain ⟨hb4, hge, hfi⟩ := hbl.out
      have HS := Box.mk hs; have HMN := Box.mk hmn
      have HGE := Box.mk hge; have HFI := Box.mk hfi
      have hsl : s ≤ 4194304 := by
        have h0 := HLIM.out 0 (by omega); have h1 := HLIM.out 1 (by omega); have h2 := HLIM.out 2 (by omega); have h3 := HLIM.out 3 (by omega)
        have hh : sm m = m 0 + m 1 + m 2 + m 3 := rfl
        omega
      clear hs hmn hge hfi
      generalize bst m 4 = bb at *
      have hg := Nat.gcd_pos_of_pos_left n hs0
      obtain ⟨y, hy⟩ := Nat.gcd_dvd_left s n
      obtain ⟨x, hx'⟩ := Nat.gcd_dvd_right s n
      have hcop : Nat.gcd (s / Nat.gcd s n) (n / Nat.gcd s n) = 1 := Nat.gcd_div_gcd_div_gcd_of_pos_left hs0
      generalize Nat.gcd s n = g at *
      have ey : s / g = y := by rw [hy]; exact Nat.mul_div_cancel_left _ hg
      have ex : n / g = x := by rw [hx']; exact Nat.mul_div_cancel_left _ hg
      rw [ey, ex] at hcop cH
      have hy1 : 1 ≤ y := by
        rcases Nat.eq_zero_or_pos y with h | h
        · rw [h, Nat.mul_zero] at hy; omega
        · exact h
      have hxy : x ≤ y := by
        rw [hy, hx'] at hns
        exact Nat.le_of_mul_le_mul_left hns hg
      have hys : y ≤ s := by
        have := Nat.le_mul_of_pos_left y hg
        rw [← hy] at this; exact this
      have hprod : x * s = n * y := by rw [hy, hx', Nat.mul_left_comm x g y, Nat.mul_assoc]
      have hnl : n ≤ 4194304 := by omega
      have hpb : x * s ≤ 4194304 * 4194304 := Nat.mul_le_mul (by omega) hsl
      have p1 : IntKind.i64.wrap ((x : Int) * (s : Int)) = ((x * s : Nat) : Int) := by rw [← Int.natCast_mul, IntKind.wrap_i64]; omega
      have p2 : IntKind.i64.wrap ((n : Int) * (y : Int)) = ((x * s : Nat) : Int) := by rw [← Int.natCast_mul, ← hprod, IntKind.wrap_i64]; omega
      have p3 : decide ((y : Int) < 1) = false := decide_eq_false (by omega)
      have p4 : decide ((x : Int) < 0) = false := decide_eq_false (by omega)
      have p5 : decide ((y : Int) < (x : Int)) = false := decide_eq_false (by omega)
      have p6 : decide (y < x) = false := decide_eq_false (by omega)
      have p7 : decide ((bb : Int) < 0) = false := decide_eq_false (by omega)
      have p8 : decide (3 < (bb : Int)) = false := decide_eq_false (by omega)
      have p9 : decide (3 < bb) = false := decide_eq_false (by omega)
      have HC := Box.mk hcop
      clear hy hx' hcop ey ex hprod hpb hns
      generalize x * s = P at *
      go_wp2_with (first
        | (go_at_call 31; (with_reducible refine (cB.out _ (Ext.trans' hx hR)).mono ?_); rintro e w7 ⟨rfl, hb⟩; have hR := Ext.trans' hR hb; have i0 := Ext.cell hb i0; have i1 := Ext.cell hb i1; have i2 := Ext.cell hb i2; have i3 := Ext.cell hb i3)
        | (go_at_call 32; (with_reducible refine (cH.out _ (Ext.trans' hx hR)).mono ?_); rintro e w8 ⟨rfl, hb⟩; have hR := Ext.trans' hR hb; have i0 := Ext.cell hb i0; have i1 := Ext.cell hb i1; have i2 := Ext.cell hb i2; have i3 := Ext.cell hb i3))
      have hE := Box.mk hR
      clear hR hb i0 i1 i2 i3
      go_loopw [21] (fun i wr => ∃ k : Nat, k ≤ 4 ∧ i = .int .i64 k ∧ Box (Ext wk wr)) (fun i _ => 4 - (intOf i).toNat)
      case atStart => exact ⟨0, by omega, rfl, hE⟩
      case round =>
        clear hE
        obtain ⟨k, hk, rfl, hE⟩ := hrel
        by_cases hk4 : k < 4
        · have n1 : (0 : Int) ≤ (k : Int) := by omega
          have n2 : (k : Int) < 4 := by omega
          have n2' : decide ((k : Int) < 4) = true := decide_eq_true n2
          have n3 : (0 : Int) ≤ (bb : Int) := by omega
          have n4 : (bb : Int) < 4 := by omega
          have c1 := hat.out wr _ (Ext.blk hE.out hMk.out) k hk4
          have c2 := hat.out wr _ (Ext.blk hE.out hMk.out) bb hb4
          have d3 : decide (m bb < m k) = false := decide_eq_false (by have := HGE.out k hk4; omega)
          have hfi : k < bb → (m k == m bb) = false := fun h => by rw [beq_eq_false_iff_ne]; have := HFI.out k h; omega
          by_cases hkb : k < bb
          · have d4 : decide ((k : Int) < (bb : Int)) = true := decide_eq_true (by omega)
            have d4' : decide (k < bb) = true := decide_eq_true hkb
            have d5 := hfi hkb
            clear hfi
            generalize m k = mk at *
            generalize m bb = mb at *
            go_wp2
            go_region
            all_goals
              go_wp2
              go_roundw
              case rel => exact ⟨k + 1, by omega, by go_num, ⟨Ext.drew1 hE.out⟩⟩
              case measure => simp [intOf]; omega
          · have d4 : decide ((k : Int) < (bb : Int)) = false := decide_eq_false (by omega)
            have d4' : decide (k < bb) = false := decide_eq_false hkb
            clear hfi
            generalize m k = mk at *
            generalize m bb = mb at *
            go_wp2
            go_region
            all_goals
              go_wp2
              go_roundw
              case rel => exact ⟨k + 1, by omega, by go_num, ⟨Ext.drew1 hE.out⟩⟩
              case measure => simp [intOf]; omega
        · obtain rfl : k = 4 := by omega
          have c1 := hat.out wr _ (Ext.blk hE.out hMk.out) _ hq4
          rw [HMN.out] at c1
          have q0 : IntKind.u64.wrap (W : Int) = W := by rw [IntKind.wrap_u64]; omega
          have f0 : ¬ W = 0 := by omega
          have f1 : ((W : Int) == 0) = false := by rw [beq_eq_false_iff_ne]; omega
          have n1 : (0 : Int) ≤ ((now / W % 4 : Nat) : Int) := Int.natCast_nonneg _
          have n2 : ((now / W % 4 : Nat) : Int) < 4 := Int.ofNat_lt.2 hq4
          have hbn : now / W ≤ now := Nat.div_le_self _ _
          have t0 : (now : Int).tdiv (W : Int) = ((now / W : Nat) : Int) := rfl
          have t9 : (now : Int) / (W : Int) = ((now / W : Nat) : Int) := (Int.natCast_ediv _ _).symm
          have hE1 := hE.out
          clear KEY cW cC cK cB cH HLIM hat HGE HFI HMN HS hbl cR cS MI
          generalize now / W = gg at *
          have t1 : (gg : Int).tmod 4 = ((gg % 4 : Nat) : Int) := rfl
          have t8 : (gg : Int) % 4 = ((gg % 4 : Nat) : Int) := rfl
          have t2 : IntKind.u64.wrap (gg : Int) = (gg : Int) := by rw [IntKind.wrap_u64]; omega
          generalize gg % 4 = q at *
          have t3 : IntKind.u64.wrap (q : Int) = (q : Int) := by rw [IntKind.wrap_u64]; omega
          have t4 : IntKind.i64.wrap (q : Int) = (q : Int) := by rw [IntKind.wrap_i64]; omega
          have t5 : wrap64 (q : Int) = (q : Int) := by unfold wrap64; omega
          go_wp2
          go_loopw [23, 24] (fun av bv wr => ∃ a b : Nat, av = .int .i64 a ∧ bv = .int .i64 b ∧ a ≤ 4194304 ∧ b ≤ 4194304 ∧ Nat.gcd a b = 1 ∧ Box (Ext wk wr)) (fun _ bv _ => (intOf bv).toNat)
          case atStart => exact ⟨y, x, rfl, rfl, by omega, by omega, HC.out, ⟨hE1⟩⟩
          case round =>
            obtain ⟨a, b, rfl, rfl, ha2, hb2, hgg, hE2⟩ := hrel
            by_cases hb0 : 0 < b
            · have d1 : decide ((0 : Int) < (b : Int)) = true := decide_eq_true (by omega)
              have d2 : decide (0 < b) = true := decide_eq_true hb0
              have f2 : ¬ b = 0 := by omega
              have f3 : ((b : Int) == 0) = false := by rw [beq_eq_false_iff_ne]; omega
              have t6 : (a : Int).tmod (b : Int) = ((a % b : Nat) : Int) := rfl
              have t7 : (a : Int) % (b : Int) = ((a % b : Nat) : Int) := (Int.natCast_emod _ _).symm
              have hlt := Nat.mod_lt a hb0
              have hg2 : Box (Nat.gcd b (a % b) = 1) := ⟨by rw [← hgg, Nat.gcd_comm a b, Nat.gcd_rec b a, Nat.gcd_comm]⟩
              have q1 : IntKind.i64.wrap ((a % b : Nat) : Int) = ((a % b : Nat) : Int) := by rw [IntKind.wrap_i64]; omega
              clear hgg
              generalize a % b = r at *
              go_wp2
              go_region
              all_goals
                go_wp2
                go_roundw
                case rel => exact ⟨b, r, by go_num, by go_num, hb2, by omega, hg2.out, ⟨Ext.drew1 hE2.out⟩⟩
                case measure => simp [intOf]; omega
            · obtain rfl : b = 0 := by omega
              have hag : a = 1 := by rw [Nat.gcd_zero_right] at hgg; exact hgg
              subst hag
              have d1 : decide ((0 : Int) < ((0 : Nat) : Int)) = false := rfl
              go_wp2
              go_ret
              exact ⟨rfl, Ext.trans' hx hE2.out⟩
end Go.Proofs.YtbnmnkmjokcmfaaDoor
