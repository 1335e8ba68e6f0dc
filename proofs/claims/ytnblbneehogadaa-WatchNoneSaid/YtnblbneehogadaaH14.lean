import Derived.Test.YtnblbneehogadaaH14A
/- The law's known. -/
namespace Go.Proofs.Ytnblbneehogadaa
open Go.RowKit Go.ChangeMaps
set_option maxRecDepth 100000 in
set_option maxHeartbeats 16000000 in
theorem known_any (W : World) : Calls Try.prog 8 #[] W fun e w' => e = .returned (.bool true) ∧ Ext W w' := by
  have cO1 : Box (∀ w, Calls Try.prog 12 #[.string ⟨#[97, 98]⟩, .int .i64 4] w fun e w' => ∃ b c, e = .returned (.agg #[.int .i64 4, .string ⟨#[97, 98]⟩, .slice (some ⟨b, 0, none⟩) 2 c, .int .u64 1, .int .u64 18446744073709551615, .int .u64 0]) ∧ w.heap.size ≤ b ∧ b < w'.heap.size ∧ By w' (.slice (some ⟨b, 0, none⟩) 2 c) [97, 98] ∧ Ext w w') := ⟨fun w => lof_any ⟨#[97, 98]⟩ 4 w (by decide) (by decide)⟩
  have cO4 : Box (∀ w, Calls Try.prog 12 #[.string ⟨#[97, 99]⟩, .int .i64 4] w fun e w' => ∃ b c, e = .returned (.agg #[.int .i64 4, .string ⟨#[97, 99]⟩, .slice (some ⟨b, 0, none⟩) 2 c, .int .u64 1, .int .u64 18446744073709551615, .int .u64 0]) ∧ w.heap.size ≤ b ∧ b < w'.heap.size ∧ By w' (.slice (some ⟨b, 0, none⟩) 2 c) [97, 99] ∧ Ext w w') := ⟨fun w => lof_any ⟨#[97, 99]⟩ 4 w (by decide) (by decide)⟩
  have cO5 : Box (∀ w, Calls Try.prog 12 #[.string ⟨#[99]⟩, .int .i64 4] w fun e w' => ∃ b c, e = .returned (.agg #[.int .i64 4, .string ⟨#[99]⟩, .slice (some ⟨b, 0, none⟩) 1 c, .int .u64 1, .int .u64 18446744073709551615, .int .u64 0]) ∧ w.heap.size ≤ b ∧ b < w'.heap.size ∧ By w' (.slice (some ⟨b, 0, none⟩) 1 c) [99] ∧ Ext w w') := ⟨fun w => lof_any ⟨#[99]⟩ 4 w (by decide) (by decide)⟩
  have cX2 : Box (∀ w, Calls Try.prog 29 #[.string ⟨#[98]⟩] w fun e w' => ∃ b c, e = .returned (.agg #[.int .i64 1, .string ⟨#[98]⟩, .slice (some ⟨b, 0, none⟩) 1 c, .int .u64 2, .int .u64 5, .int .u64 5]) ∧ w.heap.size ≤ b ∧ b < w'.heap.size ∧ By w' (.slice (some ⟨b, 0, none⟩) 1 c) [98] ∧ Ext w w') := ⟨fun w => lexp_any ⟨#[98]⟩ w (by decide) (by decide)⟩
  have cX3 : Box (∀ w, Calls Try.prog 29 #[.string ⟨#[97]⟩] w fun e w' => ∃ b c, e = .returned (.agg #[.int .i64 1, .string ⟨#[97]⟩, .slice (some ⟨b, 0, none⟩) 1 c, .int .u64 2, .int .u64 5, .int .u64 5]) ∧ w.heap.size ≤ b ∧ b < w'.heap.size ∧ By w' (.slice (some ⟨b, 0, none⟩) 1 c) [97] ∧ Ext w w') := ⟨fun w => lexp_any ⟨#[97]⟩ w (by decide) (by decide)⟩
  go_enter Try.func8, Try.ntmps8
  go_upto_region 3 with (fail)
  have hx3 : Ext W (((W.alloc (.cells #[.map none] 36)).alloc (.cells #[.int .i64 4] 25)).alloc (.cells #[.string ⟨#[]⟩, .slice (some ⟨W.heap.size + 1, 0, none⟩) 1 1, .int .i64 1, .bool true] 24)) := Ext.alloc (Ext.alloc (Ext.alloc (Below.refl _ _) _) _) _
  have hH3 : (((W.alloc (.cells #[.map none] 36)).alloc (.cells #[.int .i64 4] 25)).alloc (.cells #[.string ⟨#[]⟩, .slice (some ⟨W.heap.size + 1, 0, none⟩) 1 1, .int .i64 1, .bool true] 24)).heap[W.heap.size]? = some (.cells #[.map none] 36 (0, 0)) := Ext.blk (Ext.alloc (Ext.alloc (Below.refl _ _) _) _) (newblk W _)
  have hK3 : (((W.alloc (.cells #[.map none] 36)).alloc (.cells #[.int .i64 4] 25)).alloc (.cells #[.string ⟨#[]⟩, .slice (some ⟨W.heap.size + 1, 0, none⟩) 1 1, .int .i64 1, .bool true] 24)).heap[W.heap.size + 1]? = some (.cells #[.int .i64 4] 25 (0, 0)) := by
    have h1 := newblk (W.alloc (.cells #[.map none] 36)) (.cells #[.int .i64 4] 25)
    rw [show (W.alloc (.cells #[.map none] 36)).heap.size = W.heap.size + 1 by simp] at h1
    exact Ext.blk (Ext.alloc (Below.refl _ _) _) h1
  have hR3 : (((W.alloc (.cells #[.map none] 36)).alloc (.cells #[.int .i64 4] 25)).alloc (.cells #[.string ⟨#[]⟩, .slice (some ⟨W.heap.size + 1, 0, none⟩) 1 1, .int .i64 1, .bool true] 24)).heap[W.heap.size + 2]? = some (.cells #[.string ⟨#[]⟩, .slice (some ⟨W.heap.size + 1, 0, none⟩) 1 1, .int .i64 1, .bool true] 24 (0, 0)) := by
    have h1 := newblk ((W.alloc (.cells #[.map none] 36)).alloc (.cells #[.int .i64 4] 25)) (.cells #[.string ⟨#[]⟩, .slice (some ⟨W.heap.size + 1, 0, none⟩) 1 1, .int .i64 1, .bool true] 24)
    rw [show ((W.alloc (.cells #[.map none] 36)).alloc (.cells #[.int .i64 4] 25)).heap.size = W.heap.size + 2 by simp] at h1
    exact h1
  obtain ⟨w3, hw3⟩ : ∃ w3, w3 = (((W.alloc (.cells #[.map none] 36)).alloc (.cells #[.int .i64 4] 25)).alloc (.cells #[.string ⟨#[]⟩, .slice (some ⟨W.heap.size + 1, 0, none⟩) 1 1, .int .i64 1, .bool true] 24)) := ⟨_, rfl⟩
  rw [← hw3] at hx3 hH3 hK3 hR3 ⊢
  clear hw3
  have hub0 : HubOk W.heap.size w3 W.heap.size none [] := ⟨hH3, Nat.le_refl _, Or.inl ⟨rfl, rfl⟩, List.nodup_nil, fun p hp => (by cases hp), List.nodup_nil⟩
  obtain ⟨H, hH⟩ : ∃ H, H = W.heap.size := ⟨_, rfl⟩
  obtain ⟨KB, hKB⟩ : ∃ KB, KB = W.heap.size + 1 := ⟨_, rfl⟩
  obtain ⟨RB, hRB⟩ : ∃ RB, RB = W.heap.size + 2 := ⟨_, rfl⟩
  rw [← hKB] at hK3 hR3
  rw [← hRB] at hR3
  have hub0' : HubOk W.heap.size w3 H none [] := by rw [hH]; exact hub0
  have hRB' : RB = W.heap.size + 1 + 1 := hRB
  try simp only [← hRB']
  try simp only [← hRB]
  try simp only [← hKB]
  simp only [← hH]
  clear hRB'
  have hKH : KB ≠ H := by omega
  have hRH : RB ≠ H := by omega
  replace hH := Box.mk hH; replace hKB := Box.mk hKB; replace hRB := Box.mk hRB
  have cA1 : Box (Calls Try.prog 11 #[.pointer (some ⟨H, 0, none⟩), .agg #[.string ⟨#[97]⟩, .slice none 0 0, .int .i64 2, .bool false], .int .i64 0, .int .i64 0] w3 fun e w' => e = .returned (.bool true) ∧ ∃ (mbx B : Nat) (kv : Value), HubOk W.heap.size w' H (some mbx) [((0 : Int), newW B ⟨#[97]⟩ kv [] 2 false)] ∧ w3.heap.size ≤ B ∧ w3.heap.size ≤ mbx ∧ Mut (fun q => q = H) w3 w') := ⟨(adds_ok hub0' ⟨#[97]⟩ none 0 [] 2 false (fun j u hj => by simp at hj) (by decide) (by decide) (by decide) (by decide) hx3.size 0 (by simp) (fun k hk => by omega)).mono (by
    rintro e w' ⟨he, mbx, B, kv, h1, h2, h3, h4⟩
    refine ⟨he, mbx, B, kv, h1, h2, ?_, h4.mono (fun q hq => ?_)⟩
    · rcases h3 with h3 | h3
      · cases h3
      · exact h3
    · rcases hq with hq | hq
      · exact hq
      · cases hq)⟩
  replace hub0 := Box.mk hub0'
  clear hub0' hH3
  go_upto_region 5 with (first
    | (go_at_call 11; (with_reducible refine (cA1.out).mono ?_); rintro e w4 ⟨rfl, mb, B0, kv0, hub1, hB0, hmb0, hM1⟩; have hR4 := (hM1.other RB (blk_lt hR3) hRH).trans hR3; have hK4 := (hM1.other KB (blk_lt hK3) hKH).trans hK3; obtain ⟨u0, u1, u2, u3, _⟩ := blk4 hR4; have cA2 : Box (Calls Try.prog 11 #[.pointer (some ⟨H, 0, none⟩), .agg #[.string ⟨#[]⟩, .slice (some ⟨KB, 0, none⟩) 1 1, .int .i64 1, .bool true], .int .i64 1, .int .i64 0] w4 fun e w' => e = .returned (.bool true) ∧ ∃ (mbx B : Nat) (kv : Value), HubOk W.heap.size w' H (some mbx) [((0 : Int), newW B0 ⟨#[97]⟩ kv0 [] 2 false), ((1 : Int), newW B ⟨#[]⟩ kv [4] 1 true)] ∧ w4.heap.size ≤ B ∧ (some mb = some mbx ∨ w4.heap.size ≤ mbx) ∧ Mut (fun q => q = H ∨ some mb = some q) w4 w') := ⟨adds_ok hub1 ⟨#[]⟩ (some ⟨KB, 0, none⟩) 1 [4] 1 true (one_cell hK4) (by decide) (by decide) (by decide) (by show 1 < 64; decide) (Nat.le_trans hx3.size hM1.size) 1 (by simp) (fun k hk => by simp; omega)⟩; replace hub1 := Box.mk hub1)
    | (go_at_call 11; (with_reducible refine (cA2.out).mono ?_); rintro e w5 ⟨rfl, mb2, B1, kv1, hub2, hB1, hmb2, hM2⟩))
  have hx5 : Ext W w5 := hM2.ext W (hM1.ext W hx3 (fun q e => by rw [e, hH.out]; exact Nat.le_refl _)) (fun q e => by
    rcases e with e | e
    · rw [e, hH.out]; exact Nat.le_refl _
    · cases e; exact Nat.le_trans hx3.size hmb0)
  have hs34 := hM1.size
  have hs45 := hM2.size
  have hfp5 : Box (∀ b, b ∈ fpL [((0 : Int), newW B0 ⟨#[97]⟩ kv0 [] 2 false), ((1 : Int), newW B1 ⟨#[]⟩ kv1 [4] 1 true)] → b < w5.heap.size) := ⟨fun b hb => (hub2.types hb).2.1⟩
  replace hub2 := Box.mk hub2; replace hx5 := Box.mk hx5
  clear hM1 hM2 hR3 hK3 hR4 hK4 hub1 cA1 cA2 u0 u1 u2 u3 hB0 hB1 hmb0 hmb2 hs34 hs45
  go_upto_region 6 with (first
    | (go_at_call 12; (with_reducible refine (cO1.out _).mono ?_); rintro e w6 ⟨b1, d1, rfl, g1, g2, y1, hx6⟩)
    | (go_at_call 29; (with_reducible refine (cX2.out _).mono ?_); rintro e w7 ⟨b2, d2, rfl, g3, g4, y2, hx7⟩)
    | (go_at_call 29; (with_reducible refine (cX3.out _).mono ?_); rintro e w8 ⟨b3, d3, rfl, g5, g6, y3, hx8⟩))
  have hE1 : (((w8.alloc (.cells #[.int .i64 4, .string ⟨#[97, 98]⟩, .slice (some ⟨b1, 0, none⟩) 2 d1, .int .u64 1, .int .u64 18446744073709551615, .int .u64 0] 30)).alloc (.cells #[.int .i64 1, .string ⟨#[98]⟩, .slice (some ⟨b2, 0, none⟩) 1 d2, .int .u64 2, .int .u64 5, .int .u64 5] 30)).alloc (.cells #[.int .i64 1, .string ⟨#[97]⟩, .slice (some ⟨b3, 0, none⟩) 1 d3, .int .u64 2, .int .u64 5, .int .u64 5] 30)).heap[w8.heap.size]? = some (.cells #[.int .i64 4, .string ⟨#[97, 98]⟩, .slice (some ⟨b1, 0, none⟩) 2 d1, .int .u64 1, .int .u64 18446744073709551615, .int .u64 0] 30 (0, 0)) := Ext.blk (Ext.alloc (Ext.alloc (Below.refl _ _) _) _) (newblk w8 _)
  have hE2 : (((w8.alloc (.cells #[.int .i64 4, .string ⟨#[97, 98]⟩, .slice (some ⟨b1, 0, none⟩) 2 d1, .int .u64 1, .int .u64 18446744073709551615, .int .u64 0] 30)).alloc (.cells #[.int .i64 1, .string ⟨#[98]⟩, .slice (some ⟨b2, 0, none⟩) 1 d2, .int .u64 2, .int .u64 5, .int .u64 5] 30)).alloc (.cells #[.int .i64 1, .string ⟨#[97]⟩, .slice (some ⟨b3, 0, none⟩) 1 d3, .int .u64 2, .int .u64 5, .int .u64 5] 30)).heap[w8.heap.size + 1]? = some (.cells #[.int .i64 1, .string ⟨#[98]⟩, .slice (some ⟨b2, 0, none⟩) 1 d2, .int .u64 2, .int .u64 5, .int .u64 5] 30 (0, 0)) := by
    have h1 := newblk (w8.alloc (.cells #[.int .i64 4, .string ⟨#[97, 98]⟩, .slice (some ⟨b1, 0, none⟩) 2 d1, .int .u64 1, .int .u64 18446744073709551615, .int .u64 0] 30)) (.cells #[.int .i64 1, .string ⟨#[98]⟩, .slice (some ⟨b2, 0, none⟩) 1 d2, .int .u64 2, .int .u64 5, .int .u64 5] 30)
    rw [show (w8.alloc (.cells #[.int .i64 4, .string ⟨#[97, 98]⟩, .slice (some ⟨b1, 0, none⟩) 2 d1, .int .u64 1, .int .u64 18446744073709551615, .int .u64 0] 30)).heap.size = w8.heap.size + 1 by simp] at h1
    exact Ext.blk (Ext.alloc (Below.refl _ _) _) h1
  have hE3 : (((w8.alloc (.cells #[.int .i64 4, .string ⟨#[97, 98]⟩, .slice (some ⟨b1, 0, none⟩) 2 d1, .int .u64 1, .int .u64 18446744073709551615, .int .u64 0] 30)).alloc (.cells #[.int .i64 1, .string ⟨#[98]⟩, .slice (some ⟨b2, 0, none⟩) 1 d2, .int .u64 2, .int .u64 5, .int .u64 5] 30)).alloc (.cells #[.int .i64 1, .string ⟨#[97]⟩, .slice (some ⟨b3, 0, none⟩) 1 d3, .int .u64 2, .int .u64 5, .int .u64 5] 30)).heap[w8.heap.size + 1 + 1]? = some (.cells #[.int .i64 1, .string ⟨#[97]⟩, .slice (some ⟨b3, 0, none⟩) 1 d3, .int .u64 2, .int .u64 5, .int .u64 5] 30 (0, 0)) := by
    have h1 := newblk ((w8.alloc (.cells #[.int .i64 4, .string ⟨#[97, 98]⟩, .slice (some ⟨b1, 0, none⟩) 2 d1, .int .u64 1, .int .u64 18446744073709551615, .int .u64 0] 30)).alloc (.cells #[.int .i64 1, .string ⟨#[98]⟩, .slice (some ⟨b2, 0, none⟩) 1 d2, .int .u64 2, .int .u64 5, .int .u64 5] 30)) (.cells #[.int .i64 1, .string ⟨#[97]⟩, .slice (some ⟨b3, 0, none⟩) 1 d3, .int .u64 2, .int .u64 5, .int .u64 5] 30)
    rw [show ((w8.alloc (.cells #[.int .i64 4, .string ⟨#[97, 98]⟩, .slice (some ⟨b1, 0, none⟩) 2 d1, .int .u64 1, .int .u64 18446744073709551615, .int .u64 0] 30)).alloc (.cells #[.int .i64 1, .string ⟨#[98]⟩, .slice (some ⟨b2, 0, none⟩) 1 d2, .int .u64 2, .int .u64 5, .int .u64 5] 30)).heap.size = w8.heap.size + 1 + 1 by simp] at h1
    exact h1
  have hxE : Ext w8 (((w8.alloc (.cells #[.int .i64 4, .string ⟨#[97, 98]⟩, .slice (some ⟨b1, 0, none⟩) 2 d1, .int .u64 1, .int .u64 18446744073709551615, .int .u64 0] 30)).alloc (.cells #[.int .i64 1, .string ⟨#[98]⟩, .slice (some ⟨b2, 0, none⟩) 1 d2, .int .u64 2, .int .u64 5, .int .u64 5] 30)).alloc (.cells #[.int .i64 1, .string ⟨#[97]⟩, .slice (some ⟨b3, 0, none⟩) 1 d3, .int .u64 2, .int .u64 5, .int .u64 5] 30)) := Ext.alloc (Ext.alloc (Ext.alloc (Below.refl _ _) _) _) _
  obtain ⟨wE, hwE⟩ : ∃ wE, wE = (((w8.alloc (.cells #[.int .i64 4, .string ⟨#[97, 98]⟩, .slice (some ⟨b1, 0, none⟩) 2 d1, .int .u64 1, .int .u64 18446744073709551615, .int .u64 0] 30)).alloc (.cells #[.int .i64 1, .string ⟨#[98]⟩, .slice (some ⟨b2, 0, none⟩) 1 d2, .int .u64 2, .int .u64 5, .int .u64 5] 30)).alloc (.cells #[.int .i64 1, .string ⟨#[97]⟩, .slice (some ⟨b3, 0, none⟩) 1 d3, .int .u64 2, .int .u64 5, .int .u64 5] 30)) := ⟨_, rfl⟩
  rw [← hwE] at hE1 hE2 hE3 hxE ⊢
  clear hwE
  obtain ⟨E3, hE3d⟩ : ∃ E, E = w8.heap.size + 1 + 1 := ⟨_, rfl⟩
  obtain ⟨E2, hE2d⟩ : ∃ E, E = w8.heap.size + 1 := ⟨_, rfl⟩
  obtain ⟨E1, hE1d⟩ : ∃ E, E = w8.heap.size := ⟨_, rfl⟩
  rw [← hE3d] at hE3
  rw [← hE2d] at hE2
  rw [← hE1d] at hE1
  simp only [← hE3d]
  simp only [← hE2d]
  simp only [← hE1d]
  have he1 : w5.heap.size ≤ E1 ∧ w5.heap.size ≤ E2 ∧ w5.heap.size ≤ E3 := by omega
  clear hE1d hE2d hE3d
  have hx58 : Ext w5 wE := Ext.trans' (Ext.trans' (Ext.trans' hx6 hx7) hx8) hxE
  replace y1 := By.ext (Ext.trans' (Ext.trans' hx7 hx8) hxE) y1
  replace y2 := By.ext (Ext.trans' hx8 hxE) y2
  replace y3 := By.ext hxE y3
  have hs8 := hxE.size
  have hs7 := hx8.size
  have hs6 := hx7.size
  have hs5 := hx6.size
  have hbl : Box ((w5.heap.size ≤ b1 ∧ b1 < wE.heap.size) ∧ (w5.heap.size ≤ b2 ∧ b2 < wE.heap.size) ∧ (w5.heap.size ≤ b3 ∧ b3 < wE.heap.size)) := ⟨⟨by omega, by omega⟩, ⟨by omega, by omega⟩, by omega, by omega⟩
  clear hs5 hs6 hs7 hs8 g1 g2 g3 g4 g5 g6 hx6 hx7 hx8 hxE
  obtain ⟨p0, p1, p2, p3, p4, p5⟩ := blk6 hE1
  obtain ⟨q0, q1, q2, q3, q4, q5⟩ := blk6 hE2
  obtain ⟨r0, r1, r2, r3, r4, r5⟩ := blk6 hE3
  replace hE1 := Box.mk hE1; replace hE2 := Box.mk hE2; replace hE3 := Box.mk hE3
  replace he1 := Box.mk he1; replace hx58 := Box.mk hx58
  replace y1 := Box.mk y1; replace y2 := Box.mk y2; replace y3 := Box.mk y3
  go_region_held3 (fun w' => (w'.cell? ⟨E1, 0, none⟩ = some (.int .i64 4) ∧ w'.cell? ⟨E1, 1, none⟩ = some (.string ⟨#[97, 98]⟩) ∧ w'.cell? ⟨E1, 2, none⟩ = some (.slice (some ⟨b1, 0, none⟩) 2 d1) ∧ w'.cell? ⟨E1, 3, none⟩ = some (.int .u64 1) ∧ w'.cell? ⟨E1, 4, none⟩ = some (.int .u64 18446744073709551615) ∧ w'.cell? ⟨E1, 5, none⟩ = some (.int .u64 0)) ∧ (w'.cell? ⟨E2, 0, none⟩ = some (.int .i64 1) ∧ w'.cell? ⟨E2, 1, none⟩ = some (.string ⟨#[98]⟩) ∧ w'.cell? ⟨E2, 2, none⟩ = some (.slice (some ⟨b2, 0, none⟩) 1 d2) ∧ w'.cell? ⟨E2, 3, none⟩ = some (.int .u64 2) ∧ w'.cell? ⟨E2, 4, none⟩ = some (.int .u64 5) ∧ w'.cell? ⟨E2, 5, none⟩ = some (.int .u64 5)) ∧ (w'.cell? ⟨E3, 0, none⟩ = some (.int .i64 1) ∧ w'.cell? ⟨E3, 1, none⟩ = some (.string ⟨#[97]⟩) ∧ w'.cell? ⟨E3, 2, none⟩ = some (.slice (some ⟨b3, 0, none⟩) 1 d3) ∧ w'.cell? ⟨E3, 3, none⟩ = some (.int .u64 2) ∧ w'.cell? ⟨E3, 4, none⟩ = some (.int .u64 5) ∧ w'.cell? ⟨E3, 5, none⟩ = some (.int .u64 5)))
    (first
      | (with_reducible exact ⟨⟨keepd p0, keepd p1, keepd p2, keepd p3, keepd p4, keepd p5⟩, ⟨keepd q0, keepd q1, keepd q2, keepd q3, keepd q4, keepd q5⟩, keepd r0, keepd r1, keepd r2, keepd r3, keepd r4, keepd r5⟩)
      | (with_reducible exact ⟨⟨p0, p1, p2, p3, p4, p5⟩, ⟨q0, q1, q2, q3, q4, q5⟩, r0, r1, r2, r3, r4, r5⟩)
      | (with_reducible exact ⟨⟨keepa p0, keepa p1, keepa p2, keepa p3, keepa p4, keepa p5⟩, ⟨keepa q0, keepa q1, keepa q2, keepa q3, keepa q4, keepa q5⟩, keepa r0, keepa r1, keepa r2, keepa r3, keepa r4, keepa r5⟩))
    (first
      | (go_at_call 12; (with_reducible refine (cO4.out _).mono ?_); rintro e w9 ⟨b4, d4, rfl, g7, g8, y4, hx9⟩; replace hx9 := Box.mk (Ext.trans' (Ext.drew1 (w := wE) (Below.refl _ _)) hx9); replace g7 := Box.mk g7; replace g8 := Box.mk g8; replace y4 := Box.mk y4; obtain ⟨p0, p1, p2, p3, p4, p5⟩ := blk6 (Ext.blk hx9.out hE1.out); obtain ⟨q0, q1, q2, q3, q4, q5⟩ := blk6 (Ext.blk hx9.out hE2.out); obtain ⟨r0, r1, r2, r3, r4, r5⟩ := blk6 (Ext.blk hx9.out hE3.out))
      | (go_at_call 12; (with_reducible refine (cO5.out _).mono ?_); rintro e w10 ⟨b5, d5, rfl, g9, g10, y5, hx10⟩; have cPub : Box (Calls Try.prog 13 #[.pointer (some ⟨H, 0, none⟩), .slice (some ⟨w10.heap.size, 0, none⟩) 5 5] (w10.alloc (.cells #[.int .i64 4, .string ⟨#[97, 98]⟩, .slice (some ⟨b1, 0, none⟩) 2 d1, .int .u64 1, .int .u64 18446744073709551615, .int .u64 0, .int .i64 1, .string ⟨#[98]⟩, .slice (some ⟨b2, 0, none⟩) 1 d2, .int .u64 2, .int .u64 5, .int .u64 5, .int .i64 1, .string ⟨#[97]⟩, .slice (some ⟨b3, 0, none⟩) 1 d3, .int .u64 2, .int .u64 5, .int .u64 5, .int .i64 4, .string ⟨#[97, 99]⟩, .slice (some ⟨b4, 0, none⟩) 2 d4, .int .u64 1, .int .u64 18446744073709551615, .int .u64 0, .int .i64 4, .string ⟨#[99]⟩, .slice (some ⟨b5, 0, none⟩) 1 d5, .int .u64 1, .int .u64 18446744073709551615, .int .u64 0] 30)) fun e w' => e = .returned (.tuple #[.int .i64 5, .int .i64 0]) ∧ ∃ x y, HubOk W.heap.size w' H (some mb2) [(0, x), (1, y)] ∧ x.md = mdA ⟨[k1, k3], 1⟩ ∧ y.md = mdB ⟨[k5'], 2⟩ ∧ Mut (fun j => j ∈ fpL [((0 : Int), newW B0 ⟨#[97]⟩ kv0 [] 2 false), ((1 : Int), newW B1 ⟨#[]⟩ kv1 [4] 1 true)]) (w10.alloc (.cells #[.int .i64 4, .string ⟨#[97, 98]⟩, .slice (some ⟨b1, 0, none⟩) 2 d1, .int .u64 1, .int .u64 18446744073709551615, .int .u64 0, .int .i64 1, .string ⟨#[98]⟩, .slice (some ⟨b2, 0, none⟩) 1 d2, .int .u64 2, .int .u64 5, .int .u64 5, .int .i64 1, .string ⟨#[97]⟩, .slice (some ⟨b3, 0, none⟩) 1 d3, .int .u64 2, .int .u64 5, .int .u64 5, .int .i64 4, .string ⟨#[97, 99]⟩, .slice (some ⟨b4, 0, none⟩) 2 d4, .int .u64 1, .int .u64 18446744073709551615, .int .u64 0, .int .i64 4, .string ⟨#[99]⟩, .slice (some ⟨b5, 0, none⟩) 1 d5, .int .u64 1, .int .u64 18446744073709551615, .int .u64 0] 30)) w' ∧ ∀ b ∈ fpL [((0 : Int), x), (1, y)], b < w5.heap.size ∨ w10.heap.size < b) := ⟨pub_case hub2.out hx5.out.size hx58.out hx9.out hx10 hbl.out g7.out g8.out g9 g10 y1.out y2.out y3.out y4.out y5⟩; replace hx10 := Box.mk hx10; replace g9 := Box.mk g9; replace g10 := Box.mk g10; replace y5 := Box.mk y5; obtain ⟨p0, p1, p2, p3, p4, p5⟩ := blk6 (Ext.blk hx10.out (Ext.blk hx9.out hE1.out)); obtain ⟨q0, q1, q2, q3, q4, q5⟩ := blk6 (Ext.blk hx10.out (Ext.blk hx9.out hE2.out)); obtain ⟨r0, r1, r2, r3, r4, r5⟩ := blk6 (Ext.blk hx10.out (Ext.blk hx9.out hE3.out)))
      | (go_at_call 13; (with_reducible refine (cPub.out).mono ?_); rintro e w11 ⟨rfl, x, y, hub3, hxm, hym, hM3, hsep⟩; have hF1 := (hM3.other E1 (by have := blk_lt hE1.out; have := hx9.out.size; have := hx10.out.size; simp; omega) (fun hq => by have := hfp5.out _ hq; have := he1.out; omega)).trans (Ext.blk (Ext.alloc (Ext.trans' hx9.out hx10.out) _) hE1.out); have hF2 := (hM3.other E2 (by have := blk_lt hE2.out; have := hx9.out.size; have := hx10.out.size; simp; omega) (fun hq => by have := hfp5.out _ hq; have := he1.out; omega)).trans (Ext.blk (Ext.alloc (Ext.trans' hx9.out hx10.out) _) hE2.out); have hF3 := (hM3.other E3 (by have := blk_lt hE3.out; have := hx9.out.size; have := hx10.out.size; simp; omega) (fun hq => by have := hfp5.out _ hq; have := he1.out; omega)).trans (Ext.blk (Ext.alloc (Ext.trans' hx9.out hx10.out) _) hE3.out); obtain ⟨p0, p1, p2, p3, p4, p5⟩ := blk6 (hF1); obtain ⟨q0, q1, q2, q3, q4, q5⟩ := blk6 (hF2); obtain ⟨r0, r1, r2, r3, r4, r5⟩ := blk6 (hF3); replace hF1 := Box.mk hF1; replace hF3 := Box.mk hF3; replace hM3 := Box.mk hM3; replace hub3 := Box.mk hub3; replace hsep := Box.mk hsep; replace hxm := Box.mk hxm; replace hym := Box.mk hym; clear hF2))
  have hx11 : Ext W w11 := hM3.out.ext W (Ext.alloc (Ext.trans' hx5.out (Ext.trans' hx58.out (Ext.trans' hx9.out hx10.out))) _) (fun q hq => (hub2.out.types hq).1)
  have y1' : By w11 (.slice (some ⟨b1, 0, none⟩) 2 d1) [97, 98] := (By.ext (Ext.alloc (Ext.trans' hx9.out hx10.out) _) y1.out).block (fun b hb => by
    cases hb
    exact hM3.out.other b1 (by have := hbl.out.1.2; have := hx9.out.size; have := hx10.out.size; simp; omega) (fun hq => by have := hfp5.out _ hq; have := hbl.out.1.1; omega))
  have y3' : By w11 (.slice (some ⟨b3, 0, none⟩) 1 d3) [97] := (By.ext (Ext.alloc (Ext.trans' hx9.out hx10.out) _) y3.out).block (fun b hb => by
    cases hb
    exact hM3.out.other b3 (by have := hbl.out.2.2.2; have := hx9.out.size; have := hx10.out.size; simp; omega) (fun hq => by have := hfp5.out _ hq; have := hbl.out.2.2.1; omega))
  have hu : ∀ z ∈ [X1 b1 d1, X3 b3 d3], ∀ b, z.u.ownBlock = some b → b < w11.heap.size ∧ b ∉ x.fp := fun z hz b hb => by
    have s1 := hx9.out.size
    have s2 := hx10.out.size
    have s3 := hM3.out.size
    simp at s3
    have hxx : ∀ b, b ∈ x.fp → b < w5.heap.size ∨ w10.heap.size < b := fun b hb => hsep.out b (fpL_mem.2 ⟨(0, x), by simp, hb⟩)
    have hbl' := hbl.out
    simp only [List.mem_cons, List.not_mem_nil, or_false] at hz
    rcases hz with rfl | rfl
    · cases hb
      refine (show b1 < w11.heap.size ∧ b1 ∉ x.fp from ⟨by omega, fun hq => ?_⟩)
      have := hxx _ hq
      omega
    · cases hb
      refine (show b3 < w11.heap.size ∧ b3 ∉ x.fp from ⟨by omega, fun hq => ?_⟩)
      have := hxx _ hq
      omega
  have cT0 : Box (Calls Try.prog 30 #[.pointer (some ⟨H, 0, none⟩), .int .i64 0, .int .i64 9, .slice (some ⟨w11.heap.size, 0, none⟩) 2 2] (w11.alloc (.cells #[.int .i64 4, .string ⟨#[97, 98]⟩, .slice (some ⟨b1, 0, none⟩) 2 d1, .int .u64 1, .int .u64 18446744073709551615, .int .u64 0, .int .i64 1, .string ⟨#[97]⟩, .slice (some ⟨b3, 0, none⟩) 1 d3, .int .u64 2, .int .u64 5, .int .u64 5] 30)) fun e w' => e = .returned (.bool true) ∧ ∃ x', HubOk W.heap.size w' H (some mb2) [(0, x'), (1, y)] ∧ x'.m = 0 ∧ x'.lost = 1 ∧ Ext W w') := ⟨take_c hub3.out (j := 0) rfl [X1 b1 d1, X3 b3 d3] (fun z hz => by
    simp only [List.mem_cons, List.not_mem_nil, or_false] at hz
    rcases hz with rfl | rfl
    · exact X1_at y1'
    · exact X3_at y3') hu hxm.out (by show 2 ≤ 9; decide) hx11⟩
  replace hx11 := Box.mk hx11
  replace hu := Box.mk hu
  clear hF1 hF3 hM3 hub2 hx5 hx58 hx9 hx10 y1 y2 y3 y4 y5 y1' y3' hbl hfp5 g7 g8 g9 g10 cPub hsep he1 hE1 hE2 hE3 hu hxm cO1 cO4 cX2 cX3 hKB hRB hub0
  go_upto_region 9 with (first
    | (go_at_call 30; (with_reducible refine (cT0.out).mono ?_); rintro e w12 ⟨rfl, x', hub4, hm4, hl4, hx12⟩; have cL0 : Box (Calls Try.prog 14 #[.pointer (some ⟨H, 0, none⟩), .int .i64 0, .int .i64 1] w12 fun e w' => e = .returned (.bool true) ∧ w12 = w') := ⟨llost_ok hub4 (j := 0) rfl 1 (by rw [hl4]; rfl)⟩; replace hub4 := Box.mk hub4; replace hm4 := Box.mk hm4; replace hx12 := Box.mk hx12; clear hl4)
    | (go_at_call 30; (with_reducible refine (cT1.out).mono ?_); rintro e w15 ⟨rfl, y', hub5, hm5, hl5, hx15⟩; have cL1 : Box (Calls Try.prog 14 #[.pointer (some ⟨H, 0, none⟩), .int .i64 1, .int .i64 2] w15 fun e w' => e = .returned (.bool true) ∧ w15 = w') := ⟨llost_ok hub5 (j := 1) rfl 2 (by rw [hl5]; rfl)⟩; replace hub5 := Box.mk hub5; replace hx15 := Box.mk hx15; clear hm5 hl5)
    | (go_at_call 12; (with_reducible refine (cO5.out _).mono ?_); rintro e w14 ⟨b6, d6, rfl, g11, g12, y6, hx14⟩; have cT1 : Box (Calls Try.prog 30 #[.pointer (some ⟨H, 0, none⟩), .int .i64 1, .int .i64 9, .slice (some ⟨w14.heap.size, 0, none⟩) 1 1] (w14.alloc (.cells #[.int .i64 4, .string ⟨#[99]⟩, .slice (some ⟨b6, 0, none⟩) 1 d6, .int .u64 1, .int .u64 18446744073709551615, .int .u64 0] 30)) fun e w' => e = .returned (.bool true) ∧ ∃ y', HubOk W.heap.size w' H (some mb2) [(0, x'), (1, y')] ∧ y'.m = 0 ∧ y'.lost = 2 ∧ Ext W w') := ⟨take_c (hub4.out.ext hx14) (j := 1) rfl [X5 b6 d6] (fun z hz => by rw [List.mem_singleton.1 hz]; exact X5_at y6) (fun z hz b hb => by rw [List.mem_singleton.1 hz] at hb; cases hb; exact (show b6 < w14.heap.size ∧ b6 ∉ y.fp from ⟨g12, fun hq => by have := (hub4.out.types (fpL_mem.2 ⟨(1, y), by simp, hq⟩)).2.1; omega⟩)) hym.out (by show 1 ≤ 9; decide) (Ext.trans' hx12.out hx14)⟩; clear g11 g12 y6 hx14)
    | (go_at_call 14; (with_reducible refine (cL0.out).mono ?_); rintro e w' ⟨rfl, rfl⟩)
    | (go_at_call 14; (with_reducible refine (cL1.out).mono ?_); rintro e w' ⟨rfl, rfl⟩))
  have cRm : Box (Calls Try.prog 22 #[.pointer (some ⟨H, 0, none⟩), .int .i64 0] w15 fun e w' => e = .returned (.tuple #[.int .i64 0, .int .i64 0]) ∧ HubOk W.heap.size w' H (some mb2) [((1 : Int), y')] ∧ Ext W w') := ⟨(remove_ok hub5.out (j := 0) rfl).mono (by
    rintro e w' ⟨he, h1, mb, hmb, h2, h3⟩
    cases hmb
    refine ⟨by rw [he, hm4.out]; rfl, h1, h3.ext W hx15.out (fun q hq => by rw [hq]; exact h2)⟩)⟩
  clear hub5 hx15 hm4
  go_upto_region 12 with (first
    | (go_at_call 22; (with_reducible refine (cRm.out).mono ?_); rintro e w16 ⟨rfl, hub6, hx16⟩; have cA3 : Box (Calls Try.prog 11 #[.pointer (some ⟨H, 0, none⟩), .agg #[.string ⟨#[]⟩, .slice none 0 0, .int .i64 1, .bool false], .int .i64 0, .int .i64 0] w16 fun e w' => e = .returned (.bool true) ∧ Ext W w' ∧ ∃ (mbx B : Nat) (kv : Value), HubOk W.heap.size w' H (some mbx) [((1 : Int), y'), ((0 : Int), newW B ⟨#[]⟩ kv [] 1 false)]) := ⟨(adds_ok hub6 ⟨#[]⟩ none 0 [] 1 false (fun j u hj => by simp at hj) (by decide) (by decide) (by decide) (by show 1 < 64; decide) hx16.size 0 (by simp) (fun k hk => by omega)).mono (by
        rintro e w' ⟨he, mbx, B, kv, h1, h2, h3, h4⟩
        refine ⟨he, h4.ext W hx16 (fun q hq => ?_), mbx, B, kv, h1⟩
        rcases hq with hq | hq
        · rw [hq]; exact hub6.low
        · cases hq
          rcases hub6.mp with ⟨h5, _⟩ | ⟨m, h5, h6, _⟩
          · cases h5
          · cases h5; exact h6)⟩; clear hub6 hx16)
    | (go_at_call 11; (with_reducible refine (cA3.out).mono ?_); rintro e w17 ⟨rfl, hx17, mb3, B3, kv3, hub7⟩; have cTk : Box (Calls Try.prog 19 #[.pointer (some ⟨H, 0, none⟩), .int .i64 5, .int .i64 1] w17 fun e w' => e = .returned (.tuple #[.slice none 0 0, .int .i64 9]) ∧ w17 = w') := ⟨htake_no hub7 (by simp) 1⟩; have cB1 : Box (Calls Try.prog 11 #[.pointer (some ⟨H, 0, none⟩), .agg #[.string ⟨#[]⟩, .slice none 0 0, .int .i64 0, .bool false], .int .i64 0, .int .i64 2] w17 fun e w' => e = .returned (.bool true) ∧ Ext w17 w') := ⟨adds_bad hub7 ⟨#[]⟩ none 0 [] 0 false (fun j u hj => by simp at hj) (by decide) (by decide) (by decide)⟩; have cB2 : Box (∀ w, Ext w17 w → Calls Try.prog 11 #[.pointer (some ⟨H, 0, none⟩), .agg #[.string ⟨#[]⟩, .slice (some ⟨w.heap.size, 0, none⟩) 2 2, .int .i64 1, .bool false], .int .i64 0, .int .i64 2] (w.alloc (.cells #[.int .i64 4, .int .i64 4] 25)) fun e w' => e = .returned (.bool true) ∧ Ext w w') := ⟨fun w hx => (adds_bad (hub7.ext (Ext.alloc hx (.cells #[.int .i64 4, .int .i64 4] 25))) ⟨#[]⟩ (some ⟨w.heap.size, 0, none⟩) 2 [4, 4] 1 false (two_cell w) (by decide) (by decide) (by decide)).mono (by
        rintro e w' ⟨he, h1⟩
        exact ⟨he, Ext.trans' (Ext.alloc (Below.refl _ _) _) h1⟩)⟩; replace hx17 := Box.mk hx17; clear hub7))
  go_wp2_with (first
    | (go_at_call 19; (with_reducible refine (cTk.out).mono ?_); rintro e w' ⟨rfl, rfl⟩)
    | (go_at_call 11; (with_reducible refine (cB1.out).mono ?_); rintro e w18 ⟨rfl, hx18⟩; replace hx18 := Box.mk hx18)
    | (go_at_call 11; (with_reducible refine (cB2.out _ hx18.out).mono ?_); rintro e w19 ⟨rfl, hx19⟩; replace hx19 := Box.mk hx19))
  go_ret
  exact ⟨rfl, Ext.trans' hx17.out (Ext.trans' hx18.out hx19.out)⟩
end Go.Proofs.Ytnblbneehogadaa
