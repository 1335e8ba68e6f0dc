import Derived.Test.YtcofejbkbcdopaaDoorR16
/- Contracts: the law's words of kinds; the law's line of a score. -/
namespace Go.Proofs.YtcofejbkbcdopaaDoor
open Go.RowKit
set_option maxRecDepth 100000 in
set_option maxHeartbeats 4000000 in
theorem kinds_any (w : World) : Calls Tryd.prog 25 #[] w fun e w' => (∃ B, e = .returned (.slice (some ⟨B, 0, none⟩) 8 8) ∧ ∀ k, 1 ≤ k → k ≤ 8 → w'.cell? ⟨B, k - 1, none⟩ = some (.string (kS k))) ∧ Ext w w' := by
  go_enter Tryd.func25, Tryd.ntmps25
  go_wp2
  go_ret
  refine ⟨⟨_, rfl, fun k h1 h8 => ?_⟩, Ext.alloc (Below.refl _ _) _⟩
  rw [Lib.cell_of_heap (newblk w (.cells #[.string ⟨#[108, 114, 117]⟩, .string ⟨#[115, 101, 103, 109, 101, 110, 116]⟩, .string ⟨#[97, 114, 99]⟩, .string ⟨#[108, 102, 117]⟩, .string ⟨#[115, 101, 99, 111, 110, 100]⟩, .string ⟨#[116, 119, 111, 113]⟩, .string ⟨#[116, 105, 110, 121]⟩, .string ⟨#[98, 101, 115, 116]⟩] 9))]
  obtain rfl | rfl | rfl | rfl | rfl | rfl | rfl | rfl := kW_cases k h1 h8
  all_goals rfl
set_option maxRecDepth 100000 in
set_option maxHeartbeats 4000000 in
theorem lline_bad (k s b a : Int) (h : scB k s b a = false) (w : World) : Calls Tryd.prog 12 #[.agg #[.int .i64 k, .int .i64 s, .int .i64 b, .int .i64 a]] w fun e w' => e = .returned (.tuple #[.string ⟨#[]⟩, .bool false]) ∧ Ext w w' := by
  have ch : Box _ := ⟨fun w => lhas_any a b w⟩
  have hx : Ext w (w.alloc (.cells #[.int .i64 k, .int .i64 s, .int .i64 b, .int .i64 a] 33)) := Ext.alloc (Below.refl _ _) _
  have key : decide (k < 1) = true ∨ (decide (k < 1) = false ∧ decide (8 < k) = true) ∨ (decide (k < 1) = false ∧ decide (8 < k) = false ∧ decide (s < 1) = true) ∨ (decide (k < 1) = false ∧ decide (8 < k) = false ∧ decide (s < 1) = false ∧ decide (1024 < s) = true) ∨
      (decide (k < 1) = false ∧ decide (8 < k) = false ∧ decide (s < 1) = false ∧ decide (1024 < s) = false ∧ hasB a b = false) := by
    unfold scB at h
    by_cases h1 : k < 1
    · exact Or.inl (decide_eq_true h1)
    refine Or.inr ?_
    by_cases h2 : 8 < k
    · exact Or.inl ⟨decide_eq_false h1, decide_eq_true h2⟩
    refine Or.inr ?_
    by_cases h3 : s < 1
    · exact Or.inl ⟨decide_eq_false h1, decide_eq_false h2, decide_eq_true h3⟩
    refine Or.inr ?_
    by_cases h4 : 1024 < s
    · exact Or.inl ⟨decide_eq_false h1, decide_eq_false h2, decide_eq_false h3, decide_eq_true h4⟩
    refine Or.inr ⟨decide_eq_false h1, decide_eq_false h2, decide_eq_false h3, decide_eq_false h4, ?_⟩
    rw [decide_eq_true (show 1 ≤ k ∧ k ≤ 8 by omega), decide_eq_true (show 1 ≤ s by omega), decide_eq_true (show s ≤ 1024 by omega)] at h
    simpa using h
  clear h
  rcases key with d1 | ⟨d1, d2⟩ | ⟨d1, d2, d3⟩ | ⟨d1, d2, d3, d4⟩ | ⟨d1, d2, d3, d4, hh⟩
  all_goals (try rw [hh] at ch)
  all_goals
    go_enter Tryd.func12, Tryd.ntmps12
    go_wp2
    go_region
    go_wp2_with (go_at_call 7; (with_reducible refine (ch.out _).mono ?_); rintro e w' ⟨rfl, rfl⟩)
    go_ret2
    exact ⟨rfl, Ext.drew1 hx⟩
def ldK : Op := Op.load 9 (Operand.tmp 40)
set_option maxRecDepth 100000 in
set_option maxHeartbeats 8000000 in
theorem lline_ok (x : Sc) (hk : x.ok) (w : World) : Calls Tryd.prog 12 #[.agg #[.int .i64 x.k, .int .i64 x.size, .int .i64 x.b, .int .i64 x.a]] w fun e w' => e = .returned (.tuple #[.string ⟨x.line.toArray⟩, .bool true]) ∧ Ext w w' := by
  obtain ⟨k1, k8, s1, s2, hab, hb⟩ := hk
  have ch : Box _ := ⟨fun w => lhas_any x.a x.b w⟩
  have hh : hasB x.a x.b = true := (hasB_iff _ _).2 ⟨by omega, by omega, by omega⟩
  rw [hh] at ch
  clear hh
  have cK : Box _ := ⟨kinds_any⟩
  have c1 : Box _ := ⟨fun w => l_dec x.size (by omega) w⟩
  have c2 : Box _ := ⟨fun w => l_dec x.a (by omega) w⟩
  have c3 : Box _ := ⟨fun w => l_dec x.b (by omega) w⟩
  have c4 : Box _ := ⟨fun w => lratio_any x.a x.b hab hb w⟩
  have c5 : Box _ := ⟨fun w => lpercent_any x.a x.b hab hb w⟩
  have hfin : (⟨x.line.toArray⟩ : ByteArray) = kS x.k ++ ⟨#[32, 97, 116, 32]⟩ ++ digs x.size ++ ⟨#[58, 32]⟩ ++ digs x.a ++ ⟨#[32, 111, 102, 32]⟩ ++ digs x.b ++ ⟨#[44, 32]⟩ ++ ⟨(ratioL x.a x.b).toArray⟩ ++ ⟨#[32]⟩ ++ ⟨(percentL x.a x.b).toArray⟩ ++ ⟨#[10]⟩ := by
    apply str_ext
    simp [Sc.line, Sc.endL, kS, digs, dd, ByteArray.data_append]
  replace hfin := Box.mk hfin
  have z0 : (kS x.k).size ≤ 7 := kW_len x.k
  have z1 := digs_le x.size (by omega)
  have z2 := digs_le x.a (by omega)
  have z3 := digs_le x.b (by omega)
  have z4 : (⟨(ratioL x.a x.b).toArray⟩ : ByteArray).size ≤ 21 := ratioL_len _ _ hab hb
  have z5 : (⟨(percentL x.a x.b).toArray⟩ : ByteArray).size ≤ 7 := percentL_len _ _ hab
  have hx : Ext w (w.alloc (.cells #[.int .i64 x.k, .int .i64 x.size, .int .i64 x.b, .int .i64 x.a] 33)) := Ext.alloc (Below.refl _ _) _
  have hB := newblk w (.cells #[.int .i64 x.k, .int .i64 x.size, .int .i64 x.b, .int .i64 x.a] 33)
  have d1 : decide ((x.k : Int) < 1) = false := decide_eq_false (by omega)
  have d2 : decide ((8 : Int) < (x.k : Int)) = false := decide_eq_false (by omega)
  have d3 : decide ((x.size : Int) < 1) = false := decide_eq_false (by omega)
  have d4 : decide ((1024 : Int) < (x.size : Int)) = false := decide_eq_false (by omega)
  have e1 : decide (x.k = 0) = false := decide_eq_false (by omega)
  have e2 : decide (8 < x.k) = false := decide_eq_false (by omega)
  have e3 : decide (x.size = 0) = false := decide_eq_false (by omega)
  have e4 : decide (1024 < x.size) = false := decide_eq_false (by omega)
  have e5 : ¬ x.k = 0 := by omega
  have e6 : ¬ x.size = 0 := by omega
  have u1 : IntKind.i64.wrap ((x.k : Int) - 1) = (x.k : Int) - 1 := by rw [IntKind.wrap_i64]; omega
  have u2 : (0 : Int) ≤ (x.k : Int) - 1 := by omega
  have u3 : (x.k : Int) - 1 < 8 := by omega
  have u4 : ((x.k : Int) - 1).toNat = x.k - 1 := by omega
  have u5 : 1 ≤ (x.k : Int) := by omega
  have hkk : Box (1 ≤ x.k ∧ x.k ≤ 8) := ⟨⟨k1, k8⟩⟩
  generalize (⟨x.line.toArray⟩ : ByteArray) = yL at *
  generalize hyk : kS x.k = y0 at *
  replace hyk := Box.mk hyk
  generalize digs x.size = y1 at *
  generalize digs x.a = y2 at *
  generalize digs x.b = y3 at *
  generalize (⟨(ratioL x.a x.b).toArray⟩ : ByteArray) = y4 at *
  generalize (⟨(percentL x.a x.b).toArray⟩ : ByteArray) = y5 at *
  generalize x.k = k at *
  generalize x.size = sz at *
  generalize x.a = a at *
  generalize x.b = b at *
  have g1 : ¬ 9223372036854775807 < y0.size + 4 := by omega
  have g2 : ¬ 9223372036854775807 < y0.size + 4 + y1.size := by omega
  have g3 : ¬ 9223372036854775807 < y0.size + 4 + y1.size + 2 := by omega
  have g4 : ¬ 9223372036854775807 < y0.size + 4 + y1.size + 2 + y2.size := by omega
  have g5 : ¬ 9223372036854775807 < y0.size + 4 + y1.size + 2 + y2.size + 4 := by omega
  have g6 : ¬ 9223372036854775807 < y0.size + 4 + y1.size + 2 + y2.size + 4 + y3.size := by omega
  have g7 : ¬ 9223372036854775807 < y0.size + 4 + y1.size + 2 + y2.size + 4 + y3.size + 2 := by omega
  have g8 : ¬ 9223372036854775807 < y0.size + 4 + y1.size + 2 + y2.size + 4 + y3.size + 2 + y4.size := by omega
  have g9 : ¬ 9223372036854775807 < y0.size + 4 + y1.size + 2 + y2.size + 4 + y3.size + 2 + y4.size + 1 := by omega
  have g10 : ¬ 9223372036854775807 < y0.size + 4 + y1.size + 2 + y2.size + 4 + y3.size + 2 + y4.size + 1 + y5.size := by omega
  have g11 : ¬ 9223372036854775807 < y0.size + 4 + y1.size + 2 + y2.size + 4 + y3.size + 2 + y4.size + 1 + y5.size + 1 := by omega
  clear hab hb s1 s2 k1 k8
  obtain ⟨m0, m1, m2, m3⟩ := blk4 hB
  go_enter Tryd.func12, Tryd.ntmps12
  go_wp2
  go_region
  go_wp2_with (go_at_call 7; (with_reducible refine (ch.out _).mono ?_); rintro e w' ⟨rfl, rfl⟩)
  rw [show Op.load 9 (Operand.tmp 40) = ldK from rfl]
  have hop : ldK = Op.load 9 (Operand.tmp 40) := rfl
  replace hx := Ext.drew1 (Ext.drew1 hx)
  have hdd := Ext.drew1 (Ext.drew1 (Below.refl (w.alloc (.cells #[.int .i64 k, .int .i64 sz, .int .i64 b, .int .i64 a] 33)).heap.size (w.alloc (.cells #[.int .i64 k, .int .i64 sz, .int .i64 b, .int .i64 a] 33))))
  replace m0 := Ext.cell hdd m0
  replace m1 := Ext.cell hdd m1
  clear m2 m3 hB hdd
  go_region_held3 (fun w' => w'.cell? ⟨w.heap.size, 0, none⟩ = some (.int .i64 k) ∧ w'.cell? ⟨w.heap.size, 1, none⟩ = some (.int .i64 sz))
    (first
      | (with_reducible exact ⟨m0, m1⟩)
      | go_keep)
    (first
      | (go_at_call 25; (with_reducible refine (cK.out _).mono ?_); rintro e w3 ⟨⟨B, rfl, hcell⟩, hb⟩; have mk := hcell k hkk.out.1 hkk.out.2; rw [hyk.out] at mk; clear hcell; replace hx := Ext.trans' hx hb; replace m0 := Ext.cell hb m0; replace m1 := Ext.cell hb m1; clear hb)
      | (go_at_call 18; (with_reducible refine (c1.out _).mono ?_); rintro e w3 ⟨rfl, hb⟩; replace hx := Ext.trans' hx hb; replace m0 := Ext.cell hb m0; replace m1 := Ext.cell hb m1; (try replace mk := Ext.cell hb mk); clear hb)
      | (go_at_call 18; (with_reducible refine (c2.out _).mono ?_); rintro e w3 ⟨rfl, hb⟩; replace hx := Ext.trans' hx hb; replace m0 := Ext.cell hb m0; replace m1 := Ext.cell hb m1; (try replace mk := Ext.cell hb mk); clear hb)
      | (go_at_call 18; (with_reducible refine (c3.out _).mono ?_); rintro e w3 ⟨rfl, hb⟩; replace hx := Ext.trans' hx hb; replace m0 := Ext.cell hb m0; replace m1 := Ext.cell hb m1; (try replace mk := Ext.cell hb mk); clear hb)
      | (go_at_call 10; (with_reducible refine (c4.out _).mono ?_); rintro e w3 ⟨rfl, hb⟩; replace hx := Ext.trans' hx hb; replace m0 := Ext.cell hb m0; replace m1 := Ext.cell hb m1; (try replace mk := Ext.cell hb mk); clear hb)
      | (go_at_call 11; (with_reducible refine (c5.out _).mono ?_); rintro e w3 ⟨rfl, hb⟩; replace hx := Ext.trans' hx hb; replace m0 := Ext.cell hb m0; replace m1 := Ext.cell hb m1; (try replace mk := Ext.cell hb mk); clear hb))
  all_goals
    go_wp2
    go_ret2
    exact ⟨by rw [hfin.out]; rfl, hx⟩
end Go.Proofs.YtcofejbkbcdopaaDoor
