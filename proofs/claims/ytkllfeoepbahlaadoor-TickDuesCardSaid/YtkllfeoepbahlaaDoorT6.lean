import Derived.Test.YtkllfeoepbahlaaDoorT5
/- The examples of the chapter: 'known' returns true. -/
namespace Go.Proofs.YtkllfeoepbahlaaDoor
open Go.RowKit

theorem txt_one (n : Nat) (h : n < 10) : txtL n = [UInt8.ofNat (48 + n)] := by
  unfold txtL never
  rw [if_neg (by omega), Lib.decDigits, dif_pos h]
theorem txt_120 : txt 120 = ⟨#[49, 50, 48]⟩ := by
  rw [txt_digs 120 (by decide), digs_ten 120 (by decide), digs_ten (120 / 10) (by decide), digs_one (120 / 10 / 10) (by decide), digs_one (120 / 10 % 10) (by decide), digs_one (120 % 10) (by decide)]
  rfl
theorem parse_0 : parseT [48] = some 0 := by
  have := parseT_txt 0 (by decide)
  rwa [txt_one 0 (by decide)] at this
theorem parse_007 : parseT [48, 48, 55] = none := parseT_no _ 7 (by decide) rfl (by rw [txt_one 7 (by decide)]; decide)
theorem parse_max : parseT [49, 56, 52, 52, 54, 55, 52, 52, 48, 55, 51, 55, 48, 57, 53, 53, 49, 54, 49, 53] = none := parseT_no _ never (by decide) rfl (by decide)

set_option maxHeartbeats 4000000 in
theorem known_any (w : World) (hw : Env w) : Calls Tryd.prog 8 #[] w fun e w' => e = .returned (.bool true) ∧ Ext w w' := by
  have k1 : Box (∀ w, Calls Tryd.prog 9 #[.int .u64 5, .int .u64 7] w fun e w' => e = .returned (.int .u64 12) ∧ w = w') := ⟨fun w => add_any 5 7 w (by omega) (by omega)⟩
  have k2 : Box (∀ w, Calls Tryd.prog 9 #[.int .u64 18446744073709551615, .int .u64 0] w fun e w' => e = .returned (.int .u64 18446744073709551615) ∧ w = w') := ⟨fun w => add_any 18446744073709551615 0 w (by omega) (by omega)⟩
  have k3 : Box (∀ w, Calls Tryd.prog 9 #[.int .u64 18446744073709551613, .int .u64 1] w fun e w' => e = .returned (.int .u64 18446744073709551614) ∧ w = w') := ⟨fun w => add_any 18446744073709551613 1 w (by omega) (by omega)⟩
  have k4 : Box (∀ w, Calls Tryd.prog 9 #[.int .u64 18446744073709551613, .int .u64 2] w fun e w' => e = .returned (.int .u64 18446744073709551615) ∧ w = w') := ⟨fun w => add_any 18446744073709551613 2 w (by omega) (by omega)⟩
  have f1 : Box (∀ w, Calls Tryd.prog 11 #[.int .u64 9, .int .u64 4] w fun e w' => e = .returned (.int .u64 9) ∧ w = w') := ⟨fun w => eff_any 9 4 w (by omega) (by omega)⟩
  have f2 : Box (∀ w, Calls Tryd.prog 11 #[.int .u64 4, .int .u64 9] w fun e w' => e = .returned (.int .u64 9) ∧ w = w') := ⟨fun w => eff_any 4 9 w (by omega) (by omega)⟩
  have d1 : Box (∀ w, Calls Tryd.prog 15 #[.int .u64 5, .int .u64 5] w fun e w' => e = .returned (.bool true) ∧ w = w') := ⟨fun w => due_any 5 5 w (by omega) (by omega)⟩
  have d2 : Box (∀ w, Calls Tryd.prog 15 #[.int .u64 6, .int .u64 5] w fun e w' => e = .returned (.bool false) ∧ w = w') := ⟨fun w => due_any 6 5 w (by omega) (by omega)⟩
  have d3 : Box (∀ w, Calls Tryd.prog 15 #[.int .u64 18446744073709551615, .int .u64 18446744073709551615] w fun e w' => e = .returned (.bool false) ∧ w = w') := ⟨fun w => due_any 18446744073709551615 18446744073709551615 w (by omega) (by omega)⟩
  have d4 : Box (∀ w, Calls Tryd.prog 15 #[.int .u64 5, .int .u64 18446744073709551615] w fun e w' => e = .returned (.bool true) ∧ w = w') := ⟨fun w => due_any 5 18446744073709551615 w (by omega) (by omega)⟩
  have l1 : Box (∀ w, Calls Tryd.prog 17 #[.int .u64 9, .int .u64 5] w fun e w' => e = .returned (.int .u64 4) ∧ w = w') := ⟨fun w => left_any 9 5 w (by omega) (by omega)⟩
  have l2 : Box (∀ w, Calls Tryd.prog 17 #[.int .u64 5, .int .u64 9] w fun e w' => e = .returned (.int .u64 0) ∧ w = w') := ⟨fun w => left_any 5 9 w (by omega) (by omega)⟩
  have l3 : Box (∀ w, Calls Tryd.prog 17 #[.int .u64 18446744073709551615, .int .u64 5] w fun e w' => e = .returned (.int .u64 18446744073709551615) ∧ w = w') := ⟨fun w => left_any 18446744073709551615 5 w (by omega) (by omega)⟩
  have g1 : Box (∀ w, Calls Tryd.prog 20 #[.int .u64 66051, .int .i64 0, .int .u8 3, .int .i64 0] w fun e w' => e = .returned (.bool true) ∧ w = w') := ⟨fun w => digitf_any 66051 0 3 0 w (by omega) (by decide) (by decide)⟩
  have g2 : Box (∀ w, Calls Tryd.prog 20 #[.int .u64 66051, .int .i64 1, .int .u8 2, .int .i64 0] w fun e w' => e = .returned (.bool true) ∧ w = w') := ⟨fun w => digitf_any 66051 1 2 0 w (by omega) (by decide) (by decide)⟩
  have g3 : Box (∀ w, Calls Tryd.prog 20 #[.int .u64 66051, .int .i64 2, .int .u8 1, .int .i64 0] w fun e w' => e = .returned (.bool true) ∧ w = w') := ⟨fun w => digitf_any 66051 2 1 0 w (by omega) (by decide) (by decide)⟩
  have g4 : Box (∀ w, Calls Tryd.prog 20 #[.int .u64 66051, .int .i64 3, .int .u8 0, .int .i64 0] w fun e w' => e = .returned (.bool true) ∧ w = w') := ⟨fun w => digitf_any 66051 3 0 0 w (by omega) (by decide) (by decide)⟩
  have g5 : Box (∀ w, Calls Tryd.prog 20 #[.int .u64 1, .int .i64 8, .int .u8 0, .int .i64 3] w fun e w' => e = .returned (.bool true) ∧ w = w') := ⟨fun w => digitf_any 1 8 0 3 w (by omega) (by decide) (by decide)⟩
  have t1 : Box (∀ w', Ext w w' → Calls Tryd.prog 22 #[.int .u64 120] w' fun e w2 => e = .returned (.string ⟨#[49, 50, 48]⟩) ∧ Ext w' w2) := ⟨fun w' h => by have := text_any 120 w' (by omega) (hw.tabs.ext h); rwa [txt_120] at this⟩
  have t2 : Box (∀ w', Ext w w' → Calls Tryd.prog 22 #[.int .u64 18446744073709551615] w' fun e w2 => e = .returned (.string ⟨#[110, 101, 118, 101, 114]⟩) ∧ Ext w' w2) := ⟨fun w' h => text_any never w' (by decide) (hw.tabs.ext h)⟩
  have p1 : Box (∀ w', Ext w w' → Calls Tryd.prog 24 #[.string ⟨#[48]⟩, .int .u64 0, .int .i64 0] w' fun e w2 => e = .returned (.bool true) ∧ Ext w' w2) := ⟨fun w' h => parsesf_any _ _ _ w' (by decide) (hw.ext h) (by rw [show (⟨#[48]⟩ : ByteArray).data.toList = [48] from rfl, parse_0]; rfl) (by rw [show (⟨#[48]⟩ : ByteArray).data.toList = [48] from rfl, parse_0]; rfl)⟩
  have p2 : Box (∀ w', Ext w w' → Calls Tryd.prog 24 #[.string ⟨#[110, 101, 118, 101, 114]⟩, .int .u64 18446744073709551615, .int .i64 0] w' fun e w2 => e = .returned (.bool true) ∧ Ext w' w2) := ⟨fun w' h => parsesf_any _ _ _ w' (by decide) (hw.ext h) (by rw [show (⟨#[110, 101, 118, 101, 114]⟩ : ByteArray).data.toList = neverL from rfl, parseT_never]; rfl) (by rw [show (⟨#[110, 101, 118, 101, 114]⟩ : ByteArray).data.toList = neverL from rfl, parseT_never]; rfl)⟩
  have p3 : Box (∀ w', Ext w w' → Calls Tryd.prog 24 #[.string ⟨#[48, 48, 55]⟩, .int .u64 0, .int .i64 6] w' fun e w2 => e = .returned (.bool true) ∧ Ext w' w2) := ⟨fun w' h => parsesf_any _ _ _ w' (by decide) (hw.ext h) (by rw [show (⟨#[48, 48, 55]⟩ : ByteArray).data.toList = [48, 48, 55] from rfl, parse_007]; rfl) (by rw [show (⟨#[48, 48, 55]⟩ : ByteArray).data.toList = [48, 48, 55] from rfl, parse_007]; rfl)⟩
  have p4 : Box (∀ w', Ext w w' → Calls Tryd.prog 24 #[.string ⟨#[49, 56, 52, 52, 54, 55, 52, 52, 48, 55, 51, 55, 48, 57, 53, 53, 49, 54, 49, 53]⟩, .int .u64 0, .int .i64 6] w' fun e w2 => e = .returned (.bool true) ∧ Ext w' w2) := ⟨fun w' h => parsesf_any _ _ _ w' (by decide) (hw.ext h) (by rw [show (⟨#[49, 56, 52, 52, 54, 55, 52, 52, 48, 55, 51, 55, 48, 57, 53, 53, 49, 54, 49, 53]⟩ : ByteArray).data.toList = [49, 56, 52, 52, 54, 55, 52, 52, 48, 55, 51, 55, 48, 57, 53, 53, 49, 54, 49, 53] from rfl, parse_max]; rfl) (by rw [show (⟨#[49, 56, 52, 52, 54, 55, 52, 52, 48, 55, 51, 55, 48, 57, 53, 53, 49, 54, 49, 53]⟩ : ByteArray).data.toList = [49, 56, 52, 52, 54, 55, 52, 52, 48, 55, 51, 55, 48, 57, 53, 53, 49, 54, 49, 53] from rfl, parse_max]; rfl)⟩
  have r3 : Box (∀ w, Calls Tryd.prog 13 #[.slice (some ⟨w.heap.size, 0, none⟩) 3 3] (w.alloc (.cells #[.int .u64 3, .int .u64 18446744073709551615, .int .u64 2] 23)) fun e w' => e = .returned (.int .u64 2) ∧ Ext w w') := ⟨fun w => (first_any (some ⟨w.heap.size, 0, none⟩) 3 [3, 18446744073709551615, 2] _ (by decide) (by simp) (cellsAt_of fun j u hj => cells_new w [.int .u64 3, .int .u64 18446744073709551615, .int .u64 2] 23 j u hj)).mono fun e w' ⟨he, hw⟩ => ⟨he, hw ▸ Ext.alloc (Below.refl _ _) _⟩⟩
  have r0 : Box (∀ w, Calls Tryd.prog 13 #[.slice none 0 0] w fun e w' => e = .returned (.int .u64 18446744073709551615) ∧ w = w') := ⟨fun w => first_any none 0 [] w (by decide) (by simp) (fun j u hj => by simp at hj)⟩
  have hx : Ext w w := Below.refl _ _
  clear hw
  go_enter Tryd.func8, Tryd.ntmps8
  go_wp2_with (first
    | (go_at_call 9; (with_reducible refine (k1.out _).mono ?_); rintro e w' ⟨rfl, rfl⟩) | (go_at_call 9; (with_reducible refine (k2.out _).mono ?_); rintro e w' ⟨rfl, rfl⟩) | (go_at_call 9; (with_reducible refine (k3.out _).mono ?_); rintro e w' ⟨rfl, rfl⟩) | (go_at_call 9; (with_reducible refine (k4.out _).mono ?_); rintro e w' ⟨rfl, rfl⟩)
    | (go_at_call 11; (with_reducible refine (f1.out _).mono ?_); rintro e w' ⟨rfl, rfl⟩) | (go_at_call 11; (with_reducible refine (f2.out _).mono ?_); rintro e w' ⟨rfl, rfl⟩)
    | (go_at_call 15; (with_reducible refine (d1.out _).mono ?_); rintro e w' ⟨rfl, rfl⟩) | (go_at_call 15; (with_reducible refine (d2.out _).mono ?_); rintro e w' ⟨rfl, rfl⟩) | (go_at_call 15; (with_reducible refine (d3.out _).mono ?_); rintro e w' ⟨rfl, rfl⟩) | (go_at_call 15; (with_reducible refine (d4.out _).mono ?_); rintro e w' ⟨rfl, rfl⟩)
    | (go_at_call 17; (with_reducible refine (l1.out _).mono ?_); rintro e w' ⟨rfl, rfl⟩) | (go_at_call 17; (with_reducible refine (l2.out _).mono ?_); rintro e w' ⟨rfl, rfl⟩) | (go_at_call 17; (with_reducible refine (l3.out _).mono ?_); rintro e w' ⟨rfl, rfl⟩)
    | (go_at_call 20; (with_reducible refine (g1.out _).mono ?_); rintro e w' ⟨rfl, rfl⟩) | (go_at_call 20; (with_reducible refine (g2.out _).mono ?_); rintro e w' ⟨rfl, rfl⟩) | (go_at_call 20; (with_reducible refine (g3.out _).mono ?_); rintro e w' ⟨rfl, rfl⟩) | (go_at_call 20; (with_reducible refine (g4.out _).mono ?_); rintro e w' ⟨rfl, rfl⟩) | (go_at_call 20; (with_reducible refine (g5.out _).mono ?_); rintro e w' ⟨rfl, rfl⟩)
    | (go_at_call 22; (with_reducible refine (t1.out _ hx).mono ?_); rintro e w1 ⟨rfl, hb⟩; have hx := Ext.trans' hx hb) | (go_at_call 22; (with_reducible refine (t2.out _ hx).mono ?_); rintro e w1 ⟨rfl, hb⟩; have hx := Ext.trans' hx hb)
    | (go_at_call 13; (with_reducible refine (r3.out _).mono ?_); rintro e w1 ⟨rfl, hb⟩; have hx := Ext.trans' hx hb) | (go_at_call 13; (with_reducible refine (r0.out _).mono ?_); rintro e w' ⟨rfl, rfl⟩)
    | (go_at_call 24; (with_reducible refine (p1.out _ hx).mono ?_); rintro e w1 ⟨rfl, hb⟩; have hx := Ext.trans' hx hb) | (go_at_call 24; (with_reducible refine (p2.out _ hx).mono ?_); rintro e w1 ⟨rfl, hb⟩; have hx := Ext.trans' hx hb) | (go_at_call 24; (with_reducible refine (p3.out _ hx).mono ?_); rintro e w1 ⟨rfl, hb⟩; have hx := Ext.trans' hx hb) | (go_at_call 24; (with_reducible refine (p4.out _ hx).mono ?_); rintro e w1 ⟨rfl, hb⟩; have hx := Ext.trans' hx hb)
    | (go_at_call 13; fail))
  go_ret
  exact ⟨rfl, hx⟩
end Go.Proofs.YtkllfeoepbahlaaDoor
