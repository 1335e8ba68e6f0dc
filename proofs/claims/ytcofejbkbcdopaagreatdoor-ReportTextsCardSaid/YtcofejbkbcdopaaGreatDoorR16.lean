import Derived.Test.YtcofejbkbcdopaaGreatDoorR15
/- The law's examples: the walk of known. -/
namespace Go.Proofs.YtcofejbkbcdopaaGreatDoor
open Go.RowKit
set_option maxRecDepth 100000 in
set_option maxHeartbeats 8000000 in
theorem known_any (w : World) (hw : EnvV w) : Calls Tryz.prog 5 #[] w fun e w' => e = .returned (.bool true) ∧ Ext w w' := by
  have hE : Box (∀ w', Ext w w' → EnvV w') := ⟨fun w' h => hw.ext h⟩
  have hx : Ext w w := Below.refl _ _
  have c1 : Box (∀ w', Ext w w' → Calls Tryz.prog 15 #[.int .i64 2, .int .i64 6, .string ⟨#[49, 47, 51]⟩, .string ⟨#[51, 51, 46, 51, 51, 37]⟩] w' fun e w'' => e = .returned (.bool true) ∧ Ext w' w'') := ⟨fun w' h => says_c q26 (by decide) (by decide) w' (hE.out w' h).env.tabs⟩
  have c2 : Box (∀ w', Ext w w' → Calls Tryz.prog 15 #[.int .i64 0, .int .i64 0, .string ⟨#[48, 47, 49]⟩, .string ⟨#[48, 46, 48, 48, 37]⟩] w' fun e w'' => e = .returned (.bool true) ∧ Ext w' w'') := ⟨fun w' h => says_c q00 (by decide) (by decide) w' (hE.out w' h).env.tabs⟩
  have c3 : Box (∀ w', Ext w w' → Calls Tryz.prog 15 #[.int .i64 7, .int .i64 7, .string ⟨#[49, 47, 49]⟩, .string ⟨#[49, 48, 48, 46, 48, 48, 37]⟩] w' fun e w'' => e = .returned (.bool true) ∧ Ext w' w'') := ⟨fun w' h => says_c q77 (by decide) (by decide) w' (hE.out w' h).env.tabs⟩
  have c4 : Box (∀ w', Ext w w' → Calls Tryz.prog 15 #[.int .i64 3, .int .i64 2, .string ⟨#[]⟩, .string ⟨#[]⟩] w' fun e w'' => e = .returned (.bool true) ∧ Ext w' w'') := ⟨fun w' h => says_bad 3 2 (by decide) w'⟩
  have c5 : Box (∀ w', Ext w w' → Calls Tryz.prog 15 #[.int .i64 1, .int .i64 6, .string ⟨#[49, 47, 54]⟩, .string ⟨#[49, 54, 46, 54, 55, 37]⟩] w' fun e w'' => e = .returned (.bool true) ∧ Ext w' w'') := ⟨fun w' h => says_c q16 (by decide) (by decide) w' (hE.out w' h).env.tabs⟩
  have c6 : Box (∀ w', Ext w w' → Calls Tryz.prog 15 #[.int .i64 1, .int .i64 8, .string ⟨#[49, 47, 56]⟩, .string ⟨#[49, 50, 46, 53, 48, 37]⟩] w' fun e w'' => e = .returned (.bool true) ∧ Ext w' w'') := ⟨fun w' h => says_c q18 (by decide) (by decide) w' (hE.out w' h).env.tabs⟩
  have c7 : Box (∀ w', Ext w w' → Calls Tryz.prog 15 #[.int .i64 5, .int .i64 5, .string ⟨#[49, 47, 49]⟩, .string ⟨#[49, 48, 48, 46, 48, 48, 37]⟩] w' fun e w'' => e = .returned (.bool true) ∧ Ext w' w'') := ⟨fun w' h => says_c q55 (by decide) (by decide) w' (hE.out w' h).env.tabs⟩
  have cs : Box (∀ W, Ext w W → _) := ⟨fun W h => scores_one W (hE.out W h).env.tabs⟩
  have k1 : Box _ := ⟨fun w => check_fine w⟩
  have k2 : Box (∀ w', Ext w w' → Calls Tryz.prog 16 #[.agg #[.int .i64 3, .int .i64 5]] w' fun e w'' => e = .returned (.tuple #[.string ⟨#[114, 101, 115, 117, 108, 116, 32, 51, 58, 32, 98, 117, 100, 103, 101, 116, 10]⟩, .int .i64 0]) ∧ Ext w' w'') := ⟨fun w' h => by
    have := check_ok 3 5 (by decide) (by decide) (by decide) w' (hE.out w' h).env.tabs
    rw [chk_one] at this
    exact this⟩
  have k3 : Box _ := ⟨fun w => check_bad 3 0 (by decide) (by decide) w⟩
  have cr : Box (∀ w', Ext w w' → _) := ⟨fun w' h => run_zero w' (hE.out w' h)⟩
  have cx : Box (∀ w', Ext w w' → _) := ⟨fun w' h => read_x w' (hE.out w' h).env⟩
  have z1 : (⟨(zL 12).toArray⟩ : ByteArray).size = 129 := by decide
  have z2 : (⟨(zL 12).toArray⟩ : ByteArray).extract 0 5 = ⟨#[114, 117, 110, 58, 10]⟩ := by
    apply str_ext; rw [Lib.extract_from_zero]; decide
  have z3 : (⟨(zL 12).toArray⟩ : ByteArray).extract 120 129 = ⟨#[45, 32, 99, 111, 115, 116, 32, 48, 10]⟩ := by
    have h := Lib.extract_to_end (⟨(zL 12).toArray⟩ : ByteArray) 120
    rw [z1] at h
    apply str_ext; rw [h]; decide
  generalize (⟨(zL 12).toArray⟩ : ByteArray) = zs at *
  clear hw
  go_enter Tryz.func5, Tryz.ntmps5
  go_wp2_with (first
    | (go_at_call 15; (with_reducible refine (c1.out _ hx).mono ?_); rintro e w1 ⟨rfl, hb⟩; replace hx := Ext.trans' hx hb)
    | (go_at_call 15; (with_reducible refine (c2.out _ hx).mono ?_); rintro e w1 ⟨rfl, hb⟩; replace hx := Ext.trans' hx hb)
    | (go_at_call 15; (with_reducible refine (c3.out _ hx).mono ?_); rintro e w1 ⟨rfl, hb⟩; replace hx := Ext.trans' hx hb)
    | (go_at_call 15; (with_reducible refine (c4.out _ hx).mono ?_); rintro e w1 ⟨rfl, hb⟩; replace hx := Ext.trans' hx hb)
    | (go_at_call 15; (with_reducible refine (c5.out _ hx).mono ?_); rintro e w1 ⟨rfl, hb⟩; replace hx := Ext.trans' hx hb)
    | (go_at_call 15; (with_reducible refine (c6.out _ hx).mono ?_); rintro e w1 ⟨rfl, hb⟩; replace hx := Ext.trans' hx hb)
    | (go_at_call 15; (with_reducible refine (c7.out _ hx).mono ?_); rintro e w1 ⟨rfl, hb⟩; replace hx := Ext.trans' hx hb)
    | (go_at_call 11; (with_reducible refine (cs.out _ hx).mono ?_); rintro e w1 ⟨rfl, hb⟩; replace hx := Ext.trans' hx hb)
    | (go_at_call 16; (with_reducible refine (k1.out _).mono ?_); rintro e w1 ⟨rfl, hb⟩; replace hx := Ext.trans' hx hb)
    | (go_at_call 16; (with_reducible refine (k2.out _ hx).mono ?_); rintro e w1 ⟨rfl, hb⟩; replace hx := Ext.trans' hx hb)
    | (go_at_call 16; (with_reducible refine (k3.out _).mono ?_); rintro e w1 ⟨rfl, hb⟩; replace hx := Ext.trans' hx hb)
    | (go_at_call 6; (with_reducible refine (cr.out _ hx).mono ?_); rintro e w1 ⟨rfl, hb⟩; replace hx := Ext.trans' hx hb)
    | (go_at_call 12; (with_reducible refine (cx.out _ hx).mono ?_); rintro e w1 ⟨⟨a, c, rfl⟩, hb⟩; replace hx := Ext.trans' hx hb))
  go_ret
  exact ⟨rfl, hx⟩
end Go.Proofs.YtcofejbkbcdopaaGreatDoor
