import Derived.Test.YtbnmnkmjokcmfaaDoorS10
import Derived.Laws.Runes
import Derived.WalkMore
import Derived.Laws.RangeString
/- strings.LastIndexAny(s, "+-") at every string. -/
namespace Go.Proofs.YtbnmnkmjokcmfaaDoor
open Go.RowKit
theorem enc_two (r : Nat) (h1 : 128 ≤ r) (h2 : r < 2048) : ∃ a b : UInt8, Utf8.encode (r : Int) = ⟨#[a, b]⟩ ∧ 128 ≤ b.toNat := by
  have hv : Utf8.valid (r : Int) = true := by unfold Utf8.valid; simp; omega
  refine ⟨UInt8.ofNat (0xC0 + r / 64), UInt8.ofNat (0x80 + r % 64), ?_, ?_⟩
  · unfold Utf8.encode
    simp only [hv, if_true, Int.toNat_natCast]
    rw [if_neg (by omega), if_pos (by omega)]
  · rw [UInt8.toNat_ofNat']; omega
theorem enc_more (r : Nat) (h1 : 2048 ≤ r) (hv : Lib.validRune (r : Int) = true) : (Utf8.encode (r : Int)).size = 3 ∨ (Utf8.encode (r : Int)).size = 4 := by
  have hv2 : Utf8.valid (r : Int) = true := by
    unfold Lib.validRune at hv
    unfold Utf8.valid
    simp only [decide_eq_true_eq] at hv
    simp only [Bool.or_eq_true, Bool.and_eq_true, decide_eq_true_eq]
    omega
  unfold Utf8.encode
  simp only [hv2, if_true, Int.toNat_natCast]
  rw [if_neg (by omega), if_neg (by omega)]
  split
  · exact Or.inl rfl
  · exact Or.inr rfl
set_option maxRecDepth 100000 in
set_option maxHeartbeats 4000000 in
theorem irune_err (w : World) : Calls Tryd.prog 52 #[.string ⟨#[43, 45]⟩, .int .i32 65533] w fun e w' => e = .returned (.int .i64 (-1)) ∧ Ext w w' := by
  have e0 : ∀ ty, (Instr.next (.pointer (some ⟨w.heap.size, 0, none⟩)) true ty).run Tryd.prog (w.iter ⟨#[43, 45]⟩ 0) = .ok (.tuple #[.bool true, .int .i64 0, .int .i32 43]) (w.iter ⟨#[43, 45]⟩ 1) := fun ty => run_next_ascii w ⟨#[43, 45]⟩ 0 ty (by decide) (by decide)
  have e1 : ∀ ty, (Instr.next (.pointer (some ⟨w.heap.size, 0, none⟩)) true ty).run Tryd.prog (w.iter ⟨#[43, 45]⟩ 1) = .ok (.tuple #[.bool true, .int .i64 1, .int .i32 45]) (w.iter ⟨#[43, 45]⟩ 2) := fun ty => run_next_ascii w ⟨#[43, 45]⟩ 1 ty (by decide) (by decide)
  have e2 : ∀ ty, (Instr.next (.pointer (some ⟨w.heap.size, 0, none⟩)) true ty).run Tryd.prog (w.iter ⟨#[43, 45]⟩ 2) = .ok (.tuple #[.bool false]) (w.iter ⟨#[43, 45]⟩ 2) := fun ty => run_next_end w ⟨#[43, 45]⟩ 2 ty (by decide)
  have hx : Ext w (w.iter ⟨#[43, 45]⟩ 2) := Ext.alloc (Below.refl _ _) _
  go_enter Tryd.func52, Tryd.ntmps52
  go_wp2
  refine wp_loop_rounds 4 ?_
  repeat any_goals (rw [rounds_succ]; go_wp2)
  go_ret
  exact ⟨rfl, hx⟩
set_option maxRecDepth 100000 in
set_option maxHeartbeats 4000000 in
theorem irune_hi (r : Nat) (h1 : 128 ≤ r) (h2 : r ≤ 1114111) (w : World) : Calls Tryd.prog 52 #[.string ⟨#[43, 45]⟩, .int .i32 r] w fun e w' => e = .returned (.int .i64 (-1)) ∧ Ext w w' := by
  by_cases he : r = 65533
  · subst he; exact irune_err w
  have d1 : decide ((0 : Int) ≤ (r : Int)) = true := decide_eq_true (by omega)
  have d2 : decide ((r : Int) < 128) = false := decide_eq_false (by omega)
  have d3 : decide (r < 128) = false := decide_eq_false (by omega)
  have d4 : ((r : Int) == 65533) = false := by rw [beq_eq_false_iff_ne]; omega
  have hcv : ∀ w : World, (convert 21 9 (.int .i32 r)).run Tryd.prog w = .ok (.string (Utf8.encode (r : Int))) w := fun w => run_convert_int_string w _ _ .i32 r (by kernel_rfl) Tryd.underlying9
  have cV : Box (∀ w, Calls Tryd.prog 63 #[.int .i32 r] w fun e w' => e = .returned (.bool (Lib.validRune (r : Int))) ∧ w = w') := ⟨fun w => (Tryd.utf8_ValidRune (r : Int) w).mono fun e w' ⟨h1, h3⟩ => ⟨h1, h3.symm⟩⟩
  cases hv : Lib.validRune (r : Int) with
  | false =>
    rw [hv] at cV
    clear hv
    go_enter Tryd.func52, Tryd.ntmps52
    go_wp2_with (first | (go_at_call 63; (with_reducible refine (cV.out _).mono ?_); rintro e w' ⟨rfl, rfl⟩))
    go_ret
    exact ⟨rfl, Below.refl _ _⟩
  | true =>
    rw [hv] at cV
    by_cases h20 : r < 2048
    · obtain ⟨a, b, hrs, hb⟩ := enc_two r h1 h20
      have d5 : ((45 : Int) == (b.toNat : Int)) = false := by rw [beq_eq_false_iff_ne]; omega
      have d6 : ((45 : Int) != (b.toNat : Int)) = true := by rw [bne_iff_ne]; omega
      have cB : Box (∀ w, Calls Tryd.prog 62 #[.string ByteArray.empty, .int .u8 b.toNat] w fun e w' => e = .returned (.int .i64 (-1)) ∧ w = w') := ⟨fun w => (Tryd.strings_IndexByte ByteArray.empty b.toNat w).mono fun e w' ⟨h1, h3⟩ => ⟨h1, h3.symm⟩⟩
      have i1 : ∀ h, (⟨#[43, 45]⟩ : ByteArray)[1]'h = 45 := fun _ => rfl
      have i2 : ∀ h, (⟨#[a, b]⟩ : ByteArray)[1]'h = b := fun _ => rfl
      have i3 : ((45 : UInt8).toNat : Int) = 45 := rfl
      have i4 : (⟨#[43, 45]⟩ : ByteArray).size = 2 := rfl
      have i6 : ∀ W : World, (Instr.sliceAt 9 (.string ⟨#[43, 45]⟩) (some (.int .i64 2)) none none).run Tryd.prog W = .ok (.string ByteArray.empty) W := fun W => by kernel_rfl
      have i5 : (⟨#[43, 45]⟩ : ByteArray).extract 2 2 = ByteArray.empty := by decide
      have i7 : IntKind.i64.wrap 2 = 2 := by decide
      have i8 : IntKind.i64.wrap (1 + 1) = 2 := by decide
      generalize (⟨#[43, 45]⟩ : ByteArray) = t at *
      clear hv h1 h2 h20 hb
      go_enter Tryd.func52, Tryd.ntmps52
      go_wp2_with (first | (go_at_call 63; (with_reducible refine (cV.out _).mono ?_); rintro e w' ⟨rfl, rfl⟩))
      go_step3
      go_wp2
      refine wp_loop_rounds 1 ?_
      rw [rounds_succ]
      go_wp2
      go_step3
      go_wp2
      go_region
      all_goals
        clear hcv hrs d1 d2 d3 d4 cV
        go_wp2
        have hx : Ext w w.drew.drew := Ext.drew1 (Ext.drew1 (Below.refl _ _))
        go_region_law (first
          | (go_simp; go_at_call 62; (with_reducible refine (cB.out _).mono ?_); rintro e w' ⟨rfl, hw'⟩; subst hw'))
        all_goals
          go_wp2
          rw [Exit.noGoto_ret]
          go_wp2
          (try rw [Exit.noGoto_ret])
          go_ret
          exact ⟨rfl, hx⟩
    · have hsz := enc_more r (by omega) hv
      clear hv h1 h2 h20
      generalize hrs : Utf8.encode (r : Int) = rs at *
      rcases hsz with hz | hz
      all_goals
        go_enter Tryd.func52, Tryd.ntmps52
        go_wp2_with (first | (go_at_call 63; (with_reducible refine (cV.out _).mono ?_); rintro e w' ⟨rfl, rfl⟩))
        go_step3
        go_wp2
        refine wp_loop_rounds 1 ?_
        rw [rounds_succ]
        go_wp2
        (try rw [Exit.noGoto_ret])
        go_ret
        exact ⟨rfl, Below.refl _ _⟩
end Go.Proofs.YtbnmnkmjokcmfaaDoor
