import Derived.Test.YtcofejbkbcdopaaGreatDoorR4
import Derived.Test.YtcofejbkbcdopaaGreatDoorRF
import Derived.Deep.CutRange
/- Contracts of the report's value and score. -/
namespace Go.Proofs.YtcofejbkbcdopaaGreatDoor
open Go.RowKit
/-- What stands behind the last blank. -/
theorem last_cut (s : ByteArray) : ∃ j : Nat, Lib.lastIndexByte s 32 + 1 = (j : Int) ∧ j ≤ s.size ∧ (s.extract j s.size).data.toList = afterL s.data.toList := by
  have hd : ∀ j, (s.extract j s.size).data.toList = s.data.toList.drop j := fun j => Lib.extract_to_end s j
  have hat : ∀ i (h : i < s.size), (((s.data[i]!).toNat : Int) = 32 ↔ s.data.toList[i]'h = 32) := fun i h => by
    have e : s.data[i]! = s.data.toList[i]'h := by
      rw [getElem!_pos s.data i (by exact h)]; rfl
    rw [e, ← UInt8.toNat_inj]
    show ((_ : Nat) : Int) = ((32 : Nat) : Int) ↔ _
    rw [Int.ofNat_inj]
    rfl
  rcases Lib.lastIndexByte_spec s 32 with ⟨h1, h2⟩ | ⟨k, h1, h2, h3, h4⟩
  · refine ⟨0, by rw [h1]; rfl, by omega, ?_⟩
    rw [hd, List.drop_zero, afterL_no]
    intro c hc
    obtain ⟨i, hi, rfl⟩ := List.getElem_of_mem hc
    exact fun e => h2 i hi ((hat i hi).2 e)
  · refine ⟨k + 1, by rw [h2]; rfl, by omega, ?_⟩
    have e1 : s.data.toList = s.data.toList.take k ++ 32 :: s.data.toList.drop (k + 1) := by
      have e0 := (hat k h1).1 h3
      have hk : k < s.data.toList.length := h1
      conv => lhs; rw [← List.take_append_drop k s.data.toList, List.drop_eq_getElem_cons hk]
      rw [show s.data.toList[k] = 32 from e0]
    have hn : ∀ c ∈ s.data.toList.drop (k + 1), c ≠ 32 := by
      intro c hc
      obtain ⟨i, hi, rfl⟩ := List.getElem_of_mem hc
      rw [List.getElem_drop]
      rw [List.length_drop] at hi
      have hl : s.data.toList.length = s.size := rfl
      have hlt : k + 1 + i < s.size := by omega
      exact fun e => h4 (k + 1 + i) (by omega) hlt ((hat _ hlt).2 e)
    rw [hd]
    conv => rhs; rw [e1]
    rw [afterL_at _ _ hn]
set_option maxRecDepth 100000 in
set_option maxHeartbeats 4000000 in
theorem value_any (s : ByteArray) (hs : s.size ≤ 1000000) (w : World) (hw : Env w) : Calls Tryz.prog 26 #[.string s] w fun e w' => e = .returned (.int .i64 (valL s.data.toList)) ∧ Ext w w' := by
  obtain ⟨j, h1, h2, h3⟩ := last_cut s
  have cl : Box (∀ w, Calls Tryz.prog 37 #[.string s, .int .u8 32] w fun e w' => e = .returned (.int .i64 (Lib.lastIndexByte s 32)) ∧ w' = w) := ⟨fun w => Tryz.strings_LastIndexByte s 32 (by omega) w⟩
  generalize Lib.lastIndexByte s 32 = q at *
  have hq : IntKind.i64.wrap (q + 1) = q + 1 := by rw [IntKind.wrap_i64]; omega
  have q0 : (0 : Int) ≤ q + 1 := by omega
  have q1 : q + 1 ≤ (s.size : Int) := by omega
  have q2 : (q + 1).toNat = j := by omega
  have q3 : -1 ≤ q := by omega
  have q4 : q ≤ 1000000 := by omega
  have hts : (s.extract j s.size).size ≤ 281474976710656 := by
    have : (s.extract j s.size).size ≤ s.size := by rw [ByteArray.size_extract]; omega
    omega
  have hx : Ext w w := Below.refl _ _
  by_cases hok : ∃ v, Lib.atoiAll (s.extract j s.size).data.toList = .ok v
  · obtain ⟨v, hv⟩ := hok
    have ca : Box _ := ⟨fun w => ratoi_ok (s.extract j s.size) v hts hv w⟩
    have hval : Box (valL s.data.toList = v) := ⟨valL_ok (by rw [← h3]; exact hv)⟩
    clear hw h1 h3 hv hts
    generalize htt : s.extract j s.size = t at *
    go_enter Tryz.func26, Tryz.ntmps26
    go_wp2_with (first
      | (go_at_call 37; (with_reducible refine (cl.out _).mono ?_); rintro e w' ⟨rfl, rfl⟩)
      | (go_at_call 36; (with_reducible refine (ca.out _).mono ?_); rintro e w1 ⟨rfl, hb⟩; have hx := Ext.trans' hx hb))
    go_ret
    rw [hval.out]
    exact ⟨rfl, hx⟩
  · have hno : ∀ v, Lib.atoiAll (s.extract j s.size).data.toList ≠ .ok v := fun v h => hok ⟨v, h⟩
    have ca : Box _ := ⟨fun w hw => ratoi_no (s.extract j s.size) hts hno w hw⟩
    have hval : Box (valL s.data.toList = -1) := ⟨valL_no (fun v => by rw [← h3]; exact hno v)⟩
    have hw := Box.mk hw
    clear h1 h3 hok hno hts
    generalize htt : s.extract j s.size = t at *
    go_enter Tryz.func26, Tryz.ntmps26
    go_wp2_with (first
      | (go_at_call 37; (with_reducible refine (cl.out _).mono ?_); rintro e w' ⟨rfl, rfl⟩)
      | (go_at_call 36; (with_reducible refine (ca.out _ hw.out).mono ?_); rintro e w1 ⟨v, ty, N, rfl, hb⟩; have hx := Ext.trans' hx hb))
    go_ret
    rw [hval.out]
    exact ⟨rfl, hx⟩
/-- The closure that parts a line. -/
theorem sep_any (r : Nat) (w : World) : Calls Tryz.prog 42 #[.int .i32 r] w fun e w' => e = .returned (.bool (pR r)) ∧ w = w' := by
  unfold pR
  have key : (((r : Int) == 32) = true ∧ (r == 32) = true) ∨ (((r : Int) == 32) = false ∧ (r == 32) = false ∧ ((r : Int) == 58) = true ∧ (r == 58) = true) ∨ (((r : Int) == 32) = false ∧ (r == 32) = false ∧ ((r : Int) == 58) = false ∧ (r == 58) = false ∧ ((r : Int) == 44) = (r == 44)) := by
    have e : ∀ n : Nat, ((r : Int) == (n : Int)) = (r == n) := fun n => by
      rw [Bool.eq_iff_iff, beq_iff_eq, beq_iff_eq]; omega
    have e1 : ((r : Int) == 32) = (r == 32) := e 32
    have e2 : ((r : Int) == 58) = (r == 58) := e 58
    have e3 : ((r : Int) == 44) = (r == 44) := e 44
    rw [e1, e2, e3]
    cases r == 32 <;> cases r == 58 <;> simp
  rcases key with ⟨d1, d2⟩ | ⟨d1, d2, d3, d4⟩ | ⟨d1, d2, d3, d4, d5⟩
  · rw [d2]
    clear d2
    go_enter Tryz.func42, Tryz.ntmps42
    go_wp2
    go_ret
    exact ⟨ret_bool (by simp), rfl⟩
  · rw [d2, d4]
    clear d2 d4
    go_enter Tryz.func42, Tryz.ntmps42
    go_wp2
    go_ret
    exact ⟨ret_bool (by simp), rfl⟩
  · rw [d2, d4, ← d5]
    clear d2 d4 d5
    generalize hz : ((r : Int) == 44) = z
    go_enter Tryz.func42, Tryz.ntmps42
    go_wp2
    go_ret
    exact ⟨ret_bool (by simp [hz]), rfl⟩
theorem fieldsF_any (s : ByteArray) (hs : s.size ≤ 1000000) (w : World) : Calls Tryz.prog 41 #[.string s, .func (.func 42) #[] #[]] w fun e w' => ∃ A, e = .returned (.slice (some ⟨A, 0, none⟩) (Lib.goFieldsP pR s).length (Lib.goFieldsP pR s).length) ∧
    (∀ (j : Nat) (z : ByteArray), (Lib.goFieldsP pR s)[j]? = some z → w'.cell? ⟨A, j, none⟩ = some (.string z)) ∧ Ext w w' := by
  refine (Tryz.strings_FieldsFunc_grows 42 #[] (enters_of Tryz.func42 (by kernel_rfl) rfl) pR s w (by omega) (fun W x _ _ => (sep_any x W).mono fun e w' h => ⟨h.1, h.2 ▸ Below.refl _ _⟩)).mono ?_
  rintro e w' ⟨A, rfl, _, hrow, hb⟩
  refine ⟨A, rfl, fun j z hz => ?_, hb⟩
  have hj : j < (Lib.goFieldsP pR s).length := (List.getElem?_eq_some_iff.1 hz).1
  have h9 := hrow.cellAt j (by omega)
  rw [h9, List.getElem?_map, hz]; rfl
end Go.Proofs.YtcofejbkbcdopaaGreatDoor
