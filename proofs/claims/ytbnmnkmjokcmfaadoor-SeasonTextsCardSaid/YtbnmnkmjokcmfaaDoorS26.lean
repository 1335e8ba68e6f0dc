import Derived.Test.YtbnmnkmjokcmfaaDoorS25
import Derived.Laws.Tables
/- strings.LastIndexAny(s, "+-") at every string. -/
namespace Go.Proofs.YtbnmnkmjokcmfaaDoor
open Go.RowKit
theorem setrow_ext (w : World) (z t : Array Value) (T : TypeId) : Ext w ((w.alloc (.cells z T)).setRow w.heap.size t) := by
  have h := Ext.alloc (Below.refl w.heap.size w) (.cells z T)
  exact ⟨h.os, h.tape, h.output, by simp, fun k hk => by
    rw [setRow_other _ _ _ _ (by omega)]; exact h.block k hk⟩
set_option maxRecDepth 100000 in
set_option maxHeartbeats 2000000 in
theorem la_one_hi (s : ByteArray) (c : UInt8) (hs : s.data.toList = [c]) (hc : 128 ≤ c.toNat) (w : World) :
    Calls Tryd.prog 38 #[.string s, .string ⟨#[43, 45]⟩] w fun e w' => e = .returned (.int .i64 (lastS s.data.toList)) ∧ Ext w w' := by
  have hs' : s = ⟨#[c]⟩ := by apply ByteArray.ext; exact Array.ext' hs
  subst hs'
  have hb0 : ∀ h, (⟨#[c]⟩ : ByteArray)[0]'h = c := fun _ => rfl
  have hc2 := c.toNat_lt
  have cI : Box (∀ w, _) := ⟨fun w => irune_err w⟩
  have hl : Box (lastS [c] = -1) := ⟨by
    unfold lastS
    rw [if_neg (by decide)]
    rw [if_neg (fun h => by rcases h with rfl | rfl <;> simp at hc)]⟩
  have d1 : decide ((128 : Int) ≤ (c.toNat : Int)) = true := decide_eq_true (by omega)
  have d2 : decide (128 ≤ c.toNat) = true := decide_eq_true hc
  have q1 : IntKind.i32.wrap (c.toNat : Int) = (c.toNat : Int) := by
    simp [IntKind.wrap, IntKind.bits, IntKind.signed]; omega
  have q2 : wrap32 (c.toNat : Int) = (c.toNat : Int) := by unfold wrap32; omega
  have hx : Ext w w := Below.refl _ _
  clear hs hc hc2
  go_enter Tryd.func38, Tryd.ntmps38
  go_wp2_with (first
    | (go_at_call 52; (with_reducible refine (cI.out _).mono ?_); rintro e w1 ⟨rfl, hb⟩; have hx := Ext.trans' hx hb))
  go_ret
  exact ⟨ret_int hl.out.symm, hx⟩
set_option maxRecDepth 100000 in
set_option maxHeartbeats 4000000 in
theorem la_mid (s : ByteArray) (h1 : s.size ≠ 1) (h8 : s.size ≤ 8) (w : World) (hw : EnvS w) :
    Calls Tryd.prog 38 #[.string s, .string ⟨#[43, 45]⟩] w fun e w' => e = .returned (.int .i64 (lastS s.data.toList)) ∧ Ext w w' := by
  have hlen : s.data.toList.length = s.size := rfl
  have c1 : Box (∀ w, Calls Tryd.prog 53 #[.int .i64 s.size] w fun e w' => e = .returned (.bool (decide ((8 : Int) < (s.size : Int)))) ∧ w = w') := ⟨fun w => (Tryd.strings_shouldUseASCIISet (s.size : Int) w).mono fun e w' ⟨h1, h3⟩ => ⟨h1, h3.symm⟩⟩
  have d8 : decide ((8 : Int) < (s.size : Int)) = false := decide_eq_false (by omega)
  rw [d8] at c1
  have e1 : ((s.size : Int) == 1) = false := by rw [beq_eq_false_iff_ne]; omega
  have cI : Box (∀ (c : UInt8) (w : World), c.toNat < 128 → Calls Tryd.prog 52 #[.string ⟨#[43, 45]⟩, .int .i32 c.toNat] w fun e w' => e = .returned (.int .i64 (Lib.indexByte [43, 45] c)) ∧ Ext w w') := ⟨fun c w hc => (Tryd.strings_IndexRune_ascii ⟨#[43, 45]⟩ c.toNat w (by omega) (by omega)).mono fun e w' ⟨h1, h3⟩ => ⟨by rw [h1]; simp, by rw [h3]; exact Below.refl _ _⟩⟩
  have HW := Box.mk hw
  have hx : Ext w w := Below.refl _ _
  clear hw
  go_enter Tryd.func38, Tryd.ntmps38
  go_wp2_with (first
    | (go_at_call 53; (with_reducible refine (c1.out _).mono ?_); rintro e w' ⟨rfl, rfl⟩))
  go_loopw [13] (fun iv wr => ∃ i : Nat, i ≤ s.size ∧ iv = .int .i64 i ∧ Box (∀ j, i ≤ j → j < s.data.toList.length → ¬ (s.data.toList.getD j 0 = 43 ∨ s.data.toList.getD j 0 = 45)) ∧ Box (Ext w wr)) (fun iv _ => (intOf iv).toNat)
  case atStart => exact ⟨s.size, Nat.le_refl _, rfl, ⟨fun j h1 h3 => by omega⟩, ⟨hx⟩⟩
  case round =>
    obtain ⟨i, hi, rfl, hno, hE⟩ := hrel
    by_cases hi0 : 0 < i
    · have d1 : decide ((0 : Int) < (i : Int)) = true := decide_eq_true (by omega)
      have d2 : decide (0 < i) = true := decide_eq_true hi0
      have hil : i - 1 < s.data.toList.length := by omega
      have hE1 := hE.out
      have n1 : (i : Int) ≤ (s.size : Int) := by omega
      rcases back_cases s.data.toList i hi0 (by omega) with ⟨hasc, hdl⟩ | ⟨r, k, hdl, hr1, hr2, hk1, hk2, hkb⟩
      · have cD : Box (∀ w', Ext w w' → Calls Tryd.prog 56 #[.string (s.extract 0 i)] w' fun e w'' => e = .returned (.tuple #[.int .i32 (s.data.toList.getD (i - 1) 0).toNat, .int .i64 1]) ∧ Ext w' w'') := ⟨fun w' hx => by
          have h := Tryd.utf8_DecodeLastRuneInString (s.extract 0 i) w' (by rw [ByteArray.size_extract]; omega) (HW.out.ext hx).u8
          rw [show (s.extract 0 i).data.toList = s.data.toList.take i by simp, hdl] at h
          exact h⟩
        have hnx : Box (¬ (s.data.toList.getD (i - 1) 0 = 43 ∨ s.data.toList.getD (i - 1) 0 = 45) → ∀ j, i - 1 ≤ j → j < s.data.toList.length → ¬ (s.data.toList.getD j 0 = 43 ∨ s.data.toList.getD j 0 = 45)) := ⟨fun h j hj hl => by
          by_cases e : j = i - 1
          · subst e; exact h
          · exact hno.out j (by omega) hl⟩
        have hyes : Box ((s.data.toList.getD (i - 1) 0 = 43 ∨ s.data.toList.getD (i - 1) 0 = 45) → lastS s.data.toList = ((i - 1 : Nat) : Int)) := ⟨fun h => lastS_at _ (i - 1) hil h fun j hj hl => hno.out j (by omega) hl⟩
        generalize s.data.toList.getD (i - 1) 0 = c at *
        have q1 : IntKind.i64.wrap ((i : Int) - 1) = ((i - 1 : Nat) : Int) := by rw [IntKind.wrap_i64]; omega
        have hci := idx_sign c
        have cI2 : Box _ := ⟨fun w => cI.out c w hasc⟩
        generalize Lib.indexByte [43, 45] c = z at *
        clear hdl
        by_cases hz : 0 ≤ z
        · have d3 : decide (0 ≤ z) = true := decide_eq_true hz
          have hf := Box.mk (hyes.out (hci.1 hz))
          clear hci hz
          go_wp2_with (first
            | (go_at_call 56; (with_reducible refine (cD.out _ hE1).mono ?_); rintro e w1 ⟨rfl, hb⟩; have hE1 := Ext.trans' hE1 hb)
            | (go_at_call 52; (with_reducible refine (cI2.out _).mono ?_); rintro e w1 ⟨rfl, hb⟩; have hE1 := Ext.trans' hE1 hb))
          go_ret
          exact ⟨ret_int hf.out.symm, hE1⟩
        · have d3 : decide (0 ≤ z) = false := decide_eq_false hz
          have hf := Box.mk (hnx.out (fun h => hz (hci.2 h)))
          clear hci hz
          go_wp2_with (first
            | (go_at_call 56; (with_reducible refine (cD.out _ hE1).mono ?_); rintro e w1 ⟨rfl, hb⟩; have hE1 := Ext.trans' hE1 hb)
            | (go_at_call 52; (with_reducible refine (cI2.out _).mono ?_); rintro e w1 ⟨rfl, hb⟩; have hE1 := Ext.trans' hE1 hb))
          go_roundw
          case rel => exact ⟨i - 1, by omega, by go_num, hf, ⟨hE1⟩⟩
          case measure => simp [intOf]; omega
      · have cD : Box (∀ w', Ext w w' → Calls Tryd.prog 56 #[.string (s.extract 0 i)] w' fun e w'' => e = .returned (.tuple #[.int .i32 r, .int .i64 k]) ∧ Ext w' w'') := ⟨fun w' hx => by
          have h := Tryd.utf8_DecodeLastRuneInString (s.extract 0 i) w' (by rw [ByteArray.size_extract]; omega) (HW.out.ext hx).u8
          rw [show (s.extract 0 i).data.toList = s.data.toList.take i by simp, hdl] at h
          exact h⟩
        have cI2 : Box (∀ w, _) := ⟨fun w => irune_hi r hr1 hr2 w⟩
        have hf : Box (∀ j, i - k ≤ j → j < s.data.toList.length → ¬ (s.data.toList.getD j 0 = 43 ∨ s.data.toList.getD j 0 = 45)) := ⟨fun j hj hl => by
          by_cases e : j < i
          · have h := hkb j hj e
            intro h9
            rcases h9 with h9 | h9 <;> rw [h9] at h <;> simp at h
          · exact hno.out j (by omega) hl⟩
        have q1 : IntKind.i64.wrap ((i : Int) - (k : Int)) = ((i - k : Nat) : Int) := by rw [IntKind.wrap_i64]; omega
        have hlt : i - k < i := by omega
        clear hdl hkb hr1 hr2
        go_wp2_with (first
          | (go_at_call 56; (with_reducible refine (cD.out _ hE1).mono ?_); rintro e w1 ⟨rfl, hb⟩; have hE1 := Ext.trans' hE1 hb)
          | (go_at_call 52; (with_reducible refine (cI2.out _).mono ?_); rintro e w1 ⟨rfl, hb⟩; have hE1 := Ext.trans' hE1 hb))
        go_roundw
        case rel => exact ⟨i - k, by omega, by go_num, hf, ⟨hE1⟩⟩
        case measure => simp [intOf]; omega
    · obtain rfl : i = 0 := by omega
      have hf := Box.mk (lastS_none s.data.toList fun j hj => hno.out j (by omega) hj)
      have hE1 := hE.out
      go_wp2
      go_ret
      exact ⟨ret_int hf.out.symm, hE1⟩
end Go.Proofs.YtbnmnkmjokcmfaaDoor
