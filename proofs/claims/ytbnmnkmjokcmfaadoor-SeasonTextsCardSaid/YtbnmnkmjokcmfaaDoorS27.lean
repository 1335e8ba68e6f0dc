import Derived.Test.YtbnmnkmjokcmfaaDoorS26
/- strings.LastIndexAny(s, "+-") at every string. -/
namespace Go.Proofs.YtbnmnkmjokcmfaaDoor
open Go.RowKit
def signSet : Array Value := Lib.setCells [43, 45]
theorem signSet_at (c : UInt8) : signSet[c.toNat]? = some (.bool (decide (c = 43 ∨ c = 45))) := by
  unfold signSet
  rw [Lib.setCells_at]
  congr 2
  have : ∀ n : Fin 256, ([43, 45] : List UInt8).contains (UInt8.ofNat n.val) = decide (UInt8.ofNat n.val = 43 ∨ UInt8.ofNat n.val = 45) := by decide +kernel
  have h := this ⟨c.toNat, c.toNat_lt⟩
  simp at h
  simp [h]
theorem get_getD (s : ByteArray) (j : Nat) (h : j < s.size) : s[j]'h = s.data.toList.getD j 0 := by
  have h2 : j < s.data.toList.length := h
  rw [List.getD_eq_getElem?_getD, List.getElem?_eq_getElem h2]
  rfl
theorem infoS : (Tryd.prog.info? 94).map (·.size) = some 256 := by kernel_rfl
theorem zeroS : Tryd.zeroCells94.size = 256 := by kernel_rfl
theorem signSet_size : signSet.size = 256 := Lib.setCells_size _
theorem signSet_one : signSet.all (·.oneCell') = true := Lib.setCells_one _
set_option maxRecDepth 100000 in
set_option maxHeartbeats 4000000 in
theorem la_long (s : ByteArray) (h9 : 8 < s.size) (hs : s.size ≤ 1000000) (w : World) :
    Calls Tryd.prog 38 #[.string s, .string ⟨#[43, 45]⟩] w fun e w' => e = .returned (.int .i64 (lastS s.data.toList)) ∧ Ext w w' := by
  have hlen : s.data.toList.length = s.size := rfl
  have c1 : Box (∀ w, Calls Tryd.prog 53 #[.int .i64 s.size] w fun e w' => e = .returned (.bool (decide ((8 : Int) < (s.size : Int)))) ∧ w = w') := ⟨fun w => (Tryd.strings_shouldUseASCIISet (s.size : Int) w).mono fun e w' ⟨h1, h3⟩ => ⟨h1, h3.symm⟩⟩
  have d8 : decide ((8 : Int) < (s.size : Int)) = true := decide_eq_true (by omega)
  rw [d8] at c1
  have e1 : ((s.size : Int) == 1) = false := by rw [beq_eq_false_iff_ne]; omega
  have c2 : Box (∀ w, Calls Tryd.prog 54 #[.string ⟨#[43, 45]⟩] w fun e w' => e = .returned (.tuple #[.agg signSet, .bool true]) ∧ Ext w w') := ⟨fun w => (Tryd.strings_makeASCIISet (fun w => by kernel_rfl) ⟨#[43, 45]⟩ w (by decide) (fun j b hj => by
    have hm : b ∈ [43, 45] := List.mem_of_getElem? hj
    simp at hm
    rcases hm with rfl | rfl <;> decide)).mono fun e w' ⟨h1, h3⟩ => ⟨h1, by rw [h3]; exact Ext.alloc (Below.refl _ _) _⟩⟩
  have q0 : IntKind.i64.wrap ((s.size : Int) - 1) = (s.size : Int) - 1 := by rw [IntKind.wrap_i64]; omega
  have hx : Ext w w := Below.refl _ _
  go_enter Tryd.func38, Tryd.ntmps38
  go_wp2_with (first
    | (go_at_call 53; (with_reducible refine (c1.out _).mono ?_); rintro e w' ⟨rfl, rfl⟩)
    | (go_at_call 54; (with_reducible refine (c2.out _).mono ?_); rintro e w1 ⟨rfl, hb⟩; have hx := Ext.trans' hx hb)
    | (refine wpList_store_row rfl 94 (.tmp 6) (.tmp 36) rfl w1.heap.size signSet rfl rfl 94 Tryd.zeroCells94 (newblk w1 _) (by rw [signSet_size]; exact infoS) (by rw [signSet_size]; exact zeroS) signSet_one ?_))
  have hA : Box (((w1.alloc (.cells Tryd.zeroCells94 94)).setRow w1.heap.size signSet).heap[w1.heap.size]? = some (.cells signSet 94 (0, 0))) := ⟨setRow_heap _ _ _ _ _ _ (newblk w1 _)⟩
  have hE0 : Box (Ext w ((w1.alloc (.cells Tryd.zeroCells94 94)).setRow w1.heap.size signSet)) := ⟨Ext.trans' hx (setrow_ext _ _ _ _)⟩
  clear hx hb
  generalize (w1.alloc (.cells Tryd.zeroCells94 94)).setRow w1.heap.size signSet = wk at *
  generalize w1.heap.size = A at *
  go_loopw [8] (fun iv wr => ∃ k : Nat, k ≤ s.size ∧ iv = .int .i64 ((k : Int) - 1) ∧ Box (∀ j, k ≤ j → j < s.data.toList.length → ¬ (s.data.toList.getD j 0 = 43 ∨ s.data.toList.getD j 0 = 45)) ∧ Box (wr.heap[A]? = some (.cells signSet 94 (0, 0))) ∧ Box (Ext w wr)) (fun iv _ => (intOf iv + 1).toNat)
  case atStart => exact ⟨s.size, Nat.le_refl _, rfl, ⟨fun j h1 h3 => by omega⟩, hA, hE0⟩
  case round =>
    obtain ⟨k, hk, rfl, hno, hA, hE⟩ := hrel
    have hE1 := hE.out
    cases k with
    | zero =>
      have hf := Box.mk (lastS_none s.data.toList fun j hj => hno.out j (by omega) hj)
      rw [show ((0 : Nat) : Int) - 1 = -1 from rfl]
      go_wp2
      go_ret
      exact ⟨ret_int hf.out.symm, hE1⟩
    | succ j =>
      rw [show ((j + 1 : Nat) : Int) - 1 = (j : Int) by omega]
      have d1 : decide ((0 : Int) ≤ (j : Int)) = true := decide_eq_true (by omega)
      have n1 : (0 : Int) ≤ (j : Int) := by omega
      have n2 : (j : Int) < (s.size : Int) := by omega
      have hjl : j < s.data.toList.length := by omega
      have hg : ∀ h, s[j]'h = s.data.toList.getD j 0 := fun h => get_getD s j h
      have hcell : wr.cell? ⟨A, (s.data.toList.getD j 0).toNat, none⟩ = some (.bool (decide (s.data.toList.getD j 0 = 43 ∨ s.data.toList.getD j 0 = 45))) := by
        rw [Lib.cell_of_heap hA.out]; exact signSet_at _
      have cC : Box (Calls Tryd.prog 55 #[.pointer (some ⟨A, 0, none⟩), .int .u8 (s.data.toList.getD j 0).toNat] wr fun e w' => e = .returned (.bool (decide (s.data.toList.getD j 0 = 43 ∨ s.data.toList.getD j 0 = 45))) ∧ wr = w') := ⟨(Tryd.asciiSet_contains A _ _ wr hcell).mono fun e w' ⟨h1, h3⟩ => ⟨h1, h3.symm⟩⟩
      have hq : IntKind.i64.wrap ((j : Int) - 1) = (j : Int) - 1 := by rw [IntKind.wrap_i64]; omega
      by_cases hs : s.data.toList.getD j 0 = 43 ∨ s.data.toList.getD j 0 = 45
      · have hf := Box.mk (lastS_at s.data.toList j hjl hs fun i hi hl => hno.out i (by omega) hl)
        rw [decide_eq_true hs] at cC
        clear hs hcell
        generalize s.data.toList.getD j 0 = c at *
        go_wp2_with (first
          | (go_at_call 55; (with_reducible refine cC.out.mono ?_); rintro e w' ⟨rfl, rfl⟩))
        go_ret
        exact ⟨ret_int hf.out.symm, hE1⟩
      · have hf : Box (∀ i, j ≤ i → i < s.data.toList.length → ¬ (s.data.toList.getD i 0 = 43 ∨ s.data.toList.getD i 0 = 45)) := ⟨fun i hi hl => by
          by_cases e : i = j
          · subst e; exact hs
          · exact hno.out i (by omega) hl⟩
        rw [decide_eq_false hs] at cC
        clear hs hcell
        generalize s.data.toList.getD j 0 = c at *
        go_wp2_with (first
          | (go_at_call 55; (with_reducible refine cC.out.mono ?_); rintro e w' ⟨rfl, rfl⟩))
        go_roundw
        case rel => exact ⟨j, by omega, by go_num, hf, hA, hE⟩
        case measure => simp [intOf] <;> omega
theorem la_any (s : ByteArray) (hs : s.size ≤ 1000) (w : World) (hw : EnvS w) : La s w := fun w' hx => by
  by_cases h9 : 8 < s.size
  · exact la_long s h9 (by omega) w'
  · by_cases h1 : s.size = 1
    · obtain ⟨c, hc⟩ : ∃ c, s.data.toList = [c] := by
        have : s.data.toList.length = 1 := h1
        match s.data.toList, this with
        | [c], _ => exact ⟨c, rfl⟩
      by_cases h : 128 ≤ c.toNat
      · exact la_one_hi s c hc h w'
      · exact la_one s h1 (fun x hx => by rw [hc, List.mem_singleton] at hx; rw [hx]; omega) w'
    · exact la_mid s h1 (by omega) w' (hw.ext hx)
end Go.Proofs.YtbnmnkmjokcmfaaDoor
