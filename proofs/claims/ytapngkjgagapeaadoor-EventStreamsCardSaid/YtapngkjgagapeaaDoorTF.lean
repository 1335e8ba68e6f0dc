import Derived.Test.YtapngkjgagapeaaDoorLib
import Derived.Test.YtapngkjgagapeaaDoorShelf
import Derived.Test.YtapngkjgagapeaaDoorTE
import Derived.Lib.ItoaMem
import Derived.Lib.AppendIntMem
import Derived.Lib.LaidTab
/- strconv.FormatUint at base 10: the decimal numeral of its number. -/
namespace Go.Proofs.YtapngkjgagapeaaDoor
open Go.RowKit Go.Sort


set_option maxHeartbeats 6400000 in
set_option maxRecDepth 100000 in
theorem iformatUint_any (u : Nat) (w : World) (hu64 : u < 18446744073709551616) (htab : Tabs w) :
    Calls Tryd.prog 82 #[.int .u64 u, .int .i64 10] w fun e w' => e = .returned (.string (digs u)) ∧ Ext w w' := by
  by_cases hs : u < 100
  · have c1 : Box _ := ⟨fun w => Tryd.internal_strconv_small u hs w⟩
    go_enter Tryd.func82, Tryd.ntmps82
    go_wp2_with (go_at_call 93; (with_reducible refine (c1.out _).mono ?_); rintro e w' ⟨rfl, rfl⟩)
    go_ret
    exact ⟨rfl, Below.refl _ _⟩
  · have hu1 : 1 ≤ u := by omega
    have hnd20 : Lib.nDigits u ≤ 20 := by have := Lib.numDigits_eq u hu1 hu64; split at this <;> omega
    have hal : Tryd.prog.arrayLen 140 = 24 := by kernel_rfl
    have hsl1 : ∀ W, (Instr.sliceAt 140 (.pointer (some ⟨w.heap.size, 0, none⟩)) none (some (.int .i64 (Lib.nDigits u : Int))) none).run Tryd.prog W = .ok (.slice (some ⟨w.heap.size, 0, none⟩) (Lib.nDigits u) 24) W := fun W => by
      rw [run_sliceAt_array_h W 140 ⟨w.heap.size, 0, none⟩ (by simp [Program.arrayLen, Program.elem, Tryd.underlying140]) .i64 (Lib.nDigits u : Int) (by omega) (by rw [hal]; omega)]
      go_simp
    have hH0 := Lib.holds_zero0 w 140 (Lib.nDigits u) (by omega)
    have hfmt := Tryd.internal_strconv_formatBase10 w.heap.size 0 24 u (Array.replicate (Lib.nDigits u) 0) (w.alloc (.cells Lib.zeros24 140)) hH0 (by rw [Array.size_replicate]; exact Lib.lt_pow_nDigits u) hu64 (by rw [Array.size_replicate]; omega)
    rw [Array.size_replicate] at hfmt
    have HH0 := Box.mk hH0
    have Hf := Box.mk hfmt
    have cn : Box _ := ⟨fun w h => Tryd.internal_strconv_numDigits u hu1 hu64 w h⟩
    have Htab : Box _ := ⟨Lib.tabIs_alloc htab (.cells Lib.zeros24 140)⟩
    clear hH0 hal hfmt
    go_enter Tryd.func82, Tryd.ntmps82
    go_wp2_with (first
      | (go_at_call 94; refine (cn.out _ Htab.out).mono ?_; rintro e w' ⟨rfl, rfl⟩))
    go_at_call 95
    refine Hf.out.mono ?_
    rintro e w' ⟨rfl, k, v', dk, rfl, hF⟩
    have hcv : (convert 24 9 (.slice (some ⟨w.heap.size, 0, none⟩) (Lib.nDigits u) 24)).run Tryd.prog ((putRow (fun (b : UInt8) => Value.int .u8 (b.toNat : Int)) (w.alloc (.cells Lib.zeros24 140)) w.heap.size 0 dk).drewN k) = .ok (.string ⟨(Lib.decDigits u).toArray⟩) ((putRow (fun (b : UInt8) => Value.int .u8 (b.toNat : Int)) (w.alloc (.cells Lib.zeros24 140)) w.heap.size 0 dk).drewN k) := by
      have h := run_convert_bytes_back (P := Tryd.prog) ((putRow (fun (b : UInt8) => Value.int .u8 (b.toNat : Int)) (w.alloc (.cells Lib.zeros24 140)) w.heap.size 0 dk).drewN k) 24 9 5 ⟨w.heap.size, 0, none⟩ 24 (Lib.decDigits u) Tryd.underlying24 Tryd.underlying5 Tryd.underlying9 (fun j hj => by
        rw [Lib.row_is_numeral hF j hj, Lib.add_plain, World.cell?_drewN]
        exact cell?_putRow (fun (b : UInt8) => Value.int .u8 (b.toNat : Int)) _ w.heap.size 0 _ dk HH0.out (by rw [hF.size, Array.size_replicate]) j (by rw [hF.size]; rw [Lib.decDigits_length] at hj; exact hj))
      rw [Lib.decDigits_length] at h
      exact h
    go_wp2
    go_ret
    obtain ⟨os, hos⟩ := Lib.fin_at w (.cells Lib.zeros24 140) dk k 0
    refine ⟨rfl, ?_⟩
    rw [hos]
    exact Lib.below_grow _ _ (Nat.le_refl _) _ _

theorem formatUint_any (u : Nat) (w : World) (hu : u < 18446744073709551616) (htab : Tabs w) :
    Calls Tryd.prog 75 #[.int .u64 u, .int .i64 10] w fun e w' => e = .returned (.string (digs u)) ∧ Ext w w' := by
  have c1 : Box _ := ⟨fun (_ : Unit) => iformatUint_any u w hu htab⟩
  generalize digs u = x at *
  clear htab
  go_enter Tryd.func75, Tryd.ntmps75
  go_wp2_with (first | (go_at_call 82; (with_reducible refine (c1.out ()).mono ?_); rintro e w' ⟨rfl, hb⟩))
  go_ret
  exact ⟨rfl, hb⟩
end Go.Proofs.YtapngkjgagapeaaDoor
