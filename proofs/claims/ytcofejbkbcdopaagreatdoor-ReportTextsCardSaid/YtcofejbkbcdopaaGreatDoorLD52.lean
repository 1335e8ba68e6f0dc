import Derived.Test.YtcofejbkbcdopaaGreatDoorRE
import Derived.Test.YtcofejbkbcdopaaGreatDoorTM
import Derived.Deep.RegionWith
import Derived.Deep.AppendLies
/- The law's decimals. -/
namespace Go.Proofs.YtcofejbkbcdopaaGreatDoor
open Go.RowKit
theorem u8_str : Tryz.prog.underlying 56 = some (.slice 5) ∧ Tryz.prog.underlying 5 = some (.int .u8) ∧ Tryz.prog.underlying 9 = some .string := ⟨Tryz.underlying56, Tryz.underlying5, Tryz.underlying9⟩
/-- string([]byte{c}), c a digit. -/
theorem conv1 (W : World) (B m : Nat) (hm : m < 10) (h : W.cell? ⟨B, 0, none⟩ = some (.int .u8 (48 + (m : Int)))) :
    (convert 56 9 (.slice (some ⟨B, 0, none⟩) 1 1)).run Tryz.prog W = .ok (.string ⟨#[UInt8.ofNat (48 + m)]⟩) W := by
  refine run_convert_bytes_back W _ _ _ ⟨B, 0, none⟩ 1 [UInt8.ofNat (48 + m)] u8_str.1 u8_str.2.1 u8_str.2.2 ?_
  intro j hj
  have hj0 : j = 0 := by simp at hj; omega
  subst hj0
  show W.cell? ⟨B, 0, none⟩ = _
  rw [h]
  have e : ((UInt8.ofNat (48 + m)).toNat : Int) = 48 + (m : Int) := by
    rw [UInt8.toNat_ofNat', Nat.mod_eq_of_lt (by omega)]; omega
  show _ = some (Value.int .u8 ((UInt8.ofNat (48 + m)).toNat : Int))
  rw [e]
set_option maxHeartbeats 1000000 in
theorem ldec_one (n : Nat) (w : World) (h : n < 10) : Calls Tryz.prog 24 #[.int .i64 n] w fun e w' => e = .returned (.string (digs n)) ∧ Ext w w' := by
  rw [digs_one n h]
  have hd : decide ((n : Int) < 10) = true := decide_eq_true (by omega)
  have h0 : (n : Int) < 10 := by omega
  have m0 : (n : Int).tmod 10 = (n : Int) := by rw [Int.tmod_eq_emod_of_nonneg (by omega)]; omega
  have m1 : (n : Int) % 10 = (n : Int) := by omega
  have m2 : IntKind.i64.wrap (n : Int) = (n : Int) := by rw [IntKind.wrap_i64]; omega
  have e1 : IntKind.i64.wrap (48 + (n : Int)) = 48 + (n : Int) := by rw [IntKind.wrap_i64]; omega
  have e2 : IntKind.u8.wrap (48 + (n : Int)) = 48 + (n : Int) := by rw [IntKind.wrap_u8]; omega
  obtain ⟨m3, e3⟩ : wrap64 (n : Int) = (n : Int) ∧ wrap64 (48 + (n : Int)) = 48 + (n : Int) := by unfold wrap64; omega
  have hcv := conv1 (w.alloc (.cells #[.int .u8 (48 + (n : Int))] 5)) w.heap.size n h (by go_simp)
  generalize (⟨#[UInt8.ofNat (48 + n)]⟩ : ByteArray) = y at *
  go_enter Tryz.func24, Tryz.ntmps24
  go_wp2
  go_ret
  exact ⟨rfl, Ext.alloc (Below.refl _ _) _⟩
theorem one_kept {w w' : World} {v : Value} {t : TypeId} (hb : Ext (w.alloc (.cells #[v] t)).drew w') : w'.cell? ⟨w.heap.size, 0, none⟩ = some v :=
  Ext.cell hb (by go_simp)
set_option maxRecDepth 100000 in
set_option maxHeartbeats 2000000 in
theorem ldec_k (k : Nat) : ∀ (n : Nat) (w : World), n < 10 ^ (k + 1) → n < 9223372036854775808 → Calls Tryz.prog 24 #[.int .i64 n] w fun e w' => e = .returned (.string (digs n)) ∧ Ext w w' := by
  induction k with
  | zero => intro n w h _; exact ldec_one n w (by simpa using h)
  | succ k ih =>
    intro n w h h2
    by_cases h10 : n < 10
    · exact ldec_one n w h10
    · have c1 : Box _ := ⟨fun w => ih (n / 10) w (by rw [Nat.pow_succ] at h; omega) (by omega)⟩
      rw [digs_ten n (by omega)]
      have hx := digs_size (n / 10) (by omega)
      have hy : (digs (n % 10)).size = 1 := by rw [digs_one _ (by omega)]; rfl
      have ey := digs_one (n % 10) (by omega)
      simp only [Int.natCast_ediv, Int.cast_ofNat_Int] at c1
      have hd : decide ((n : Int) < 10) = false := decide_eq_false (by omega)
      obtain ⟨m, hm⟩ : ∃ m : Nat, m = n % 10 := ⟨_, rfl⟩
      rw [← hm] at ey
      rw [← hm, ey]
      have hm2 : ((n : Int).tmod 10) = (m : Int) := by rw [Int.tmod_eq_emod_of_nonneg (by omega)]; omega
      have hm3 : ((n : Int) % 10) = (m : Int) := by omega
      have hd2 : ((n : Int).tdiv 10) = (n : Int) / 10 := Int.tdiv_eq_ediv_of_nonneg (by omega)
      have hlt : m < 10 := by omega
      obtain ⟨e3, e5⟩ : wrap64 (48 + (m : Int)) = 48 + (m : Int) ∧ wrap64 ((n : Int) / 10) = (n : Int) / 10 := by unfold wrap64; omega
      have E3 := Box.mk e3; have E5 := Box.mk e5
      clear e3 e5
      have e0 : IntKind.i64.wrap (m : Int) = (m : Int) := by rw [IntKind.wrap_i64]; omega
      have e1 : IntKind.i64.wrap (48 + (m : Int)) = 48 + (m : Int) := by rw [IntKind.wrap_i64]; omega
      have e2 : IntKind.u8.wrap (48 + (m : Int)) = 48 + (m : Int) := by rw [IntKind.wrap_u8]; omega
      have e4 : IntKind.i64.wrap ((n : Int) / 10) = (n : Int) / 10 := by rw [IntKind.wrap_i64]; omega
      have e3 := E3.out; have e5 := E5.out
      have hcv : ∀ W B, W.cell? ⟨B, 0, none⟩ = some (.int .u8 (48 + (m : Int))) → (convert 56 9 (.slice (some ⟨B, 0, none⟩) 1 1)).run Tryz.prog W = .ok (.string ⟨#[UInt8.ofNat (48 + m)]⟩) W := fun W B h => conv1 W B m hlt h
      have hs : ((⟨#[UInt8.ofNat (48 + m)]⟩ : ByteArray).size) = 1 := rfl
      generalize (⟨#[UInt8.ofNat (48 + m)]⟩ : ByteArray) = y at *
      generalize digs (n / 10) = x at *
      clear ih h hm hy ey h10
      go_enter Tryz.func24, Tryz.ntmps24
      go_wp2
      go_region_with ((go_at_call 24; (with_reducible refine (c1.out _).mono ?_); rintro e w' ⟨rfl, hb⟩; (try have hcl := one_kept hb)))
      all_goals
        go_wp2
        go_ret
        refine ⟨rfl, ?_⟩
        first
          | exact Ext.trans' (Ext.drew1 (Ext.alloc (Below.refl _ _) _)) hb
          | exact Ext.alloc (Ext.trans' (Ext.drew1 (Below.refl _ _)) hb) _
theorem ldec_any (n : Nat) (w : World) (h : n < 9223372036854775808) : Calls Tryz.prog 24 #[.int .i64 n] w fun e w' => e = .returned (.string (digs n)) ∧ Ext w w' :=
  ldec_k 18 n w (by omega) h
end Go.Proofs.YtcofejbkbcdopaaGreatDoor
