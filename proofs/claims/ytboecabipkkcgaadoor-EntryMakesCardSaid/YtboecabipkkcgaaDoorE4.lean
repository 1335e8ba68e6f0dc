import Derived.Test.YtboecabipkkcgaaDoorE3
import Derived.Deep.RegionHeld3
/- Contracts of the reference's Equal, of Before and its reference. -/
namespace Go.Proofs.YtboecabipkkcgaaDoor
open Go.RowKit

theorem l_eq (l1 l2 : List UInt8) : ((⟨l1.toArray⟩ : ByteArray).toList == (⟨l2.toArray⟩ : ByteArray).toList) = (l1 == l2) := by
  rw [Lib.toList_data, Lib.toList_data]

set_option maxHeartbeats 2000000 in
theorem refEqual_any (k1 k2 : ByteArray) (v1 v2 : Value) (l1 l2 : List UInt8) (d1 d2 b1 b2 : Nat) (w : World) (h1 : By w v1 l1) (h2 : By w v2 l2) :
    Calls Tryd.prog 21 #[.agg #[.string k1, v1, .int .u64 d1, .int .u64 b1], .agg #[.string k2, v2, .int .u64 d2, .int .u64 b2]] w fun e w' => e = .returned (.bool (eqN k1 k2 l1 l2 d1 d2 b1 b2)) ∧ Ext w w' := by
  obtain ⟨a1, e1, rfl, _⟩ := h1.size
  obtain ⟨a2, e2, rfl, _⟩ := h2.size
  have hx : Ext w ((w.alloc (.cells #[.string k1, .slice a1 l1.length e1, .int .u64 d1, .int .u64 b1] 33)).alloc (.cells #[.string k2, .slice a2 l2.length e2, .int .u64 d2, .int .u64 b2] 33)) := Ext.alloc (Ext.alloc (Below.refl _ _) _) _
  have hc1 := (h1.ext hx).conv
  have hc2 := (h2.ext hx).conv
  have hq := l_eq l1 l2
  clear h1 h2
  unfold eqN
  generalize (l1 == l2) = q at *
  generalize (⟨l1.toArray⟩ : ByteArray) = x1 at *
  generalize (⟨l2.toArray⟩ : ByteArray) = x2 at *
  by_cases hk : k1 = k2
  · subst hk
    cases q
    · go_enter Tryd.func21, Tryd.ntmps21
      go_wp2
      go_ret
      exact ⟨ret_bool (by simp), hx⟩
    · by_cases hd : d1 = d2
      · subst hd
        go_enter Tryd.func21, Tryd.ntmps21
        go_wp2
        go_ret
        exact ⟨ret_bool (by rw [Bool.eq_iff_iff]; simp; try omega), hx⟩
      · have e3 : ((d1 : Int) == (d2 : Int)) = false := by rw [beq_eq_false_iff_ne]; omega
        go_enter Tryd.func21, Tryd.ntmps21
        go_wp2
        go_ret
        exact ⟨ret_bool (by simp [hd]), hx⟩
  · have e3 : (k1.toList == k2.toList) = false := by rw [Lib.toList_data, Lib.toList_data, beq_eq_false_iff_ne]; exact fun e => hk (str_ext e)
    have HK := Box.mk hk
    clear hk hc1 hc2 hq
    go_enter Tryd.func21, Tryd.ntmps21
    go_wp2
    go_ret
    exact ⟨ret_bool (by simp [HK.out]), hx⟩

def befN (d1 d2 b1 b2 : Nat) : Bool := if d1 = d2 then decide (b1 < b2) else decide (d1 < d2)
set_option maxHeartbeats 1000000 in
theorem refBefore_any (k1 k2 : ByteArray) (a1 a2 : Option Addr) (n1 n2 e1 e2 d1 d2 b1 b2 : Nat) (w : World) :
    Calls Tryd.prog 29 #[.agg #[.string k1, .slice a1 n1 e1, .int .u64 d1, .int .u64 b1], .agg #[.string k2, .slice a2 n2 e2, .int .u64 d2, .int .u64 b2]] w fun e w' => e = .returned (.bool (befN d1 d2 b1 b2)) ∧ Ext w w' := by
  have hx : Ext w ((w.alloc (.cells #[.string k1, .slice a1 n1 e1, .int .u64 d1, .int .u64 b1] 33)).alloc (.cells #[.string k2, .slice a2 n2 e2, .int .u64 d2, .int .u64 b2] 33)) := Ext.alloc (Ext.alloc (Below.refl _ _) _) _
  unfold befN
  by_cases h : d1 = d2
  · subst h
    rw [if_pos rfl]
    go_enter Tryd.func29, Tryd.ntmps29
    go_wp2
    go_ret
    exact ⟨ret_bool (by first | rfl | (rw [Bool.eq_iff_iff]; simp)), hx⟩
  · have e3 : ((d1 : Int) == (d2 : Int)) = false := by rw [beq_eq_false_iff_ne]; omega
    rw [if_neg h]
    go_enter Tryd.func29, Tryd.ntmps29
    go_wp2
    go_ret
    exact ⟨ret_bool (by first | rfl | (rw [Bool.eq_iff_iff]; simp)), hx⟩

def cmpN (a b : Nat) : Int := if a < b then -1 else if b < a then 1 else 0
set_option maxHeartbeats 1000000 in
theorem nanT_any (a : Nat) (w : World) : Calls Tryd.prog 62 #[.int .u64 a] w fun e w' => e = .returned (.bool false) ∧ w = w' := by
  go_enter Tryd.func62, Tryd.ntmps62
  go_wp2
  go_ret
  exact ⟨rfl, rfl⟩
set_option maxHeartbeats 1000000 in
theorem nanU_any (a : Nat) (w : World) : Calls Tryd.prog 63 #[.int .u64 a] w fun e w' => e = .returned (.bool false) ∧ w = w' := by
  go_enter Tryd.func63, Tryd.ntmps63
  go_wp2
  go_ret
  exact ⟨rfl, rfl⟩
set_option maxHeartbeats 1000000 in
theorem cmpT_any (a b : Nat) (w : World) : Calls Tryd.prog 50 #[.int .u64 a, .int .u64 b] w fun e w' => e = .returned (.int .i64 (cmpN a b)) ∧ w = w' := by
  have c1 : Box _ := ⟨nanT_any⟩
  unfold cmpN
  (repeat' split)
  all_goals
    go_enter Tryd.func50, Tryd.ntmps50
    go_wp2_with (first | (go_at_call 62; (with_reducible refine (c1.out _ _).mono ?_); rintro e w' ⟨rfl, rfl⟩))
    go_ret
    exact ⟨rfl, rfl⟩
set_option maxHeartbeats 1000000 in
theorem cmpU_any (a b : Nat) (w : World) : Calls Tryd.prog 51 #[.int .u64 a, .int .u64 b] w fun e w' => e = .returned (.int .i64 (cmpN a b)) ∧ w = w' := by
  have c1 : Box _ := ⟨nanU_any⟩
  unfold cmpN
  (repeat' split)
  all_goals
    go_enter Tryd.func51, Tryd.ntmps51
    go_wp2_with (first | (go_at_call 63; (with_reducible refine (c1.out _ _).mono ?_); rintro e w' ⟨rfl, rfl⟩))
    go_ret
    exact ⟨rfl, rfl⟩

def orZ (x y : Int) : Int := if x = 0 then y else x
theorem orZ_nz (x y : Int) (h : ¬ x = 0) : orZ x y = x := if_neg h
theorem orZ_z (y : Int) : orZ 0 y = y := if_pos rfl
set_option maxHeartbeats 1000000 in
theorem or2_any (x y : Int) (w : World) (B : Nat) (h0 : w.cell? ⟨B, 0, none⟩ = some (.int .i64 x)) (h1 : w.cell? ⟨B, 1, none⟩ = some (.int .i64 y)) :
    Calls Tryd.prog 49 #[.slice (some ⟨B, 0, none⟩) 2 2] w fun e w' => e = .returned (.int .i64 (orZ x y)) ∧ w = w' := by
  have H0 := Box.mk h0
  have H1 := Box.mk h1
  clear h0 h1
  go_enter Tryd.func49, Tryd.ntmps49
  go_wp2
  go_loop [5, 8] (fun v i => ∃ k : Nat, k ≤ 2 ∧ i = .int .i64 k ∧ Box (1 ≤ k → x = 0) ∧ Box (2 ≤ k → y = 0)) (fun _ i => 2 - (intOf i).toNat)
  case atStart => exact ⟨0, by omega, rfl, ⟨by omega⟩, ⟨by omega⟩⟩
  case round =>
    obtain ⟨k, hk, rfl, p0, p1⟩ := hrel
    obtain rfl | rfl | rfl : k = 0 ∨ k = 1 ∨ k = 2 := by omega
    · have c0 := H0.out
      clear p0 p1 hk
      by_cases hx : x = 0
      · subst hx
        go_wp2
        go_round
        case rel => exact ⟨1, by omega, rfl, ⟨by simp⟩, ⟨by omega⟩⟩
        case measure => simp [intOf]
      · have e1 : (x != 0) = true := by rw [bne_iff_ne]; exact hx
        have HX := Box.mk hx
        clear hx
        go_wp2
        go_ret
        exact ⟨ret_int (by rw [orZ_nz _ _ HX.out]), rfl⟩
    · have c1 := H1.out
      obtain rfl := p0.out (by omega)
      clear p0 p1 hk
      by_cases hx : y = 0
      · subst hx
        go_wp2
        go_round
        case rel => exact ⟨2, by omega, rfl, ⟨by simp⟩, ⟨by simp⟩⟩
        case measure => simp [intOf]
      · have e1 : (y != 0) = true := by rw [bne_iff_ne]; exact hx
        clear hx
        go_wp2
        go_ret
        exact ⟨ret_int (by simp [orZ_z]), rfl⟩
    · obtain rfl := p0.out (by omega)
      obtain rfl := p1.out (by omega)
      clear p0 p1 hk
      go_wp2
      go_ret
      exact ⟨ret_int (by simp [orZ_z]), rfl⟩

theorem bef_cmp (d1 d2 b1 b2 : Nat) : decide (orZ (cmpN d1 d2) (cmpN b1 b2) < 0) = befN d1 d2 b1 b2 := by
  unfold orZ cmpN befN
  (repeat' split) <;> (rw [Bool.eq_iff_iff]; simp; try omega)

set_option maxHeartbeats 2000000 in
theorem before_any (k1 k2 : ByteArray) (a1 a2 : Option Addr) (n1 n2 e1 e2 d1 d2 b1 b2 : Nat) (w : World) :
    Calls Tryd.prog 26 #[.agg #[.string k1, .slice a1 n1 e1, .int .u64 d1, .int .u64 b1], .agg #[.string k2, .slice a2 n2 e2, .int .u64 d2, .int .u64 b2]] w fun e w' => e = .returned (.bool (befN d1 d2 b1 b2)) ∧ Ext w w' := by
  have hx : Ext w ((w.alloc (.cells #[.string k1, .slice a1 n1 e1, .int .u64 d1, .int .u64 b1] 33)).alloc (.cells #[.string k2, .slice a2 n2 e2, .int .u64 d2, .int .u64 b2] 33)) := Ext.alloc (Ext.alloc (Below.refl _ _) _) _
  have c1 : Box _ := ⟨fun w => cmpT_any d1 d2 w⟩
  have c2 : Box _ := ⟨fun w => cmpU_any b1 b2 w⟩
  rw [← bef_cmp]
  generalize cmpN d1 d2 = x at *
  generalize cmpN b1 b2 = y at *
  go_enter Tryd.func26, Tryd.ntmps26
  go_wp2
  go_region_held3 (fun w' => w'.cell? ⟨w.heap.size, 2, none⟩ = some (.int .u64 d1) ∧ w'.cell? ⟨w.heap.size, 3, none⟩ = some (.int .u64 b1) ∧ w'.cell? ⟨w.heap.size + 1, 2, none⟩ = some (.int .u64 d2) ∧ w'.cell? ⟨w.heap.size + 1, 3, none⟩ = some (.int .u64 b2)) (go_keep)
    (first
      | (go_at_call 50; (with_reducible refine (c1.out _).mono ?_); rintro e w' ⟨rfl, rfl⟩) | (go_at_call 51; (with_reducible refine (c2.out _).mono ?_); rintro e w' ⟨rfl, rfl⟩) | (go_at_call 49; refine (or2_any x y _ _ ?_ ?_).mono ?_; (go_simp); (go_simp); rintro e w' ⟨rfl, rfl⟩))
  go_wp2
  go_ret
  exact ⟨rfl, Ext.drewN (Ext.alloc hx _) 1⟩
end Go.Proofs.YtboecabipkkcgaaDoor
