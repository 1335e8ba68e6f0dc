import Derived.Test.YtapngkjgagapeaaDoorV7
import Derived.Test.YtapngkjgagapeaaDoorV3
/- The reference's bytes of a word. -/
namespace Go.Proofs.YtapngkjgagapeaaDoor
open Go.RowKit

theorem bytesN_step (r l : List UInt8) (a b : UInt8) (t : List UInt8) (h : bytesN l = r ++ bytesN (a :: b :: t)) : bytesN l = (r ++ [16 * digN a + digN b]) ++ bytesN t := by
  rw [h, bytesN]; simp
theorem bytesN_short (l : List UInt8) (h : l.length ≤ 1) : bytesN l = [] := by
  match l, h with
  | [], _ => rfl
  | [a], _ => rfl
set_option maxRecDepth 100000 in
set_option maxHeartbeats 4000000 in
theorem rbytes22_any (s : ByteArray) (w : World) (hs : s.size ≤ 1000000) :
    Calls Tryd.prog 39 #[.string s] w fun e w' => ∃ v, e = .returned v ∧ OwnB w.heap.size w' v (bytesN s.data.toList) ∧ Ext w w' := by
  obtain ⟨i0, hi, hz0, hz1, hz2⟩ := info_parts infoByte
  have hsl : s.data.toList.length = s.size := rfl
  go_enter Tryd.func39, Tryd.ntmps39
  go_wp2
  go_loopw [3, 4] (fun v i wr => ∃ (k : Nat) (r : List UInt8), 2 * k ≤ s.size ∧ i = .int .i64 (2 * (k : Int)) ∧ Box (r.length = k) ∧ Box (bytesN s.data.toList = r ++ bytesN (s.data.toList.drop (2 * k))) ∧ wr.ownsRow w.heap.size 5 1 v k ((nums r).map (Value.int .u8)) ∧ Ext w wr) (fun _ i _ => s.size - (intOf i).toNat)
  case atStart => exact ⟨0, [], by omega, rfl, ⟨rfl⟩, ⟨by simp⟩, World.ownsRow_nil _ _ _ _, Below.refl _ _⟩
  case round =>
    obtain ⟨k, r, hk, rfl, hr, hp, hown, hx⟩ := hrel
    have u0 : IntKind.i64.wrap (2 * (k : Int) + 1) = 2 * (k : Int) + 1 := by rw [IntKind.wrap_i64]; omega
    by_cases hlt2 : 2 * k + 1 < s.size
    · have hlt : 2 * k < s.size := by omega
      have d0 : decide (2 * (k : Int) + 1 < (s.size : Int)) = true := decide_eq_true (by omega)
      have d1 := drop_cons s (2 * k) hlt
      have d2 := drop_cons s (2 * k + 1) hlt2
      have hp2 : Box (bytesN s.data.toList = (r ++ [16 * digN s[2 * k] + digN s[2 * k + 1]]) ++ bytesN (s.data.toList.drop (2 * (k + 1)))) := ⟨bytesN_step r _ _ _ _ (by rw [hp.out, d1, d2]; rfl)⟩
      have ix1 : ∀ w, (Instr.index 9 (.string s) (.int .i64 (2 * (k : Int)))).run Tryd.prog w = .ok (.int .u8 (s[2 * k].toNat : Int)) w := fun w => by rw [show 2 * (k : Int) = ((2 * k : Nat) : Int) by omega]; exact index_at s _ hlt w
      have ix2 : ∀ w, (Instr.index 9 (.string s) (.int .i64 (2 * (k : Int) + 1))).run Tryd.prog w = .ok (.int .u8 (s[2 * k + 1].toNat : Int)) w := fun w => by rw [show 2 * (k : Int) + 1 = ((2 * k + 1 : Nat) : Int) by omega]; exact index_at s _ hlt2 w
      have c1 : Box _ := ⟨fun w => digit_any s[2 * k] w⟩
      have c2 : Box _ := ⟨fun w => digit_any s[2 * k + 1] w⟩
      have e5 : IntKind.u8.wrap (16 * ((digN s[2 * k]).toNat : Int)) = ((16 * digN s[2 * k]).toNat : Int) := by
        rw [UInt8.toNat_mul, IntKind.wrap_u8]
        show _ = ((16 * (digN s[2 * k]).toNat % 256 : Nat) : Int)
        omega
      have e6 : IntKind.u8.wrap (((16 * digN s[2 * k]).toNat : Int) + ((digN s[2 * k + 1]).toNat : Int)) = ((16 * digN s[2 * k] + digN s[2 * k + 1]).toNat : Int) := by
        rw [UInt8.toNat_add, IntKind.wrap_u8]
        omega
      generalize 16 * digN s[2 * k] + digN s[2 * k + 1] = pb at *
      generalize ((16 * digN s[2 * k]).toNat : Int) = x3 at *
      generalize ((digN s[2 * k]).toNat : Int) = x1 at *
      generalize ((digN s[2 * k + 1]).toNat : Int) = x2 at *
      clear d1 d2 hp
      generalize (s[2 * k].toNat : Int) = a at *
      generalize (s[2 * k + 1].toNat : Int) = b at *
      have hsz := hx.size
      have hr2 : Box ((r ++ [pb]).length = k + 1) := ⟨by rw [List.length_append, hr.out]; rfl⟩
      have hn2 : Box ((nums r).map (Value.int .u8) ++ [.int .u8 (pb.toNat : Int)] = (nums (r ++ [pb])).map (Value.int .u8)) := ⟨by simp [nums]⟩
      generalize (nums r).map (Value.int .u8) = cs at *
      go_wp2_with fail
      go_region_held3 (fun _ => True)
        (first
          | trivial
          | go_keep)
        (first
          | (go_at_call 61; (with_reducible refine (c1.out _).mono ?_); rintro e w' ⟨rfl, rfl⟩)
          | (go_at_call 61; (with_reducible refine (c2.out _).mono ?_); rintro e w' ⟨rfl, rfl⟩)
          | (refine step_append_lies _ (by rfl) _ _ _ (by rfl) w.heap.size 5 i0 _ 1 1 Tryd.underlying24 hi hz0 hz1 hz2 rfl (by omega) _ k cs (by rfl) ((hown.alloc _).drew)
                ⟨wr.heap.size, 0, none⟩ 1 1 [.int .u8 (pb.toNat : Int)] (by rfl) (by rfl) (World.news_of_block (cs := #[.int .u8 (pb.toNat : Int)]) (t := 5) (fr := (0, 0)) (heap_alloc_new wr _)) (by simp [Value.oneCell'])
                (by omega) (by unfold maxLen; omega) (by omega) (by simp; omega) (wr.heap.size + 1) (by simp) ?_; intro gg cap w1 hown1 hgrow hat hlt1))
      all_goals
        have hx2 : Ext w w1 := Below.grown (Ext.drewN (Ext.alloc hx _) 1) hgrow (by simp; omega) (fun j hj => (hown.lt j hj).1)
        clear hgrow
        go_wp2
        go_roundw
        case rel => exact ⟨k + 1, _, by omega, by go_num, hr2, hp2, by rw [← hn2.out]; exact hown1, hx2⟩
        case measure => simp [intOf]; omega
    · have d0 : decide (2 * (k : Int) + 1 < (s.size : Int)) = false := decide_eq_false (by omega)
      have hfin : Box (bytesN s.data.toList = r) := ⟨by rw [hp.out, bytesN_short _ (by rw [List.length_drop]; omega)]; simp⟩
      clear hp
      go_wp2
      go_ret
      exact ⟨_, rfl, by unfold OwnB; rw [hfin.out, hr.out]; exact hown, hx⟩
end Go.Proofs.YtapngkjgagapeaaDoor
