import Derived.Test.YtnblbneehogadaaHX
import Derived.Test.YtnblbneehogadaaShelf
import Derived.Shelf.Bytes.SlEqualAll
/- Contracts of bytes.Clone, bytes.Equal, event.Equal. -/
namespace Go.Proofs.Ytnblbneehogadaa
open Go.RowKit
set_option maxHeartbeats 400000 in
theorem clone_any (v : Value) (l : List UInt8) (w : World) (h : By w v l) :
    Calls Try.prog 58 #[v] w fun e w' => ∃ v', e = .returned v' ∧ OwnB w.heap.size w' v' l ∧ Below w.heap.size w w' := by
  obtain ⟨a, c, rfl, h2, h3, h4, h5⟩ := h
  cases a with
  | none =>
    have hl : l = [] := by
      rcases Nat.eq_zero_or_pos l.length with h0 | h0
      · exact List.eq_nil_of_length_eq_zero h0
      · obtain ⟨b, o, he, _⟩ := h5 h0; cases he
    subst hl
    refine (Try.bytes_Clone_nil 0 c w).mono ?_
    rintro e w' ⟨rfl, rfl⟩
    exact ⟨_, rfl, World.ownsRow_nil _ _ _ _, Below.refl _ _⟩
  | some x =>
    refine (Try.bytes_Clone_at x l.length c (nums l) w (nums_len l) h2 fun i hi => ?_).mono ?_
    · obtain ⟨b, o, he, hc⟩ := h5 (by omega)
      cases he
      have := hc i hi
      rw [Go.WideShapes.add_plain]; exact this
    · rintro e w' ⟨v', rfl, ho, _, hb⟩
      exact ⟨v', rfl, ho, hb⟩
theorem beq_any (v1 v2 : Value) (l1 l2 : List UInt8) (w : World) (h1 : By w v1 l1) (h2 : By w v2 l2) :
    Calls Try.prog 41 #[v1, v2] w fun e w' => e = .returned (.bool (l1 == l2)) ∧ w = w' := by
  obtain ⟨a, c, rfl, _, _, _, h5⟩ := h1
  obtain ⟨a', c', rfl, _, _, _, h5'⟩ := h2
  refine (Try.bytes_Equal_all a a' l1.length c l2.length c' (nums l1) (nums l2) w (nums_len _) (nums_len _) h5 h5').mono ?_
  rintro e w' ⟨rfl, rfl⟩
  rw [bytesOf_nums, bytesOf_nums]
  exact ⟨rfl, rfl⟩
def eqV (k1 k2 : Int) (s1 s2 : ByteArray) (l1 l2 : List UInt8) (b1 b2 d1 d2 t1 t2 : Nat) : Bool :=
  decide (k1 = k2) && decide (s1 = s2) && (l1 == l2) && decide (b1 = b2) && decide (d1 = d2) && decide (t1 = t2)
theorem l_eqV (l1 l2 : List UInt8) : ((⟨l1.toArray⟩ : ByteArray).toList == (⟨l2.toArray⟩ : ByteArray).toList) = (l1 == l2) := by
  rw [Lib.toList_data, Lib.toList_data]
set_option maxHeartbeats 2000000 in
theorem vequal_any (k1 k2 : Int) (s1 s2 : ByteArray) (v1 v2 : Value) (l1 l2 : List UInt8) (b1 b2 d1 d2 t1 t2 : Nat) (w : World) (h1 : By w v1 l1) (h2 : By w v2 l2) :
    Calls Try.prog 20 #[(.agg #[.int .i64 (k1), .string s1, v1, .int .u64 (b1), .int .u64 (d1), .int .u64 (t1)]), (.agg #[.int .i64 (k2), .string s2, v2, .int .u64 (b2), .int .u64 (d2), .int .u64 (t2)])] w fun e w' => e = .returned (.bool (eqV k1 k2 s1 s2 l1 l2 b1 b2 d1 d2 t1 t2)) ∧ Ext w w' := by
  have c1 : Box (∀ w1, Ext w w1 → Calls Try.prog 41 #[v1, v2] w1 fun e w' => e = .returned (.bool (l1 == l2)) ∧ w1 = w') := ⟨fun w1 hx => beq_any v1 v2 l1 l2 w1 (h1.ext hx) (h2.ext hx)⟩
  obtain ⟨a1, e1, rfl, _⟩ := h1.size
  obtain ⟨a2, e2, rfl, _⟩ := h2.size
  have hx : Ext w ((w.alloc (.cells #[.int .i64 (k1), .string s1, .slice a1 (l1.length) e1, .int .u64 (b1), .int .u64 (d1), .int .u64 (t1)] 30)).alloc (.cells #[.int .i64 (k2), .string s2, .slice a2 (l2.length) e2, .int .u64 (b2), .int .u64 (d2), .int .u64 (t2)] 30)) := Ext.alloc (Ext.alloc (Below.refl _ _) _) _
  clear h1 h2
  unfold eqV
  generalize (l1 == l2) = q at *
  by_cases hk : k1 = k2
  · subst hk
    by_cases hs : s1 = s2
    · subst hs
      cases q
      · skip
        go_enter Try.func20, Try.ntmps20
        go_wp2_with (first | (go_at_call 41; (with_reducible refine (c1.out _ hx).mono ?_); rintro e w' ⟨rfl, rfl⟩))
        go_ret
        exact ⟨ret_bool (by simp), hx⟩
      · skip
        by_cases hb : b1 = b2
        · subst hb
          by_cases hd : d1 = d2
          · subst hd
            by_cases ht : t1 = t2
            · subst ht
              go_enter Try.func20, Try.ntmps20
              go_wp2_with (first | (go_at_call 41; (with_reducible refine (c1.out _ hx).mono ?_); rintro e w' ⟨rfl, rfl⟩))
              go_ret
              exact ⟨ret_bool (by simp), hx⟩
            · skip
              have e3 : ((t1 : Int) == (t2 : Int)) = false := by rw [beq_eq_false_iff_ne]; omega
              have HB := Box.mk ht
              clear ht
              go_enter Try.func20, Try.ntmps20
              go_wp2_with (first | (go_at_call 41; (with_reducible refine (c1.out _ hx).mono ?_); rintro e w' ⟨rfl, rfl⟩))
              go_ret
              exact ⟨ret_bool (by simp [HB.out]), hx⟩
          · skip
            have e3 : ((d1 : Int) == (d2 : Int)) = false := by rw [beq_eq_false_iff_ne]; omega
            have HB := Box.mk hd
            clear hd
            go_enter Try.func20, Try.ntmps20
            go_wp2_with (first | (go_at_call 41; (with_reducible refine (c1.out _ hx).mono ?_); rintro e w' ⟨rfl, rfl⟩))
            go_ret
            exact ⟨ret_bool (by simp [HB.out]), hx⟩
        · skip
          have e3 : ((b1 : Int) == (b2 : Int)) = false := by rw [beq_eq_false_iff_ne]; omega
          have HB := Box.mk hb
          clear hb
          go_enter Try.func20, Try.ntmps20
          go_wp2_with (first | (go_at_call 41; (with_reducible refine (c1.out _ hx).mono ?_); rintro e w' ⟨rfl, rfl⟩))
          go_ret
          exact ⟨ret_bool (by simp [HB.out]), hx⟩
    · skip
      have e3 : (s1.toList == s2.toList) = false := by rw [Lib.toList_data, Lib.toList_data, beq_eq_false_iff_ne]; exact fun e => hs (str_ext e)
      have HB := Box.mk hs
      clear hs
      go_enter Try.func20, Try.ntmps20
      go_wp2_with (first | (go_at_call 41; (with_reducible refine (c1.out _ hx).mono ?_); rintro e w' ⟨rfl, rfl⟩))
      go_ret
      exact ⟨ret_bool (by simp [HB.out]), hx⟩
  · skip
    have e3 : (k1 == k2) = false := by rw [beq_eq_false_iff_ne]; exact hk
    have HB := Box.mk hk
    clear hk
    go_enter Try.func20, Try.ntmps20
    go_wp2_with (first | (go_at_call 41; (with_reducible refine (c1.out _ hx).mono ?_); rintro e w' ⟨rfl, rfl⟩))
    go_ret
    exact ⟨ret_bool (by simp [HB.out]), hx⟩
end Go.Proofs.Ytnblbneehogadaa
