import Derived.Test.YtapngkjgagapeaaDoorV1
/- Contracts of Word, Equal, Same and copies of events. -/
namespace Go.Proofs.YtapngkjgagapeaaDoor
open Go.RowKit

def wordI (k : Int) : ByteArray := if kB k = true then wordS k.toNat else ⟨#[]⟩
theorem kB_nat (k : Int) (h : kB k = true) : ∃ j : Nat, k = j ∧ 1 ≤ j ∧ j ≤ 5 := by
  unfold kB at h
  simp only [Bool.and_eq_true, decide_eq_true_eq] at h
  exact ⟨k.toNat, by omega, by omega, by omega⟩
set_option maxHeartbeats 1000000 in
theorem word_any (k : Int) (w : World) (hw : EnvV w) : Calls Tryd.prog 25 #[.int .i64 k] w fun e w' => e = .returned (.string (wordI k)) ∧ w = w' := by
  have c1 : Box _ := ⟨fun w => kind_any k w⟩
  unfold wordI
  cases hk : kB k with
  | false =>
    rw [hk] at c1
    rw [if_neg (by decide)]
    clear hk hw
    go_enter Tryd.func25, Tryd.ntmps25
    go_wp2_with (first | (go_at_call 41; (with_reducible refine (c1.out _).mono ?_); rintro e w' ⟨rfl, rfl⟩))
    go_ret
    exact ⟨rfl, rfl⟩
  | true =>
    obtain ⟨j, rfl, h1, h5⟩ := kB_nat k hk
    have hc := hw.word j (by omega)
    rw [hk] at c1
    rw [if_pos rfl, Int.toNat_natCast]
    generalize wordS j = y at *
    clear hk hw h1
    have h6 : j < 6 := by omega
    have h7 : (j : Int) < 6 := by omega
    go_enter Tryd.func25, Tryd.ntmps25
    go_wp2_with (first | (go_at_call 41; (with_reducible refine (c1.out _).mono ?_); rintro e w' ⟨rfl, rfl⟩))
    go_ret
    exact ⟨rfl, rfl⟩
def wordsC : Array Value := #[.string ⟨#[]⟩, .string ⟨#[101, 120, 112, 105, 114, 101, 100]⟩, .string ⟨#[101, 118, 105, 99, 116, 101, 100]⟩, .string ⟨#[114, 101, 112, 108, 97, 99, 101, 100]⟩, .string ⟨#[100, 101, 108, 101, 116, 101, 100]⟩, .string ⟨#[99, 108, 101, 97, 114, 101, 100]⟩]
theorem wordsC_at (k : Nat) (h : k ≤ 5) : wordsC[k]? = some (.string (wordS k)) := by
  obtain rfl | rfl | rfl | rfl | rfl | rfl : k = 0 ∨ k = 1 ∨ k = 2 ∨ k = 3 ∨ k = 4 ∨ k = 5 := by omega
  all_goals rfl
set_option maxHeartbeats 400000 in
theorem rwords_any (w : World) : Calls Tryd.prog 55 #[] w fun e w' => e = .returned (.slice (some ⟨w.heap.size, 0, none⟩) 6 6) ∧ w.alloc (.cells wordsC 9) = w' := by
  go_enter Tryd.func55, Tryd.ntmps55
  go_wp2
  go_ret
  exact ⟨rfl, rfl⟩
theorem rwords_at (k : Nat) (h : k ≤ 5) (w : World) : Calls Tryd.prog 55 #[] w fun e w' => e = .returned (.slice (some ⟨w.heap.size, 0, none⟩) 6 6) ∧ w'.cell? ⟨w.heap.size, k, none⟩ = some (.string (wordS k)) ∧ Ext w w' :=
  (rwords_any w).mono fun e w' hh => ⟨hh.1, by rw [← hh.2, World.cell?_alloc_new]; exact wordsC_at k h, by rw [← hh.2]; exact Ext.alloc (Below.refl _ _) _⟩
set_option maxHeartbeats 1000000 in
theorem rword_any (k : Int) (w : World) : Calls Tryd.prog 26 #[.int .i64 k] w fun e w' => e = .returned (.string (wordI k)) ∧ Ext w w' := by
  unfold wordI
  cases hk : kB k with
  | false =>
    rw [if_neg (by decide)]
    by_cases h : k < 1
    · have d1 : decide (k < 1) = true := decide_eq_true h
      clear hk h
      go_enter Tryd.func26, Tryd.ntmps26
      go_wp2
      go_ret
      exact ⟨rfl, Below.refl _ _⟩
    · have d1 : decide (k < 1) = false := decide_eq_false h
      have d2 : decide (5 < k) = true := by
        unfold kB at hk
        by_cases h5 : 5 < k
        · exact decide_eq_true h5
        · exfalso
          rw [decide_eq_true (by omega), decide_eq_true (by omega)] at hk
          cases hk
      clear hk h
      go_enter Tryd.func26, Tryd.ntmps26
      go_wp2
      go_ret
      exact ⟨rfl, Below.refl _ _⟩
  | true =>
    obtain ⟨j, rfl, h1, h5⟩ := kB_nat k hk
    have c1 : Box _ := ⟨fun w => rwords_at j h5 w⟩
    rw [if_pos rfl, Int.toNat_natCast]
    generalize wordS j = y at *
    have d1 : decide ((j : Int) < 1) = false := decide_eq_false (by omega)
    have d2 : decide (5 < (j : Int)) = false := decide_eq_false (by omega)
    have d3 : decide (5 < j) = false := decide_eq_false (by omega)
    have h6 : j < 6 := by omega
    have h7 : (j : Int) < 6 := by omega
    clear hk h1
    go_enter Tryd.func26, Tryd.ntmps26
    go_wp2_with (first | (go_at_call 55; (with_reducible refine (c1.out _).mono ?_); rintro e w1 ⟨rfl, hc, hb⟩))
    go_ret
    exact ⟨rfl, hb⟩

def eqV (k1 k2 : Int) (s1 s2 : ByteArray) (l1 l2 : List UInt8) (b1 b2 d1 d2 t1 t2 : Nat) : Bool :=
  decide (k1 = k2) && decide (s1 = s2) && (l1 == l2) && decide (b1 = b2) && decide (d1 = d2) && decide (t1 = t2)
theorem l_eqV (l1 l2 : List UInt8) : ((⟨l1.toArray⟩ : ByteArray).toList == (⟨l2.toArray⟩ : ByteArray).toList) = (l1 == l2) := by
  rw [Lib.toList_data, Lib.toList_data]
set_option maxHeartbeats 2000000 in
theorem vequal_any (k1 k2 : Int) (s1 s2 : ByteArray) (v1 v2 : Value) (l1 l2 : List UInt8) (b1 b2 d1 d2 t1 t2 : Nat) (w : World) (h1 : By w v1 l1) (h2 : By w v2 l2) :
    Calls Tryd.prog 27 #[(.agg #[.int .i64 (k1), .string s1, v1, .int .u64 (b1), .int .u64 (d1), .int .u64 (t1)]), (.agg #[.int .i64 (k2), .string s2, v2, .int .u64 (b2), .int .u64 (d2), .int .u64 (t2)])] w fun e w' => e = .returned (.bool (eqV k1 k2 s1 s2 l1 l2 b1 b2 d1 d2 t1 t2)) ∧ Ext w w' := by
  have c1 : Box (∀ w1, Ext w w1 → Calls Tryd.prog 56 #[v1, v2] w1 fun e w' => e = .returned (.bool (l1 == l2)) ∧ w1 = w') := ⟨fun w1 hx => beq_any v1 v2 l1 l2 w1 (h1.ext hx) (h2.ext hx)⟩
  obtain ⟨a1, e1, rfl, _⟩ := h1.size
  obtain ⟨a2, e2, rfl, _⟩ := h2.size
  have hx : Ext w ((w.alloc (.cells #[.int .i64 (k1), .string s1, .slice a1 (l1.length) e1, .int .u64 (b1), .int .u64 (d1), .int .u64 (t1)] 28)).alloc (.cells #[.int .i64 (k2), .string s2, .slice a2 (l2.length) e2, .int .u64 (b2), .int .u64 (d2), .int .u64 (t2)] 28)) := Ext.alloc (Ext.alloc (Below.refl _ _) _) _
  clear h1 h2
  unfold eqV
  generalize (l1 == l2) = q at *
  by_cases hk : k1 = k2
  · subst hk
    by_cases hs : s1 = s2
    · subst hs
      cases q
      · skip
        go_enter Tryd.func27, Tryd.ntmps27
        go_wp2_with (first | (go_at_call 56; (with_reducible refine (c1.out _ hx).mono ?_); rintro e w' ⟨rfl, rfl⟩))
        go_ret
        exact ⟨ret_bool (by simp), hx⟩
      · skip
        by_cases hb : b1 = b2
        · subst hb
          by_cases hd : d1 = d2
          · subst hd
            by_cases ht : t1 = t2
            · subst ht
              go_enter Tryd.func27, Tryd.ntmps27
              go_wp2_with (first | (go_at_call 56; (with_reducible refine (c1.out _ hx).mono ?_); rintro e w' ⟨rfl, rfl⟩))
              go_ret
              exact ⟨ret_bool (by simp), hx⟩
            · skip
              have e3 : ((t1 : Int) == (t2 : Int)) = false := by rw [beq_eq_false_iff_ne]; omega
              have HB := Box.mk ht
              clear ht
              go_enter Tryd.func27, Tryd.ntmps27
              go_wp2_with (first | (go_at_call 56; (with_reducible refine (c1.out _ hx).mono ?_); rintro e w' ⟨rfl, rfl⟩))
              go_ret
              exact ⟨ret_bool (by simp [HB.out]), hx⟩
          · skip
            have e3 : ((d1 : Int) == (d2 : Int)) = false := by rw [beq_eq_false_iff_ne]; omega
            have HB := Box.mk hd
            clear hd
            go_enter Tryd.func27, Tryd.ntmps27
            go_wp2_with (first | (go_at_call 56; (with_reducible refine (c1.out _ hx).mono ?_); rintro e w' ⟨rfl, rfl⟩))
            go_ret
            exact ⟨ret_bool (by simp [HB.out]), hx⟩
        · skip
          have e3 : ((b1 : Int) == (b2 : Int)) = false := by rw [beq_eq_false_iff_ne]; omega
          have HB := Box.mk hb
          clear hb
          go_enter Tryd.func27, Tryd.ntmps27
          go_wp2_with (first | (go_at_call 56; (with_reducible refine (c1.out _ hx).mono ?_); rintro e w' ⟨rfl, rfl⟩))
          go_ret
          exact ⟨ret_bool (by simp [HB.out]), hx⟩
    · skip
      have e3 : (s1.toList == s2.toList) = false := by rw [Lib.toList_data, Lib.toList_data, beq_eq_false_iff_ne]; exact fun e => hs (str_ext e)
      have HB := Box.mk hs
      clear hs
      go_enter Tryd.func27, Tryd.ntmps27
      go_wp2_with (first | (go_at_call 56; (with_reducible refine (c1.out _ hx).mono ?_); rintro e w' ⟨rfl, rfl⟩))
      go_ret
      exact ⟨ret_bool (by simp [HB.out]), hx⟩
  · skip
    have e3 : (k1 == k2) = false := by rw [beq_eq_false_iff_ne]; exact hk
    have HB := Box.mk hk
    clear hk
    go_enter Tryd.func27, Tryd.ntmps27
    go_wp2_with (first | (go_at_call 56; (with_reducible refine (c1.out _ hx).mono ?_); rintro e w' ⟨rfl, rfl⟩))
    go_ret
    exact ⟨ret_bool (by simp [HB.out]), hx⟩
set_option maxHeartbeats 2000000 in
theorem same_any (k1 k2 : Int) (s1 s2 : ByteArray) (v1 v2 : Value) (l1 l2 : List UInt8) (b1 b2 d1 d2 t1 t2 : Nat) (w : World) (h1 : By w v1 l1) (h2 : By w v2 l2) :
    Calls Tryd.prog 28 #[(.agg #[.int .i64 (k1), .string s1, v1, .int .u64 (b1), .int .u64 (d1), .int .u64 (t1)]), (.agg #[.int .i64 (k2), .string s2, v2, .int .u64 (b2), .int .u64 (d2), .int .u64 (t2)])] w fun e w' => e = .returned (.bool (eqV k1 k2 s1 s2 l1 l2 b1 b2 d1 d2 t1 t2)) ∧ Ext w w' := by
  obtain ⟨a1, e1, rfl, _⟩ := h1.size
  obtain ⟨a2, e2, rfl, _⟩ := h2.size
  have hx : Ext w ((w.alloc (.cells #[.int .i64 (k1), .string s1, .slice a1 (l1.length) e1, .int .u64 (b1), .int .u64 (d1), .int .u64 (t1)] 28)).alloc (.cells #[.int .i64 (k2), .string s2, .slice a2 (l2.length) e2, .int .u64 (b2), .int .u64 (d2), .int .u64 (t2)] 28)) := Ext.alloc (Ext.alloc (Below.refl _ _) _) _
  have hc1 := (h1.ext hx).conv
  have hc2 := (h2.ext hx).conv
  have hq := l_eqV l1 l2
  clear h1 h2
  unfold eqV
  generalize (l1 == l2) = q at *
  generalize (⟨l1.toArray⟩ : ByteArray) = x1 at *
  generalize (⟨l2.toArray⟩ : ByteArray) = x2 at *
  by_cases hk : k1 = k2
  · subst hk
    by_cases hs : s1 = s2
    · subst hs
      cases q
      · skip
        go_enter Tryd.func28, Tryd.ntmps28
        go_wp2
        go_ret
        exact ⟨ret_bool (by simp), hx⟩
      · skip
        by_cases hb : b1 = b2
        · subst hb
          by_cases hd : d1 = d2
          · subst hd
            by_cases ht : t1 = t2
            · subst ht
              go_enter Tryd.func28, Tryd.ntmps28
              go_wp2
              go_ret
              exact ⟨ret_bool (by simp), hx⟩
            · skip
              have e3 : ((t1 : Int) == (t2 : Int)) = false := by rw [beq_eq_false_iff_ne]; omega
              have HB := Box.mk ht
              clear ht
              go_enter Tryd.func28, Tryd.ntmps28
              go_wp2
              go_ret
              exact ⟨ret_bool (by simp [HB.out]), hx⟩
          · skip
            have e3 : ((d1 : Int) == (d2 : Int)) = false := by rw [beq_eq_false_iff_ne]; omega
            have HB := Box.mk hd
            clear hd
            go_enter Tryd.func28, Tryd.ntmps28
            go_wp2
            go_ret
            exact ⟨ret_bool (by simp [HB.out]), hx⟩
        · skip
          have e3 : ((b1 : Int) == (b2 : Int)) = false := by rw [beq_eq_false_iff_ne]; omega
          have HB := Box.mk hb
          clear hb
          go_enter Tryd.func28, Tryd.ntmps28
          go_wp2
          go_ret
          exact ⟨ret_bool (by simp [HB.out]), hx⟩
    · skip
      have e3 : (s1.toList == s2.toList) = false := by rw [Lib.toList_data, Lib.toList_data, beq_eq_false_iff_ne]; exact fun e => hs (str_ext e)
      have HB := Box.mk hs
      clear hs hc1 hc2 hq
      go_enter Tryd.func28, Tryd.ntmps28
      go_wp2
      go_ret
      exact ⟨ret_bool (by simp [HB.out]), hx⟩
  · skip
    have e3 : (k1 == k2) = false := by rw [beq_eq_false_iff_ne]; exact hk
    have HB := Box.mk hk
    clear hk hc1 hc2 hq
    go_enter Tryd.func28, Tryd.ntmps28
    go_wp2
    go_ret
    exact ⟨ret_bool (by simp [HB.out]), hx⟩
end Go.Proofs.YtapngkjgagapeaaDoor
