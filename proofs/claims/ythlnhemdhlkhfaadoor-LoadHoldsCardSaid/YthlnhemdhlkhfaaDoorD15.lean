import Derived.Test.YthlnhemdhlkhfaaDoorD14
/- The place of a word among the names; the maker of the iterator. -/
namespace Go.Proofs.YthlnhemdhlkhfaaDoor
open Go.RowKit

theorem idx_at (l : List UInt8) (j : Nat) (hj : j ≤ 6) (hn : ∀ t, t < j → l ≠ wordL t) (h : l = wordL j) : idxL l = j := by
  subst h
  obtain rfl | rfl | rfl | rfl | rfl | rfl | rfl : j = 0 ∨ j = 1 ∨ j = 2 ∨ j = 3 ∨ j = 4 ∨ j = 5 ∨ j = 6 := by omega
  all_goals decide
theorem idx_none (l : List UInt8) (hn : ∀ t, t < 7 → l ≠ wordL t) : idxL l = -1 := by
  unfold idxL
  rw [if_neg (show l ≠ [] from hn 0 (by decide)), if_neg (hn 1 (by decide)), if_neg (hn 2 (by decide)), if_neg (hn 3 (by decide)), if_neg (hn 4 (by decide)), if_neg (hn 5 (by decide)), if_neg (hn 6 (by decide))]
theorem wordB_ne {s : ByteArray} {t : Nat} (h : s ≠ wordB t) : s.data.toList ≠ wordL t := fun e => h (by
  apply ByteArray.ext
  apply Array.ext'
  exact e)
set_option maxHeartbeats 1000000 in
theorem index_any (N : Nat) (s : ByteArray) (w : World) (hc : ∀ t, t ≤ 6 → w.cell? ⟨N, t, none⟩ = some (.string (wordB t))) :
    Calls Tryd.prog 35 #[.slice (some ⟨N, 0, none⟩) 7 7, .string s] w fun e w' => e = .returned (.int .i64 (idxL s.data.toList)) ∧ w = w' := by
  have Hc := Box.mk hc
  clear hc
  go_enter Tryd.func35, Tryd.ntmps35
  go_wp2
  go_loop [8] (fun i => ∃ j : Nat, j ≤ 7 ∧ i = .int .i64 j ∧ Box (∀ t, t < j → s ≠ wordB t)) (fun i => 7 - (intOf i).toNat)
  case atStart => exact ⟨0, by omega, rfl, ⟨fun t h => by omega⟩⟩
  case round =>
    obtain ⟨j, hj, rfl, hn⟩ := hrel
    by_cases hj7 : j < 7
    · have m0 := Hc.out j (by omega)
      by_cases he : s = wordB j
      · have hi := Box.mk (idx_at s.data.toList j (by omega) (fun t ht => wordB_ne (hn.out t ht)) (by rw [he]; rfl))
        rw [← he] at m0
        clear he
        go_wp2
        go_ret
        exact ⟨ret_int (by rw [hi.out]), rfl⟩
      · have hne : (s.toList == (wordB j).toList) = false := by
          rw [Lib.toList_data, Lib.toList_data]
          exact beq_eq_false_iff_ne.2 (wordB_ne he)
        have hn2 : Box (∀ t, t < j + 1 → s ≠ wordB t) := ⟨fun t ht => by
          by_cases h : t = j
          · rw [h]; exact he
          · exact hn.out t (by omega)⟩
        clear he
        generalize wordB j = y at *
        go_wp2
        go_round
        case rel => exact ⟨j + 1, by omega, by go_num, hn2⟩
        case measure => simp [intOf]; omega
    · obtain rfl : j = 7 := by omega
      have hi := Box.mk (idx_none s.data.toList (fun t ht => wordB_ne (hn.out t ht)))
      go_wp2
      go_ret
      exact ⟨ret_int (by rw [hi.out]), rfl⟩
set_option maxHeartbeats 400000 in
theorem words_any (s : ByteArray) (w : World) : Calls Tryd.prog 34 #[.string s] w fun e w' => e = .returned (.func (.func 48) #[] #[.pointer (some ⟨w.heap.size, 0, none⟩)]) ∧ w.alloc (.cells #[.string s] 9) = w' := by
  go_enter Tryd.func34, Tryd.ntmps34
  go_wp2
  go_ret
  exact ⟨rfl, rfl⟩
end Go.Proofs.YthlnhemdhlkhfaaDoor
