import Derived.Test.YtapngkjgagapeaaDoorV1V
/- The contract of the reference's Valid of events. -/
namespace Go.Proofs.YtapngkjgagapeaaDoor
open Go.RowKit

theorem fine_and (n m b : Nat) : fineN n m b = (decide (1 ≤ n) && decide (n ≤ 250) && decide (m ≤ 65536) && decide (1 ≤ b)) := by
  unfold fineN chk vk
  rw [Bool.eq_iff_iff]
  simp only [Bool.and_eq_true, decide_eq_true_eq, Bool.and_eq_false_iff, decide_eq_false_iff_not]
  constructor
  · intro h
    split at h
    · omega
    · split at h
      · omega
      · omega
  · intro h
    rw [if_neg (by omega), if_neg (by omega)]
set_option maxHeartbeats 2000000 in
theorem rentry_any (s : ByteArray) (a : Option Addr) (n c d b : Nat) (w : World) (hs : s.size ≤ 9223372036854775807) (hn : n ≤ 9223372036854775807) :
    Calls Tryd.prog 52 #[.agg #[.string s, .slice a n c, .int .u64 d, .int .u64 b]] w fun e w' => e = .returned (.bool (fineN s.size n b)) ∧ Ext w w' := by
  rw [fine_and]
  have hx : Ext w (w.alloc (.cells #[.string s, .slice a n c, .int .u64 d, .int .u64 b] 83)) := Ext.alloc (Below.refl _ _) _
  by_cases h1 : 1 ≤ s.size
  · by_cases h2 : s.size ≤ 250
    · by_cases h3 : n ≤ 65536
      · by_cases h4 : 1 ≤ b
        all_goals
          go_enter Tryd.func52, Tryd.ntmps52
          go_wp2
          go_ret
          exact ⟨ret_bool (by simp [h1, h2, h3, h4] <;> omega), hx⟩
      · have d3 : decide ((n : Int) ≤ 65536) = false := decide_eq_false (by omega)
        have d4 : decide (n ≤ 65536) = false := decide_eq_false h3
        go_enter Tryd.func52, Tryd.ntmps52
        go_wp2
        go_ret
        exact ⟨ret_bool (by simp [h1, h2, h3] <;> omega), hx⟩
    · have d3 : decide ((s.size : Int) ≤ 250) = false := decide_eq_false (by omega)
      have d4 : decide (s.size ≤ 250) = false := decide_eq_false h2
      go_enter Tryd.func52, Tryd.ntmps52
      go_wp2
      go_ret
      exact ⟨ret_bool (by simp [h1, h2] <;> omega), hx⟩
  · have d3 : decide (1 ≤ (s.size : Int)) = false := decide_eq_false (by omega)
    have d4 : decide (1 ≤ s.size) = false := decide_eq_false h1
    go_enter Tryd.func52, Tryd.ntmps52
    go_wp2
    go_ret
    exact ⟨ret_bool (by simp [h1] <;> omega), hx⟩
set_option maxHeartbeats 4000000 in
theorem rvalid_any (k : Int) (s : ByteArray) (a : Option Addr) (n c b d t : Nat) (w : World) (hs : s.size ≤ 9223372036854775807) (hn : n ≤ 9223372036854775807) (hd : d < 18446744073709551616) (ht : t < 18446744073709551616) :
    Calls Tryd.prog 24 #[(.agg #[.int .i64 (k), .string s, .slice a (n) c, .int .u64 (b), .int .u64 (d), .int .u64 (t)])] w fun e w' => e = .returned (.bool (okV k s.size n b d t)) ∧ Ext w w' := by
  have c2 : Box _ := ⟨fun w => rof_any k s a n c b d t w⟩
  have c3 : Box _ := ⟨fun w => rentry_any s a n c d b w hs hn⟩
  have c4 : Box _ := ⟨fun w => rdue_any d t w hd ht⟩
  have hx : Ext w (w.alloc (.cells #[.int .i64 (k), .string s, .slice a (n) c, .int .u64 (b), .int .u64 (d), .int .u64 (t)] 28)) := Ext.alloc (Below.refl _ _) _
  have hB := newblk w (.cells #[.int .i64 (k), .string s, .slice a (n) c, .int .u64 (b), .int .u64 (d), .int .u64 (t)] 28)
  obtain ⟨m0, m1, m2, m3, m4, m5⟩ := blk6 hB
  unfold okV kB
  generalize fineN s.size n b = y at *
  generalize dueB d t = z at *
  by_cases hk1 : 1 ≤ k
  · by_cases hk5 : k < 6
    · have d1 : decide (1 ≤ k) = true := decide_eq_true hk1
      have d2 : decide (k ≤ 5) = true := decide_eq_true (by omega)
      have d3 : decide (k < 6) = true := decide_eq_true hk5
      clear hk1 hk5
      rw [d1, d3]
      have hx := Ext.drewN hx 1
      cases y with
      | false =>
        go_enter Tryd.func24, Tryd.ntmps24
        go_wp2
        refine wp_region_held_drew (S := (fun w' => w'.cell? ⟨w.heap.size, 0, none⟩ = some (.int .i64 (k)) ∧ w'.cell? ⟨w.heap.size, 1, none⟩ = some (.string s) ∧ w'.cell? ⟨w.heap.size, 2, none⟩ = some (.slice a (n) c) ∧ w'.cell? ⟨w.heap.size, 3, none⟩ = some (.int .u64 (b)) ∧ w'.cell? ⟨w.heap.size, 4, none⟩ = some (.int .u64 (d)) ∧ w'.cell? ⟨w.heap.size, 5, none⟩ = some (.int .u64 (t)))) (by kernel_rfl) ?_ (fun hHeld => ?_)
        · (try dsimp only); (first | go_keep | (exact ⟨m0, m1, m2, m3, m4, m5⟩))
        refine takeD (i := 0) (d := (some 3)) (v := ?_) rfl (by kernel_rfl) (by kernel_rfl) (by kernel_rfl) (by kernel_rfl) (fun _ _ _ h => h) (Or.inl ⟨by kernel_rfl, ?hy⟩) (by assumption) ?rest
        case hy => (intro w hSw; (try dsimp only at hSw); go_simp; (try with_reducible rfl))
        case rest =>
          (try simp only [Act.put, List.setIfInBounds_toArray, List.set_cons_zero, List.set_cons_succ])
          refine takeD (i := 1) (d := (some 4)) (v := ?_) rfl (by kernel_rfl) (by kernel_rfl) (by kernel_rfl) (by kernel_rfl) (fun _ _ _ h => h) (Or.inl ⟨by kernel_rfl, ?hy⟩) (by assumption) ?rest
          case hy => (intro w hSw; (try dsimp only at hSw); go_simp; (try with_reducible rfl))
          case rest =>
            (try simp only [Act.put, List.setIfInBounds_toArray, List.set_cons_zero, List.set_cons_succ])
            refine takeD (i := 2) (d := (some 5)) (v := ?_) rfl (by kernel_rfl) (by kernel_rfl) (by kernel_rfl) (by kernel_rfl) (fun _ _ _ h => h) (Or.inl ⟨by kernel_rfl, ?hy⟩) (by assumption) ?rest
            case hy => (intro w hSw; (try dsimp only at hSw); go_simp; (try with_reducible rfl))
            case rest =>
              (try simp only [Act.put, List.setIfInBounds_toArray, List.set_cons_zero, List.set_cons_succ])
              refine takeD (i := 3) (d := (some 6)) (v := ?_) rfl (by kernel_rfl) (by kernel_rfl) (by kernel_rfl) (by kernel_rfl) (fun _ _ _ h => h) (Or.inl ⟨by kernel_rfl, ?hy⟩) (by assumption) ?rest
              case hy => (intro w hSw; (try dsimp only at hSw); go_simp; (try with_reducible rfl))
              case rest =>
                (try simp only [Act.put, List.setIfInBounds_toArray, List.set_cons_zero, List.set_cons_succ])
                refine takeD (i := 4) (d := (some 7)) (v := ?_) rfl (by kernel_rfl) (by kernel_rfl) (by kernel_rfl) (by kernel_rfl) (fun _ _ _ h => h) (Or.inl ⟨by kernel_rfl, ?hy⟩) (by assumption) ?rest
                case hy => (intro w hSw; (try dsimp only at hSw); go_simp; (try with_reducible rfl))
                case rest =>
                  (try simp only [Act.put, List.setIfInBounds_toArray, List.set_cons_zero, List.set_cons_succ])
                  refine takeD (i := 5) (d := (some 8)) (v := ?_) rfl (by kernel_rfl) (by kernel_rfl) (by kernel_rfl) (by kernel_rfl) (fun _ _ _ h => h) (Or.inl ⟨by kernel_rfl, ?hy⟩) (by assumption) ?rest
                  case hy => (intro w hSw; (try dsimp only at hSw); go_simp; (try with_reducible rfl))
                  case rest =>
                    (try simp only [Act.put, List.setIfInBounds_toArray, List.set_cons_zero, List.set_cons_succ])
                    refine takeD (i := 6) (d := (some 9)) (v := ?_) rfl (by kernel_rfl) (by kernel_rfl) (by kernel_rfl) (by kernel_rfl) (fun _ _ _ h => h) (Or.inl ⟨by kernel_rfl, ?hy⟩) (by assumption) ?rest
                    case hy => (intro w hSw; (try dsimp only at hSw); go_simp; (try with_reducible rfl))
                    case rest =>
                      (try simp only [Act.put, List.setIfInBounds_toArray, List.set_cons_zero, List.set_cons_succ])
                      refine takeD (i := 7) (d := (some 10)) (v := ?_) rfl (by kernel_rfl) (by kernel_rfl) (by kernel_rfl) (by kernel_rfl) (fun _ _ _ h => h) (Or.inl ⟨by kernel_rfl, ?hy⟩) (by assumption) ?rest
                      case hy => (intro w hSw; (try dsimp only at hSw); go_simp; (try with_reducible rfl))
                      case rest =>
                        (try simp only [Act.put, List.setIfInBounds_toArray, List.set_cons_zero, List.set_cons_succ])
                        refine takeD (i := 8) (d := (some 11)) (v := ?_) rfl (by kernel_rfl) (by kernel_rfl) (by kernel_rfl) (by kernel_rfl) (fun _ _ _ h => h) (Or.inl ⟨by kernel_rfl, ?hy⟩) (by assumption) ?rest
                        case hy => (intro w hSw; (try dsimp only at hSw); go_simp; (try with_reducible rfl))
                        case rest =>
                          (try simp only [Act.put, List.setIfInBounds_toArray, List.set_cons_zero, List.set_cons_succ])
                          refine takeD (i := 9) (d := (some 12)) (v := ?_) rfl (by kernel_rfl) (by kernel_rfl) (by kernel_rfl) (by kernel_rfl) (fun _ _ _ h => h) (Or.inl ⟨by kernel_rfl, ?hy⟩) (by assumption) ?rest
                          case hy => (intro w hSw; (try dsimp only at hSw); go_simp; (try with_reducible rfl))
                          case rest =>
                            (try simp only [Act.put, List.setIfInBounds_toArray, List.set_cons_zero, List.set_cons_succ])
                            refine wpAnyH_ready (rs := [10]) (by kernel_rfl) (by simp) ?_
                            refine AllReadyH.cons rfl (fun K hK => ?_) AllReadyH.nil
                            go_simp
                            (go_at_call 53; (with_reducible refine (c2.out _).mono ?_); rintro e w1 ⟨rfl, hb⟩; (try clear m0 m1 m2 m3 m4 m5); have hx := Ext.trans' hx hb; have hB := Ext.blk (Ext.trans' (Ext.drewN (Below.refl _ _) 1) hb) hB; obtain ⟨m0, m1, m2, m3, m4, m5⟩ := blk6 hB)
                            (try go_wp2_with fail)
                            refine hK.out _ _ ?_ (fun hHeld => ?_)
                            · (try dsimp only); (exact ⟨m0, m1, m2, m3, m4, m5⟩)
                            clear hK K
                            (try simp only [Act.put, List.setIfInBounds_toArray, List.set_cons_zero, List.set_cons_succ])
                            refine wpAnyH_ready (rs := [11]) (by kernel_rfl) (by simp) ?_
                            refine AllReadyH.cons rfl (fun K hK => ?_) AllReadyH.nil
                            go_simp
                            (go_at_call 52; (with_reducible refine (c3.out _).mono ?_); rintro e w1 ⟨rfl, hb⟩; (try clear m0 m1 m2 m3 m4 m5); have hx := Ext.trans' hx hb; have hB := Ext.blk hb hB; obtain ⟨m0, m1, m2, m3, m4, m5⟩ := blk6 hB)
                            (try go_wp2_with fail)
                            refine hK.out _ _ ?_ (fun hHeld => ?_)
                            · (try dsimp only); (exact ⟨m0, m1, m2, m3, m4, m5⟩)
                            clear hK K
                            (try simp only [Act.put, List.setIfInBounds_toArray, List.set_cons_zero, List.set_cons_succ])
                            refine takeD (i := 12) (d := (some 15)) (v := ?_) rfl (by kernel_rfl) (by kernel_rfl) (by kernel_rfl) (by kernel_rfl) (fun _ _ _ h => h) (Or.inl ⟨by kernel_rfl, ?hy⟩) (by assumption) ?rest
                            case hy => (intro w hSw; (try dsimp only at hSw); go_simp; (try with_reducible rfl))
                            case rest =>
                              (try simp only [Act.put, List.setIfInBounds_toArray, List.set_cons_zero, List.set_cons_succ])
                              refine takeD (i := 13) (d := (some 16)) (v := ?_) rfl (by kernel_rfl) (by kernel_rfl) (by kernel_rfl) (by kernel_rfl) (fun _ _ _ h => h) (Or.inl ⟨by kernel_rfl, ?hy⟩) (by assumption) ?rest
                              case hy => (intro w hSw; (try dsimp only at hSw); go_simp; (try with_reducible rfl))
                              case rest =>
                                (try simp only [Act.put, List.setIfInBounds_toArray, List.set_cons_zero, List.set_cons_succ])
                                refine takeD (i := 14) (d := (some 17)) (v := undef) rfl (by kernel_rfl) (by kernel_rfl) (by kernel_rfl) (by kernel_rfl) (fun _ _ _ h => h) (Or.inr ⟨by kernel_rfl, rfl⟩) (by assumption) ?_
                                (try simp only [Act.put, List.setIfInBounds_toArray, List.set_cons_zero, List.set_cons_succ])
                                refine takeD (i := 15) (d := (some 18)) (v := undef) rfl (by kernel_rfl) (by kernel_rfl) (by kernel_rfl) (by kernel_rfl) (fun _ _ _ h => h) (Or.inr ⟨by kernel_rfl, rfl⟩) (by assumption) ?_
                                (try simp only [Act.put, List.setIfInBounds_toArray, List.set_cons_zero, List.set_cons_succ])
                                refine takeD (i := 16) (d := (some 19)) (v := undef) rfl (by kernel_rfl) (by kernel_rfl) (by kernel_rfl) (by kernel_rfl) (fun _ _ _ h => h) (Or.inr ⟨by kernel_rfl, rfl⟩) (by assumption) ?_
                                (try simp only [Act.put, List.setIfInBounds_toArray, List.set_cons_zero, List.set_cons_succ])
                                refine takeD (i := 17) (d := (some 20)) (v := undef) rfl (by kernel_rfl) (by kernel_rfl) (by kernel_rfl) (by kernel_rfl) (fun _ _ _ h => h) (Or.inr ⟨by kernel_rfl, rfl⟩) (by assumption) ?_
                                (try simp only [Act.put, List.setIfInBounds_toArray, List.set_cons_zero, List.set_cons_succ])
                                refine takeD (i := 18) (d := (some 21)) (v := undef) rfl (by kernel_rfl) (by kernel_rfl) (by kernel_rfl) (by kernel_rfl) (fun _ _ _ h => h) (Or.inr ⟨by kernel_rfl, rfl⟩) (by assumption) ?_
                                (try simp only [Act.put, List.setIfInBounds_toArray, List.set_cons_zero, List.set_cons_succ])
                                refine takeD (i := 19) (d := (some 22)) (v := undef) rfl (by kernel_rfl) (by kernel_rfl) (by kernel_rfl) (by kernel_rfl) (fun _ _ _ h => h) (Or.inr ⟨by kernel_rfl, rfl⟩) (by assumption) ?_
                                (try simp only [Act.put, List.setIfInBounds_toArray, List.set_cons_zero, List.set_cons_succ])
                                refine takeD (i := 20) (d := (some 23)) (v := undef) rfl (by kernel_rfl) (by kernel_rfl) (by kernel_rfl) (by kernel_rfl) (fun _ _ _ h => h) (Or.inr ⟨by kernel_rfl, rfl⟩) (by assumption) ?_
                                (try simp only [Act.put, List.setIfInBounds_toArray, List.set_cons_zero, List.set_cons_succ])
                                refine takeD (i := 21) (d := (some 24)) (v := undef) rfl (by kernel_rfl) (by kernel_rfl) (by kernel_rfl) (by kernel_rfl) (fun _ _ _ h => h) (Or.inr ⟨by kernel_rfl, rfl⟩) (by assumption) ?_
                                (try simp only [Act.put, List.setIfInBounds_toArray, List.set_cons_zero, List.set_cons_succ])
                                refine takeD (i := 22) (d := (some 25)) (v := undef) rfl (by kernel_rfl) (by kernel_rfl) (by kernel_rfl) (by kernel_rfl) (fun _ _ _ h => h) (Or.inr ⟨by kernel_rfl, rfl⟩) (by assumption) ?_
                                (try simp only [Act.put, List.setIfInBounds_toArray, List.set_cons_zero, List.set_cons_succ])
                                refine takeD (i := 23) (d := (some 26)) (v := ?_) rfl (by kernel_rfl) (by kernel_rfl) (by kernel_rfl) (by kernel_rfl) (fun _ _ _ h => h) (Or.inl ⟨by kernel_rfl, ?hy⟩) (by assumption) ?rest
                                case hy => (intro w hSw; (try dsimp only at hSw); go_simp; (try with_reducible rfl))
                                case rest =>
                                  (try simp only [Act.put, List.setIfInBounds_toArray, List.set_cons_zero, List.set_cons_succ])
                                  refine takeD (i := 24) (d := (some 2)) (v := ?_) rfl (by kernel_rfl) (by kernel_rfl) (by kernel_rfl) (by kernel_rfl) (fun _ _ _ h => h) (Or.inl ⟨by kernel_rfl, ?hy⟩) (by assumption) ?rest
                                  case hy => (intro w hSw; (try dsimp only at hSw); go_simp; (try with_reducible rfl))
                                  case rest =>
                                    (try simp only [Act.put, List.setIfInBounds_toArray, List.set_cons_zero, List.set_cons_succ])
                                    refine wpAnyH_done (by kernel_rfl) ?_ _
                                    go_wp2
                                    go_ret
                                    exact ⟨rfl, hx⟩
      | true =>
        by_cases h1 : k = 1
        · subst h1
          cases z
          all_goals
            go_enter Tryd.func24, Tryd.ntmps24
            go_wp2
            refine wp_region_held_drew (S := (fun w' => w'.cell? ⟨w.heap.size, 0, none⟩ = some (.int .i64 (1)) ∧ w'.cell? ⟨w.heap.size, 1, none⟩ = some (.string s) ∧ w'.cell? ⟨w.heap.size, 2, none⟩ = some (.slice a (n) c) ∧ w'.cell? ⟨w.heap.size, 3, none⟩ = some (.int .u64 (b)) ∧ w'.cell? ⟨w.heap.size, 4, none⟩ = some (.int .u64 (d)) ∧ w'.cell? ⟨w.heap.size, 5, none⟩ = some (.int .u64 (t)))) (by kernel_rfl) ?_ (fun hHeld => ?_)
            · (try dsimp only); (first | go_keep | (exact ⟨m0, m1, m2, m3, m4, m5⟩))
            refine takeD (i := 0) (d := (some 3)) (v := ?_) rfl (by kernel_rfl) (by kernel_rfl) (by kernel_rfl) (by kernel_rfl) (fun _ _ _ h => h) (Or.inl ⟨by kernel_rfl, ?hy⟩) (by assumption) ?rest
            case hy => (intro w hSw; (try dsimp only at hSw); go_simp; (try with_reducible rfl))
            case rest =>
              (try simp only [Act.put, List.setIfInBounds_toArray, List.set_cons_zero, List.set_cons_succ])
              refine takeD (i := 1) (d := (some 4)) (v := ?_) rfl (by kernel_rfl) (by kernel_rfl) (by kernel_rfl) (by kernel_rfl) (fun _ _ _ h => h) (Or.inl ⟨by kernel_rfl, ?hy⟩) (by assumption) ?rest
              case hy => (intro w hSw; (try dsimp only at hSw); go_simp; (try with_reducible rfl))
              case rest =>
                (try simp only [Act.put, List.setIfInBounds_toArray, List.set_cons_zero, List.set_cons_succ])
                refine takeD (i := 2) (d := (some 5)) (v := ?_) rfl (by kernel_rfl) (by kernel_rfl) (by kernel_rfl) (by kernel_rfl) (fun _ _ _ h => h) (Or.inl ⟨by kernel_rfl, ?hy⟩) (by assumption) ?rest
                case hy => (intro w hSw; (try dsimp only at hSw); go_simp; (try with_reducible rfl))
                case rest =>
                  (try simp only [Act.put, List.setIfInBounds_toArray, List.set_cons_zero, List.set_cons_succ])
                  refine takeD (i := 3) (d := (some 6)) (v := ?_) rfl (by kernel_rfl) (by kernel_rfl) (by kernel_rfl) (by kernel_rfl) (fun _ _ _ h => h) (Or.inl ⟨by kernel_rfl, ?hy⟩) (by assumption) ?rest
                  case hy => (intro w hSw; (try dsimp only at hSw); go_simp; (try with_reducible rfl))
                  case rest =>
                    (try simp only [Act.put, List.setIfInBounds_toArray, List.set_cons_zero, List.set_cons_succ])
                    refine takeD (i := 4) (d := (some 7)) (v := ?_) rfl (by kernel_rfl) (by kernel_rfl) (by kernel_rfl) (by kernel_rfl) (fun _ _ _ h => h) (Or.inl ⟨by kernel_rfl, ?hy⟩) (by assumption) ?rest
                    case hy => (intro w hSw; (try dsimp only at hSw); go_simp; (try with_reducible rfl))
                    case rest =>
                      (try simp only [Act.put, List.setIfInBounds_toArray, List.set_cons_zero, List.set_cons_succ])
                      refine takeD (i := 5) (d := (some 8)) (v := ?_) rfl (by kernel_rfl) (by kernel_rfl) (by kernel_rfl) (by kernel_rfl) (fun _ _ _ h => h) (Or.inl ⟨by kernel_rfl, ?hy⟩) (by assumption) ?rest
                      case hy => (intro w hSw; (try dsimp only at hSw); go_simp; (try with_reducible rfl))
                      case rest =>
                        (try simp only [Act.put, List.setIfInBounds_toArray, List.set_cons_zero, List.set_cons_succ])
                        refine takeD (i := 6) (d := (some 9)) (v := ?_) rfl (by kernel_rfl) (by kernel_rfl) (by kernel_rfl) (by kernel_rfl) (fun _ _ _ h => h) (Or.inl ⟨by kernel_rfl, ?hy⟩) (by assumption) ?rest
                        case hy => (intro w hSw; (try dsimp only at hSw); go_simp; (try with_reducible rfl))
                        case rest =>
                          (try simp only [Act.put, List.setIfInBounds_toArray, List.set_cons_zero, List.set_cons_succ])
                          refine takeD (i := 7) (d := (some 10)) (v := ?_) rfl (by kernel_rfl) (by kernel_rfl) (by kernel_rfl) (by kernel_rfl) (fun _ _ _ h => h) (Or.inl ⟨by kernel_rfl, ?hy⟩) (by assumption) ?rest
                          case hy => (intro w hSw; (try dsimp only at hSw); go_simp; (try with_reducible rfl))
                          case rest =>
                            (try simp only [Act.put, List.setIfInBounds_toArray, List.set_cons_zero, List.set_cons_succ])
                            refine takeD (i := 8) (d := (some 11)) (v := ?_) rfl (by kernel_rfl) (by kernel_rfl) (by kernel_rfl) (by kernel_rfl) (fun _ _ _ h => h) (Or.inl ⟨by kernel_rfl, ?hy⟩) (by assumption) ?rest
                            case hy => (intro w hSw; (try dsimp only at hSw); go_simp; (try with_reducible rfl))
                            case rest =>
                              (try simp only [Act.put, List.setIfInBounds_toArray, List.set_cons_zero, List.set_cons_succ])
                              refine takeD (i := 9) (d := (some 12)) (v := ?_) rfl (by kernel_rfl) (by kernel_rfl) (by kernel_rfl) (by kernel_rfl) (fun _ _ _ h => h) (Or.inl ⟨by kernel_rfl, ?hy⟩) (by assumption) ?rest
                              case hy => (intro w hSw; (try dsimp only at hSw); go_simp; (try with_reducible rfl))
                              case rest =>
                                (try simp only [Act.put, List.setIfInBounds_toArray, List.set_cons_zero, List.set_cons_succ])
                                refine wpAnyH_ready (rs := [10]) (by kernel_rfl) (by simp) ?_
                                refine AllReadyH.cons rfl (fun K hK => ?_) AllReadyH.nil
                                go_simp
                                (go_at_call 53; (with_reducible refine (c2.out _).mono ?_); rintro e w1 ⟨rfl, hb⟩; (try clear m0 m1 m2 m3 m4 m5); have hx := Ext.trans' hx hb; have hB := Ext.blk (Ext.trans' (Ext.drewN (Below.refl _ _) 1) hb) hB; obtain ⟨m0, m1, m2, m3, m4, m5⟩ := blk6 hB)
                                (try go_wp2_with fail)
                                refine hK.out _ _ ?_ (fun hHeld => ?_)
                                · (try dsimp only); (exact ⟨m0, m1, m2, m3, m4, m5⟩)
                                clear hK K
                                (try simp only [Act.put, List.setIfInBounds_toArray, List.set_cons_zero, List.set_cons_succ])
                                refine wpAnyH_ready (rs := [11]) (by kernel_rfl) (by simp) ?_
                                refine AllReadyH.cons rfl (fun K hK => ?_) AllReadyH.nil
                                go_simp
                                (go_at_call 52; (with_reducible refine (c3.out _).mono ?_); rintro e w1 ⟨rfl, hb⟩; (try clear m0 m1 m2 m3 m4 m5); have hx := Ext.trans' hx hb; have hB := Ext.blk hb hB; obtain ⟨m0, m1, m2, m3, m4, m5⟩ := blk6 hB)
                                (try go_wp2_with fail)
                                refine hK.out _ _ ?_ (fun hHeld => ?_)
                                · (try dsimp only); (exact ⟨m0, m1, m2, m3, m4, m5⟩)
                                clear hK K
                                (try simp only [Act.put, List.setIfInBounds_toArray, List.set_cons_zero, List.set_cons_succ])
                                refine takeD (i := 12) (d := (some 15)) (v := ?_) rfl (by kernel_rfl) (by kernel_rfl) (by kernel_rfl) (by kernel_rfl) (fun _ _ _ h => h) (Or.inl ⟨by kernel_rfl, ?hy⟩) (by assumption) ?rest
                                case hy => (intro w hSw; (try dsimp only at hSw); go_simp; (try with_reducible rfl))
                                case rest =>
                                  (try simp only [Act.put, List.setIfInBounds_toArray, List.set_cons_zero, List.set_cons_succ])
                                  refine takeD (i := 13) (d := (some 16)) (v := ?_) rfl (by kernel_rfl) (by kernel_rfl) (by kernel_rfl) (by kernel_rfl) (fun _ _ _ h => h) (Or.inl ⟨by kernel_rfl, ?hy⟩) (by assumption) ?rest
                                  case hy => (intro w hSw; (try dsimp only at hSw); go_simp; (try with_reducible rfl))
                                  case rest =>
                                    (try simp only [Act.put, List.setIfInBounds_toArray, List.set_cons_zero, List.set_cons_succ])
                                    refine takeD (i := 14) (d := (some 17)) (v := ?_) rfl (by kernel_rfl) (by kernel_rfl) (by kernel_rfl) (by kernel_rfl) (fun _ _ _ h => h) (Or.inl ⟨by kernel_rfl, ?hy⟩) (by assumption) ?rest
                                    case hy => (intro w hSw; (try dsimp only at hSw); go_simp; (try with_reducible rfl))
                                    case rest =>
                                      (try simp only [Act.put, List.setIfInBounds_toArray, List.set_cons_zero, List.set_cons_succ])
                                      refine takeD (i := 15) (d := (some 18)) (v := ?_) rfl (by kernel_rfl) (by kernel_rfl) (by kernel_rfl) (by kernel_rfl) (fun _ _ _ h => h) (Or.inl ⟨by kernel_rfl, ?hy⟩) (by assumption) ?rest
                                      case hy => (intro w hSw; (try dsimp only at hSw); go_simp; (try with_reducible rfl))
                                      case rest =>
                                        (try simp only [Act.put, List.setIfInBounds_toArray, List.set_cons_zero, List.set_cons_succ])
                                        refine takeD (i := 16) (d := (some 19)) (v := ?_) rfl (by kernel_rfl) (by kernel_rfl) (by kernel_rfl) (by kernel_rfl) (fun _ _ _ h => h) (Or.inl ⟨by kernel_rfl, ?hy⟩) (by assumption) ?rest
                                        case hy => (intro w hSw; (try dsimp only at hSw); go_simp; (try with_reducible rfl))
                                        case rest =>
                                          (try simp only [Act.put, List.setIfInBounds_toArray, List.set_cons_zero, List.set_cons_succ])
                                          refine takeD (i := 17) (d := (some 20)) (v := ?_) rfl (by kernel_rfl) (by kernel_rfl) (by kernel_rfl) (by kernel_rfl) (fun _ _ _ h => h) (Or.inl ⟨by kernel_rfl, ?hy⟩) (by assumption) ?rest
                                          case hy => (intro w hSw; (try dsimp only at hSw); go_simp; (try with_reducible rfl))
                                          case rest =>
                                            (try simp only [Act.put, List.setIfInBounds_toArray, List.set_cons_zero, List.set_cons_succ])
                                            refine takeD (i := 19) (d := (some 22)) (v := ?_) rfl (by kernel_rfl) (by kernel_rfl) (by kernel_rfl) (by kernel_rfl) (fun _ _ _ h => h) (Or.inl ⟨by kernel_rfl, ?hy⟩) (by assumption) ?rest
                                            case hy => (intro w hSw; (try dsimp only at hSw); go_simp; (try with_reducible rfl))
                                            case rest =>
                                              (try simp only [Act.put, List.setIfInBounds_toArray, List.set_cons_zero, List.set_cons_succ])
                                              refine takeD (i := 20) (d := (some 23)) (v := ?_) rfl (by kernel_rfl) (by kernel_rfl) (by kernel_rfl) (by kernel_rfl) (fun _ _ _ h => h) (Or.inl ⟨by kernel_rfl, ?hy⟩) (by assumption) ?rest
                                              case hy => (intro w hSw; (try dsimp only at hSw); go_simp; (try with_reducible rfl))
                                              case rest =>
                                                (try simp only [Act.put, List.setIfInBounds_toArray, List.set_cons_zero, List.set_cons_succ])
                                                refine takeD (i := 21) (d := (some 24)) (v := ?_) rfl (by kernel_rfl) (by kernel_rfl) (by kernel_rfl) (by kernel_rfl) (fun _ _ _ h => h) (Or.inl ⟨by kernel_rfl, ?hy⟩) (by assumption) ?rest
                                                case hy => (intro w hSw; (try dsimp only at hSw); go_simp; (try with_reducible rfl))
                                                case rest =>
                                                  (try simp only [Act.put, List.setIfInBounds_toArray, List.set_cons_zero, List.set_cons_succ])
                                                  refine wpAnyH_ready (rs := [18]) (by kernel_rfl) (by simp) ?_
                                                  refine AllReadyH.cons rfl (fun K hK => ?_) AllReadyH.nil
                                                  go_simp
                                                  (go_at_call 54; (with_reducible refine (c4.out _).mono ?_); rintro e w' ⟨rfl, rfl⟩)
                                                  (try go_wp2_with fail)
                                                  refine hK.out _ _ ?_ (fun hHeld => ?_)
                                                  · (try dsimp only); (exact ⟨m0, m1, m2, m3, m4, m5⟩)
                                                  clear hK K
                                                  (try simp only [Act.put, List.setIfInBounds_toArray, List.set_cons_zero, List.set_cons_succ])
                                                  refine takeD (i := 22) (d := (some 25)) (v := ?_) rfl (by kernel_rfl) (by kernel_rfl) (by kernel_rfl) (by kernel_rfl) (fun _ _ _ h => h) (Or.inl ⟨by kernel_rfl, ?hy⟩) (by assumption) ?rest
                                                  case hy => (intro w hSw; (try dsimp only at hSw); go_simp; (try with_reducible rfl))
                                                  case rest =>
                                                    (try simp only [Act.put, List.setIfInBounds_toArray, List.set_cons_zero, List.set_cons_succ])
                                                    refine takeD (i := 23) (d := (some 26)) (v := ?_) rfl (by kernel_rfl) (by kernel_rfl) (by kernel_rfl) (by kernel_rfl) (fun _ _ _ h => h) (Or.inl ⟨by kernel_rfl, ?hy⟩) (by assumption) ?rest
                                                    case hy => (intro w hSw; (try dsimp only at hSw); go_simp; (try with_reducible rfl))
                                                    case rest =>
                                                      (try simp only [Act.put, List.setIfInBounds_toArray, List.set_cons_zero, List.set_cons_succ])
                                                      refine takeD (i := 24) (d := (some 2)) (v := ?_) rfl (by kernel_rfl) (by kernel_rfl) (by kernel_rfl) (by kernel_rfl) (fun _ _ _ h => h) (Or.inl ⟨by kernel_rfl, ?hy⟩) (by assumption) ?rest
                                                      case hy => (intro w hSw; (try dsimp only at hSw); go_simp; (try with_reducible rfl))
                                                      case rest =>
                                                        (try simp only [Act.put, List.setIfInBounds_toArray, List.set_cons_zero, List.set_cons_succ])
                                                        refine wpAnyH_done (by kernel_rfl) ?_ _
                                                        go_wp2
                                                        go_ret
                                                        exact ⟨rfl, hx⟩
        · have e1 : (k == 1) = false := by rw [beq_eq_false_iff_ne]; exact h1
          have h1 := Box.mk h1
          cases z
          all_goals
            go_enter Tryd.func24, Tryd.ntmps24
            go_wp2
            refine wp_region_held_drew (S := (fun w' => w'.cell? ⟨w.heap.size, 0, none⟩ = some (.int .i64 (k)) ∧ w'.cell? ⟨w.heap.size, 1, none⟩ = some (.string s) ∧ w'.cell? ⟨w.heap.size, 2, none⟩ = some (.slice a (n) c) ∧ w'.cell? ⟨w.heap.size, 3, none⟩ = some (.int .u64 (b)) ∧ w'.cell? ⟨w.heap.size, 4, none⟩ = some (.int .u64 (d)) ∧ w'.cell? ⟨w.heap.size, 5, none⟩ = some (.int .u64 (t)))) (by kernel_rfl) ?_ (fun hHeld => ?_)
            · (try dsimp only); (first | go_keep | (exact ⟨m0, m1, m2, m3, m4, m5⟩))
            refine takeD (i := 0) (d := (some 3)) (v := ?_) rfl (by kernel_rfl) (by kernel_rfl) (by kernel_rfl) (by kernel_rfl) (fun _ _ _ h => h) (Or.inl ⟨by kernel_rfl, ?hy⟩) (by assumption) ?rest
            case hy => (intro w hSw; (try dsimp only at hSw); go_simp; (try with_reducible rfl))
            case rest =>
              (try simp only [Act.put, List.setIfInBounds_toArray, List.set_cons_zero, List.set_cons_succ])
              refine takeD (i := 1) (d := (some 4)) (v := ?_) rfl (by kernel_rfl) (by kernel_rfl) (by kernel_rfl) (by kernel_rfl) (fun _ _ _ h => h) (Or.inl ⟨by kernel_rfl, ?hy⟩) (by assumption) ?rest
              case hy => (intro w hSw; (try dsimp only at hSw); go_simp; (try with_reducible rfl))
              case rest =>
                (try simp only [Act.put, List.setIfInBounds_toArray, List.set_cons_zero, List.set_cons_succ])
                refine takeD (i := 2) (d := (some 5)) (v := ?_) rfl (by kernel_rfl) (by kernel_rfl) (by kernel_rfl) (by kernel_rfl) (fun _ _ _ h => h) (Or.inl ⟨by kernel_rfl, ?hy⟩) (by assumption) ?rest
                case hy => (intro w hSw; (try dsimp only at hSw); go_simp; (try with_reducible rfl))
                case rest =>
                  (try simp only [Act.put, List.setIfInBounds_toArray, List.set_cons_zero, List.set_cons_succ])
                  refine takeD (i := 3) (d := (some 6)) (v := ?_) rfl (by kernel_rfl) (by kernel_rfl) (by kernel_rfl) (by kernel_rfl) (fun _ _ _ h => h) (Or.inl ⟨by kernel_rfl, ?hy⟩) (by assumption) ?rest
                  case hy => (intro w hSw; (try dsimp only at hSw); go_simp; (try with_reducible rfl))
                  case rest =>
                    (try simp only [Act.put, List.setIfInBounds_toArray, List.set_cons_zero, List.set_cons_succ])
                    refine takeD (i := 4) (d := (some 7)) (v := ?_) rfl (by kernel_rfl) (by kernel_rfl) (by kernel_rfl) (by kernel_rfl) (fun _ _ _ h => h) (Or.inl ⟨by kernel_rfl, ?hy⟩) (by assumption) ?rest
                    case hy => (intro w hSw; (try dsimp only at hSw); go_simp; (try with_reducible rfl))
                    case rest =>
                      (try simp only [Act.put, List.setIfInBounds_toArray, List.set_cons_zero, List.set_cons_succ])
                      refine takeD (i := 5) (d := (some 8)) (v := ?_) rfl (by kernel_rfl) (by kernel_rfl) (by kernel_rfl) (by kernel_rfl) (fun _ _ _ h => h) (Or.inl ⟨by kernel_rfl, ?hy⟩) (by assumption) ?rest
                      case hy => (intro w hSw; (try dsimp only at hSw); go_simp; (try with_reducible rfl))
                      case rest =>
                        (try simp only [Act.put, List.setIfInBounds_toArray, List.set_cons_zero, List.set_cons_succ])
                        refine takeD (i := 6) (d := (some 9)) (v := ?_) rfl (by kernel_rfl) (by kernel_rfl) (by kernel_rfl) (by kernel_rfl) (fun _ _ _ h => h) (Or.inl ⟨by kernel_rfl, ?hy⟩) (by assumption) ?rest
                        case hy => (intro w hSw; (try dsimp only at hSw); go_simp; (try with_reducible rfl))
                        case rest =>
                          (try simp only [Act.put, List.setIfInBounds_toArray, List.set_cons_zero, List.set_cons_succ])
                          refine takeD (i := 7) (d := (some 10)) (v := ?_) rfl (by kernel_rfl) (by kernel_rfl) (by kernel_rfl) (by kernel_rfl) (fun _ _ _ h => h) (Or.inl ⟨by kernel_rfl, ?hy⟩) (by assumption) ?rest
                          case hy => (intro w hSw; (try dsimp only at hSw); go_simp; (try with_reducible rfl))
                          case rest =>
                            (try simp only [Act.put, List.setIfInBounds_toArray, List.set_cons_zero, List.set_cons_succ])
                            refine takeD (i := 8) (d := (some 11)) (v := ?_) rfl (by kernel_rfl) (by kernel_rfl) (by kernel_rfl) (by kernel_rfl) (fun _ _ _ h => h) (Or.inl ⟨by kernel_rfl, ?hy⟩) (by assumption) ?rest
                            case hy => (intro w hSw; (try dsimp only at hSw); go_simp; (try with_reducible rfl))
                            case rest =>
                              (try simp only [Act.put, List.setIfInBounds_toArray, List.set_cons_zero, List.set_cons_succ])
                              refine takeD (i := 9) (d := (some 12)) (v := ?_) rfl (by kernel_rfl) (by kernel_rfl) (by kernel_rfl) (by kernel_rfl) (fun _ _ _ h => h) (Or.inl ⟨by kernel_rfl, ?hy⟩) (by assumption) ?rest
                              case hy => (intro w hSw; (try dsimp only at hSw); go_simp; (try with_reducible rfl))
                              case rest =>
                                (try simp only [Act.put, List.setIfInBounds_toArray, List.set_cons_zero, List.set_cons_succ])
                                refine wpAnyH_ready (rs := [10]) (by kernel_rfl) (by simp) ?_
                                refine AllReadyH.cons rfl (fun K hK => ?_) AllReadyH.nil
                                go_simp
                                (go_at_call 53; (with_reducible refine (c2.out _).mono ?_); rintro e w1 ⟨rfl, hb⟩; (try clear m0 m1 m2 m3 m4 m5); have hx := Ext.trans' hx hb; have hB := Ext.blk (Ext.trans' (Ext.drewN (Below.refl _ _) 1) hb) hB; obtain ⟨m0, m1, m2, m3, m4, m5⟩ := blk6 hB)
                                (try go_wp2_with fail)
                                refine hK.out _ _ ?_ (fun hHeld => ?_)
                                · (try dsimp only); (exact ⟨m0, m1, m2, m3, m4, m5⟩)
                                clear hK K
                                (try simp only [Act.put, List.setIfInBounds_toArray, List.set_cons_zero, List.set_cons_succ])
                                refine wpAnyH_ready (rs := [11]) (by kernel_rfl) (by simp) ?_
                                refine AllReadyH.cons rfl (fun K hK => ?_) AllReadyH.nil
                                go_simp
                                (go_at_call 52; (with_reducible refine (c3.out _).mono ?_); rintro e w1 ⟨rfl, hb⟩; (try clear m0 m1 m2 m3 m4 m5); have hx := Ext.trans' hx hb; have hB := Ext.blk hb hB; obtain ⟨m0, m1, m2, m3, m4, m5⟩ := blk6 hB)
                                (try go_wp2_with fail)
                                refine hK.out _ _ ?_ (fun hHeld => ?_)
                                · (try dsimp only); (exact ⟨m0, m1, m2, m3, m4, m5⟩)
                                clear hK K
                                (try simp only [Act.put, List.setIfInBounds_toArray, List.set_cons_zero, List.set_cons_succ])
                                refine takeD (i := 12) (d := (some 15)) (v := ?_) rfl (by kernel_rfl) (by kernel_rfl) (by kernel_rfl) (by kernel_rfl) (fun _ _ _ h => h) (Or.inl ⟨by kernel_rfl, ?hy⟩) (by assumption) ?rest
                                case hy => (intro w hSw; (try dsimp only at hSw); go_simp; (try with_reducible rfl))
                                case rest =>
                                  (try simp only [Act.put, List.setIfInBounds_toArray, List.set_cons_zero, List.set_cons_succ])
                                  refine takeD (i := 13) (d := (some 16)) (v := ?_) rfl (by kernel_rfl) (by kernel_rfl) (by kernel_rfl) (by kernel_rfl) (fun _ _ _ h => h) (Or.inl ⟨by kernel_rfl, ?hy⟩) (by assumption) ?rest
                                  case hy => (intro w hSw; (try dsimp only at hSw); go_simp; (try with_reducible rfl))
                                  case rest =>
                                    (try simp only [Act.put, List.setIfInBounds_toArray, List.set_cons_zero, List.set_cons_succ])
                                    refine takeD (i := 14) (d := (some 17)) (v := ?_) rfl (by kernel_rfl) (by kernel_rfl) (by kernel_rfl) (by kernel_rfl) (fun _ _ _ h => h) (Or.inl ⟨by kernel_rfl, ?hy⟩) (by assumption) ?rest
                                    case hy => (intro w hSw; (try dsimp only at hSw); go_simp; (try with_reducible rfl))
                                    case rest =>
                                      (try simp only [Act.put, List.setIfInBounds_toArray, List.set_cons_zero, List.set_cons_succ])
                                      refine takeD (i := 15) (d := (some 18)) (v := ?_) rfl (by kernel_rfl) (by kernel_rfl) (by kernel_rfl) (by kernel_rfl) (fun _ _ _ h => h) (Or.inl ⟨by kernel_rfl, ?hy⟩) (by assumption) ?rest
                                      case hy => (intro w hSw; (try dsimp only at hSw); go_simp; (try with_reducible rfl))
                                      case rest =>
                                        (try simp only [Act.put, List.setIfInBounds_toArray, List.set_cons_zero, List.set_cons_succ])
                                        refine takeD (i := 16) (d := (some 19)) (v := ?_) rfl (by kernel_rfl) (by kernel_rfl) (by kernel_rfl) (by kernel_rfl) (fun _ _ _ h => h) (Or.inl ⟨by kernel_rfl, ?hy⟩) (by assumption) ?rest
                                        case hy => (intro w hSw; (try dsimp only at hSw); go_simp; (try with_reducible rfl))
                                        case rest =>
                                          (try simp only [Act.put, List.setIfInBounds_toArray, List.set_cons_zero, List.set_cons_succ])
                                          refine takeD (i := 17) (d := (some 20)) (v := ?_) rfl (by kernel_rfl) (by kernel_rfl) (by kernel_rfl) (by kernel_rfl) (fun _ _ _ h => h) (Or.inl ⟨by kernel_rfl, ?hy⟩) (by assumption) ?rest
                                          case hy => (intro w hSw; (try dsimp only at hSw); go_simp; (try with_reducible rfl))
                                          case rest =>
                                            (try simp only [Act.put, List.setIfInBounds_toArray, List.set_cons_zero, List.set_cons_succ])
                                            refine takeD (i := 19) (d := (some 22)) (v := ?_) rfl (by kernel_rfl) (by kernel_rfl) (by kernel_rfl) (by kernel_rfl) (fun _ _ _ h => h) (Or.inl ⟨by kernel_rfl, ?hy⟩) (by assumption) ?rest
                                            case hy => (intro w hSw; (try dsimp only at hSw); go_simp; (try with_reducible rfl))
                                            case rest =>
                                              (try simp only [Act.put, List.setIfInBounds_toArray, List.set_cons_zero, List.set_cons_succ])
                                              refine takeD (i := 20) (d := (some 23)) (v := ?_) rfl (by kernel_rfl) (by kernel_rfl) (by kernel_rfl) (by kernel_rfl) (fun _ _ _ h => h) (Or.inl ⟨by kernel_rfl, ?hy⟩) (by assumption) ?rest
                                              case hy => (intro w hSw; (try dsimp only at hSw); go_simp; (try with_reducible rfl))
                                              case rest =>
                                                (try simp only [Act.put, List.setIfInBounds_toArray, List.set_cons_zero, List.set_cons_succ])
                                                refine takeD (i := 21) (d := (some 24)) (v := ?_) rfl (by kernel_rfl) (by kernel_rfl) (by kernel_rfl) (by kernel_rfl) (fun _ _ _ h => h) (Or.inl ⟨by kernel_rfl, ?hy⟩) (by assumption) ?rest
                                                case hy => (intro w hSw; (try dsimp only at hSw); go_simp; (try with_reducible rfl))
                                                case rest =>
                                                  (try simp only [Act.put, List.setIfInBounds_toArray, List.set_cons_zero, List.set_cons_succ])
                                                  refine wpAnyH_ready (rs := [18]) (by kernel_rfl) (by simp) ?_
                                                  refine AllReadyH.cons rfl (fun K hK => ?_) AllReadyH.nil
                                                  go_simp
                                                  (go_at_call 54; (with_reducible refine (c4.out _).mono ?_); rintro e w' ⟨rfl, rfl⟩)
                                                  (try go_wp2_with fail)
                                                  refine hK.out _ _ ?_ (fun hHeld => ?_)
                                                  · (try dsimp only); (exact ⟨m0, m1, m2, m3, m4, m5⟩)
                                                  clear hK K
                                                  (try simp only [Act.put, List.setIfInBounds_toArray, List.set_cons_zero, List.set_cons_succ])
                                                  refine takeD (i := 22) (d := (some 25)) (v := ?_) rfl (by kernel_rfl) (by kernel_rfl) (by kernel_rfl) (by kernel_rfl) (fun _ _ _ h => h) (Or.inl ⟨by kernel_rfl, ?hy⟩) (by assumption) ?rest
                                                  case hy => (intro w hSw; (try dsimp only at hSw); go_simp; (try with_reducible rfl))
                                                  case rest =>
                                                    (try simp only [Act.put, List.setIfInBounds_toArray, List.set_cons_zero, List.set_cons_succ])
                                                    refine takeD (i := 23) (d := (some 26)) (v := ?_) rfl (by kernel_rfl) (by kernel_rfl) (by kernel_rfl) (by kernel_rfl) (fun _ _ _ h => h) (Or.inl ⟨by kernel_rfl, ?hy⟩) (by assumption) ?rest
                                                    case hy => (intro w hSw; (try dsimp only at hSw); go_simp; (try with_reducible rfl))
                                                    case rest =>
                                                      (try simp only [Act.put, List.setIfInBounds_toArray, List.set_cons_zero, List.set_cons_succ])
                                                      refine takeD (i := 24) (d := (some 2)) (v := ?_) rfl (by kernel_rfl) (by kernel_rfl) (by kernel_rfl) (by kernel_rfl) (fun _ _ _ h => h) (Or.inl ⟨by kernel_rfl, ?hy⟩) (by assumption) ?rest
                                                      case hy => (intro w hSw; (try dsimp only at hSw); go_simp; (try with_reducible rfl))
                                                      case rest =>
                                                        (try simp only [Act.put, List.setIfInBounds_toArray, List.set_cons_zero, List.set_cons_succ])
                                                        refine wpAnyH_done (by kernel_rfl) ?_ _
                                                        go_wp2
                                                        go_ret
                                                        exact ⟨ret_bool (by simp [h1.out]), hx⟩
    · have d1 : decide (1 ≤ k) = true := decide_eq_true hk1
      have d2 : decide (k ≤ 5) = false := decide_eq_false (by omega)
      have d3 : decide (k < 6) = false := decide_eq_false hk5
      clear hk1 hk5
      rw [d1, d3]
      go_enter Tryd.func24, Tryd.ntmps24
      go_wp2
      go_quiet (fail)
      go_wp2
      go_ret
      exact ⟨rfl, Ext.drewN hx _⟩
  · have d1 : decide (1 ≤ k) = false := decide_eq_false hk1
    clear hk1
    rw [d1]
    go_enter Tryd.func24, Tryd.ntmps24
    go_wp2
    go_quiet (fail)
    go_wp2
    go_ret
    exact ⟨rfl, Ext.drewN hx _⟩
end Go.Proofs.YtapngkjgagapeaaDoor
