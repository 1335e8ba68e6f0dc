import Derived.Test.YtapngkjgagapeaaDoorV1
/- The contract of event.Valid. -/
namespace Go.Proofs.YtapngkjgagapeaaDoor
open Go.RowKit

def okV (k : Int) (n m b d t : Nat) : Bool := kB k && fineN n m b && (dueB d t == decide (k = 1))
set_option maxHeartbeats 4000000 in
theorem vvalid_any (k : Int) (s : ByteArray) (a : Option Addr) (n c b d t : Nat) (w : World) (hs : s.size ≤ 9223372036854775807) (hn : n ≤ 9223372036854775807) (hb : b < 18446744073709551616) (hd : d < 18446744073709551616) (ht : t < 18446744073709551616) :
    Calls Tryd.prog 14 #[(.agg #[.int .i64 (k), .string s, .slice a (n) c, .int .u64 (b), .int .u64 (d), .int .u64 (t)])] w fun e w' => e = .returned (.bool (okV k s.size n b d t)) ∧ Ext w w' := by
  have c1 : Box _ := ⟨fun w => kind_any k w⟩
  have c2 : Box _ := ⟨fun w => of_any k s a n c b d t w⟩
  have c3 : Box _ := ⟨fun w => evalid_any s a n c d b w hs hn hb⟩
  have c4 : Box _ := ⟨fun w => due_any d t w hd ht⟩
  have hx : Ext w (w.alloc (.cells #[.int .i64 (k), .string s, .slice a (n) c, .int .u64 (b), .int .u64 (d), .int .u64 (t)] 28)) := Ext.alloc (Below.refl _ _) _
  have hB := newblk w (.cells #[.int .i64 (k), .string s, .slice a (n) c, .int .u64 (b), .int .u64 (d), .int .u64 (t)] 28)
  obtain ⟨m0, m1, m2, m3, m4, m5⟩ := blk6 hB
  unfold okV
  generalize fineN s.size n b = y at *
  generalize dueB d t = z at *
  cases hk : kB k with
  | false =>
    rw [hk] at c1
    clear hk c2 c3 c4
    go_enter Tryd.func14, Tryd.ntmps14
    go_wp2
    go_quiet ((go_at_call 41; exact quietV (c1.out _)))
    go_wp2
    go_ret
    exact ⟨rfl, Ext.drewN hx _⟩
  | true =>
    rw [hk] at c1
    cases y with
    | false =>
      clear hk
      go_enter Tryd.func14, Tryd.ntmps14
      go_wp2
      refine wp_region_held_drew (S := (fun w' => w'.cell? ⟨w.heap.size, 0, none⟩ = some (.int .i64 (k)) ∧ w'.cell? ⟨w.heap.size, 1, none⟩ = some (.string s) ∧ w'.cell? ⟨w.heap.size, 2, none⟩ = some (.slice a (n) c) ∧ w'.cell? ⟨w.heap.size, 3, none⟩ = some (.int .u64 (b)) ∧ w'.cell? ⟨w.heap.size, 4, none⟩ = some (.int .u64 (d)) ∧ w'.cell? ⟨w.heap.size, 5, none⟩ = some (.int .u64 (t)))) (by kernel_rfl) ?_ (fun hHeld => ?_)
      · (try dsimp only); (first | go_keep | (exact ⟨m0, m1, m2, m3, m4, m5⟩))
      refine takeD (i := 0) (d := (some 3)) (v := ?_) rfl (by kernel_rfl) (by kernel_rfl) (by kernel_rfl) (by kernel_rfl) (fun _ _ _ h => h) (Or.inl ⟨by kernel_rfl, ?hy⟩) (by assumption) ?rest
      case hy => (intro w hSw; (try dsimp only at hSw); go_simp; (try with_reducible rfl))
      case rest =>
        (try simp only [Act.put, List.setIfInBounds_toArray, List.set_cons_zero, List.set_cons_succ])
        refine takeD (i := 1) (d := (some 4)) (v := ?_) rfl (by kernel_rfl) (by kernel_rfl) (by kernel_rfl) (by kernel_rfl) (fun _ _ _ h => h) (Or.inl ⟨by kernel_rfl, ?hy⟩) (by assumption) ?rest
        case hy => (intro w hSw; (try dsimp only at hSw); go_simp; (try with_reducible rfl))
        case rest =>
          (try simp only [Act.put, List.setIfInBounds_toArray, List.set_cons_zero, List.set_cons_succ])
          refine wpAnyH_ready (rs := [2]) (by kernel_rfl) (by simp) ?_
          refine AllReadyH.cons rfl (fun K hK => ?_) AllReadyH.nil
          go_simp
          (go_at_call 41; (with_reducible refine (c1.out _).mono ?_); rintro e w' ⟨rfl, rfl⟩; (try clear m0 m1 m2 m3 m4 m5); have hx := Ext.drewN hx 1; have hB := Ext.blk (Ext.drewN (Below.refl _ _) 1) hB; obtain ⟨m0, m1, m2, m3, m4, m5⟩ := blk6 hB)
          (try go_wp2_with fail)
          refine hK.out _ _ ?_ (fun hHeld => ?_)
          · (try dsimp only); (first | (exact ⟨m0, m1, m2, m3, m4, m5⟩) | go_keep)
          clear hK K
          (try simp only [Act.put, List.setIfInBounds_toArray, List.set_cons_zero, List.set_cons_succ])
          refine takeD (i := 3) (d := (some 6)) (v := ?_) rfl (by kernel_rfl) (by kernel_rfl) (by kernel_rfl) (by kernel_rfl) (fun _ _ _ h => h) (Or.inl ⟨by kernel_rfl, ?hy⟩) (by assumption) ?rest
          case hy => (intro w hSw; (try dsimp only at hSw); go_simp; (try with_reducible rfl))
          case rest =>
            (try simp only [Act.put, List.setIfInBounds_toArray, List.set_cons_zero, List.set_cons_succ])
            refine takeD (i := 4) (d := (some 7)) (v := ?_) rfl (by kernel_rfl) (by kernel_rfl) (by kernel_rfl) (by kernel_rfl) (fun _ _ _ h => h) (Or.inl ⟨by kernel_rfl, ?hy⟩) (by assumption) ?rest
            case hy => (intro w hSw; (try dsimp only at hSw); go_simp; (try with_reducible rfl))
            case rest =>
              (try simp only [Act.put, List.setIfInBounds_toArray, List.set_cons_zero, List.set_cons_succ])
              refine wpAnyH_ready (rs := [5]) (by kernel_rfl) (by simp) ?_
              refine AllReadyH.cons rfl (fun K hK => ?_) AllReadyH.nil
              go_simp
              (go_at_call 43; (with_reducible refine (c2.out _).mono ?_); rintro e w1 ⟨rfl, hb⟩; (try clear m0 m1 m2 m3 m4 m5); have hx := Ext.trans' hx hb; have hB := Ext.blk hb hB; obtain ⟨m0, m1, m2, m3, m4, m5⟩ := blk6 hB)
              (try go_wp2_with fail)
              refine hK.out _ _ ?_ (fun hHeld => ?_)
              · (try dsimp only); (exact ⟨m0, m1, m2, m3, m4, m5⟩)
              clear hK K
              (try simp only [Act.put, List.setIfInBounds_toArray, List.set_cons_zero, List.set_cons_succ])
              refine wpAnyH_ready (rs := [6]) (by kernel_rfl) (by simp) ?_
              refine AllReadyH.cons rfl (fun K hK => ?_) AllReadyH.nil
              go_simp
              (go_at_call 42; (with_reducible refine (c3.out _).mono ?_); rintro e w1 ⟨rfl, hb⟩; (try clear m0 m1 m2 m3 m4 m5); have hx := Ext.trans' hx hb; have hB := Ext.blk hb hB; obtain ⟨m0, m1, m2, m3, m4, m5⟩ := blk6 hB)
              (try go_wp2_with fail)
              refine hK.out _ _ ?_ (fun hHeld => ?_)
              · (try dsimp only); (exact ⟨m0, m1, m2, m3, m4, m5⟩)
              clear hK K
              (try simp only [Act.put, List.setIfInBounds_toArray, List.set_cons_zero, List.set_cons_succ])
              refine takeD (i := 7) (d := (some 10)) (v := ?_) rfl (by kernel_rfl) (by kernel_rfl) (by kernel_rfl) (by kernel_rfl) (fun _ _ _ h => h) (Or.inl ⟨by kernel_rfl, ?hy⟩) (by assumption) ?rest
              case hy => (intro w hSw; (try dsimp only at hSw); go_simp; (try with_reducible rfl))
              case rest =>
                (try simp only [Act.put, List.setIfInBounds_toArray, List.set_cons_zero, List.set_cons_succ])
                refine takeD (i := 8) (d := (some 11)) (v := ?_) rfl (by kernel_rfl) (by kernel_rfl) (by kernel_rfl) (by kernel_rfl) (fun _ _ _ h => h) (Or.inl ⟨by kernel_rfl, ?hy⟩) (by assumption) ?rest
                case hy => (intro w hSw; (try dsimp only at hSw); go_simp; (try with_reducible rfl))
                case rest =>
                  (try simp only [Act.put, List.setIfInBounds_toArray, List.set_cons_zero, List.set_cons_succ])
                  refine takeD (i := 9) (d := (some 12)) (v := undef) rfl (by kernel_rfl) (by kernel_rfl) (by kernel_rfl) (by kernel_rfl) (fun _ _ _ h => h) (Or.inr ⟨by kernel_rfl, rfl⟩) (by assumption) ?_
                  (try simp only [Act.put, List.setIfInBounds_toArray, List.set_cons_zero, List.set_cons_succ])
                  refine takeD (i := 10) (d := (some 13)) (v := undef) rfl (by kernel_rfl) (by kernel_rfl) (by kernel_rfl) (by kernel_rfl) (fun _ _ _ h => h) (Or.inr ⟨by kernel_rfl, rfl⟩) (by assumption) ?_
                  (try simp only [Act.put, List.setIfInBounds_toArray, List.set_cons_zero, List.set_cons_succ])
                  refine takeD (i := 11) (d := (some 14)) (v := undef) rfl (by kernel_rfl) (by kernel_rfl) (by kernel_rfl) (by kernel_rfl) (fun _ _ _ h => h) (Or.inr ⟨by kernel_rfl, rfl⟩) (by assumption) ?_
                  (try simp only [Act.put, List.setIfInBounds_toArray, List.set_cons_zero, List.set_cons_succ])
                  refine takeD (i := 12) (d := (some 15)) (v := undef) rfl (by kernel_rfl) (by kernel_rfl) (by kernel_rfl) (by kernel_rfl) (fun _ _ _ h => h) (Or.inr ⟨by kernel_rfl, rfl⟩) (by assumption) ?_
                  (try simp only [Act.put, List.setIfInBounds_toArray, List.set_cons_zero, List.set_cons_succ])
                  refine takeD (i := 13) (d := (some 16)) (v := undef) rfl (by kernel_rfl) (by kernel_rfl) (by kernel_rfl) (by kernel_rfl) (fun _ _ _ h => h) (Or.inr ⟨by kernel_rfl, rfl⟩) (by assumption) ?_
                  (try simp only [Act.put, List.setIfInBounds_toArray, List.set_cons_zero, List.set_cons_succ])
                  refine takeD (i := 14) (d := (some 17)) (v := undef) rfl (by kernel_rfl) (by kernel_rfl) (by kernel_rfl) (by kernel_rfl) (fun _ _ _ h => h) (Or.inr ⟨by kernel_rfl, rfl⟩) (by assumption) ?_
                  (try simp only [Act.put, List.setIfInBounds_toArray, List.set_cons_zero, List.set_cons_succ])
                  refine takeD (i := 15) (d := (some 18)) (v := undef) rfl (by kernel_rfl) (by kernel_rfl) (by kernel_rfl) (by kernel_rfl) (fun _ _ _ h => h) (Or.inr ⟨by kernel_rfl, rfl⟩) (by assumption) ?_
                  (try simp only [Act.put, List.setIfInBounds_toArray, List.set_cons_zero, List.set_cons_succ])
                  refine takeD (i := 16) (d := (some 19)) (v := undef) rfl (by kernel_rfl) (by kernel_rfl) (by kernel_rfl) (by kernel_rfl) (fun _ _ _ h => h) (Or.inr ⟨by kernel_rfl, rfl⟩) (by assumption) ?_
                  (try simp only [Act.put, List.setIfInBounds_toArray, List.set_cons_zero, List.set_cons_succ])
                  refine takeD (i := 17) (d := (some 20)) (v := undef) rfl (by kernel_rfl) (by kernel_rfl) (by kernel_rfl) (by kernel_rfl) (fun _ _ _ h => h) (Or.inr ⟨by kernel_rfl, rfl⟩) (by assumption) ?_
                  (try simp only [Act.put, List.setIfInBounds_toArray, List.set_cons_zero, List.set_cons_succ])
                  refine takeD (i := 18) (d := (some 21)) (v := ?_) rfl (by kernel_rfl) (by kernel_rfl) (by kernel_rfl) (by kernel_rfl) (fun _ _ _ h => h) (Or.inl ⟨by kernel_rfl, ?hy⟩) (by assumption) ?rest
                  case hy => (intro w hSw; (try dsimp only at hSw); go_simp; (try with_reducible rfl))
                  case rest =>
                    (try simp only [Act.put, List.setIfInBounds_toArray, List.set_cons_zero, List.set_cons_succ])
                    refine takeD (i := 19) (d := (some 2)) (v := ?_) rfl (by kernel_rfl) (by kernel_rfl) (by kernel_rfl) (by kernel_rfl) (fun _ _ _ h => h) (Or.inl ⟨by kernel_rfl, ?hy⟩) (by assumption) ?rest
                    case hy => (intro w hSw; (try dsimp only at hSw); go_simp; (try with_reducible rfl))
                    case rest =>
                      (try simp only [Act.put, List.setIfInBounds_toArray, List.set_cons_zero, List.set_cons_succ])
                      refine wpAnyH_done (by kernel_rfl) ?_ _
                      go_wp2
                      go_ret
                      exact ⟨rfl, hx⟩
    | true =>
      by_cases h1 : k = 1
      · subst h1
        clear hk
        cases z
        all_goals
          go_enter Tryd.func14, Tryd.ntmps14
          go_wp2
          refine wp_region_held_drew (S := (fun w' => w'.cell? ⟨w.heap.size, 0, none⟩ = some (.int .i64 (1)) ∧ w'.cell? ⟨w.heap.size, 1, none⟩ = some (.string s) ∧ w'.cell? ⟨w.heap.size, 2, none⟩ = some (.slice a (n) c) ∧ w'.cell? ⟨w.heap.size, 3, none⟩ = some (.int .u64 (b)) ∧ w'.cell? ⟨w.heap.size, 4, none⟩ = some (.int .u64 (d)) ∧ w'.cell? ⟨w.heap.size, 5, none⟩ = some (.int .u64 (t)))) (by kernel_rfl) ?_ (fun hHeld => ?_)
          · (try dsimp only); (first | go_keep | (exact ⟨m0, m1, m2, m3, m4, m5⟩))
          refine takeD (i := 0) (d := (some 3)) (v := ?_) rfl (by kernel_rfl) (by kernel_rfl) (by kernel_rfl) (by kernel_rfl) (fun _ _ _ h => h) (Or.inl ⟨by kernel_rfl, ?hy⟩) (by assumption) ?rest
          case hy => (intro w hSw; (try dsimp only at hSw); go_simp; (try with_reducible rfl))
          case rest =>
            (try simp only [Act.put, List.setIfInBounds_toArray, List.set_cons_zero, List.set_cons_succ])
            refine takeD (i := 1) (d := (some 4)) (v := ?_) rfl (by kernel_rfl) (by kernel_rfl) (by kernel_rfl) (by kernel_rfl) (fun _ _ _ h => h) (Or.inl ⟨by kernel_rfl, ?hy⟩) (by assumption) ?rest
            case hy => (intro w hSw; (try dsimp only at hSw); go_simp; (try with_reducible rfl))
            case rest =>
              (try simp only [Act.put, List.setIfInBounds_toArray, List.set_cons_zero, List.set_cons_succ])
              refine wpAnyH_ready (rs := [2]) (by kernel_rfl) (by simp) ?_
              refine AllReadyH.cons rfl (fun K hK => ?_) AllReadyH.nil
              go_simp
              (go_at_call 41; (with_reducible refine (c1.out _).mono ?_); rintro e w' ⟨rfl, rfl⟩; (try clear m0 m1 m2 m3 m4 m5); have hx := Ext.drewN hx 1; have hB := Ext.blk (Ext.drewN (Below.refl _ _) 1) hB; obtain ⟨m0, m1, m2, m3, m4, m5⟩ := blk6 hB)
              (try go_wp2_with fail)
              refine hK.out _ _ ?_ (fun hHeld => ?_)
              · (try dsimp only); (first | (exact ⟨m0, m1, m2, m3, m4, m5⟩) | go_keep)
              clear hK K
              (try simp only [Act.put, List.setIfInBounds_toArray, List.set_cons_zero, List.set_cons_succ])
              refine takeD (i := 3) (d := (some 6)) (v := ?_) rfl (by kernel_rfl) (by kernel_rfl) (by kernel_rfl) (by kernel_rfl) (fun _ _ _ h => h) (Or.inl ⟨by kernel_rfl, ?hy⟩) (by assumption) ?rest
              case hy => (intro w hSw; (try dsimp only at hSw); go_simp; (try with_reducible rfl))
              case rest =>
                (try simp only [Act.put, List.setIfInBounds_toArray, List.set_cons_zero, List.set_cons_succ])
                refine takeD (i := 4) (d := (some 7)) (v := ?_) rfl (by kernel_rfl) (by kernel_rfl) (by kernel_rfl) (by kernel_rfl) (fun _ _ _ h => h) (Or.inl ⟨by kernel_rfl, ?hy⟩) (by assumption) ?rest
                case hy => (intro w hSw; (try dsimp only at hSw); go_simp; (try with_reducible rfl))
                case rest =>
                  (try simp only [Act.put, List.setIfInBounds_toArray, List.set_cons_zero, List.set_cons_succ])
                  refine wpAnyH_ready (rs := [5]) (by kernel_rfl) (by simp) ?_
                  refine AllReadyH.cons rfl (fun K hK => ?_) AllReadyH.nil
                  go_simp
                  (go_at_call 43; (with_reducible refine (c2.out _).mono ?_); rintro e w1 ⟨rfl, hb⟩; (try clear m0 m1 m2 m3 m4 m5); have hx := Ext.trans' hx hb; have hB := Ext.blk hb hB; obtain ⟨m0, m1, m2, m3, m4, m5⟩ := blk6 hB)
                  (try go_wp2_with fail)
                  refine hK.out _ _ ?_ (fun hHeld => ?_)
                  · (try dsimp only); (exact ⟨m0, m1, m2, m3, m4, m5⟩)
                  clear hK K
                  (try simp only [Act.put, List.setIfInBounds_toArray, List.set_cons_zero, List.set_cons_succ])
                  refine wpAnyH_ready (rs := [6]) (by kernel_rfl) (by simp) ?_
                  refine AllReadyH.cons rfl (fun K hK => ?_) AllReadyH.nil
                  go_simp
                  (go_at_call 42; (with_reducible refine (c3.out _).mono ?_); rintro e w1 ⟨rfl, hb⟩; (try clear m0 m1 m2 m3 m4 m5); have hx := Ext.trans' hx hb; have hB := Ext.blk hb hB; obtain ⟨m0, m1, m2, m3, m4, m5⟩ := blk6 hB)
                  (try go_wp2_with fail)
                  refine hK.out _ _ ?_ (fun hHeld => ?_)
                  · (try dsimp only); (exact ⟨m0, m1, m2, m3, m4, m5⟩)
                  clear hK K
                  (try simp only [Act.put, List.setIfInBounds_toArray, List.set_cons_zero, List.set_cons_succ])
                  refine takeD (i := 7) (d := (some 10)) (v := ?_) rfl (by kernel_rfl) (by kernel_rfl) (by kernel_rfl) (by kernel_rfl) (fun _ _ _ h => h) (Or.inl ⟨by kernel_rfl, ?hy⟩) (by assumption) ?rest
                  case hy => (intro w hSw; (try dsimp only at hSw); go_simp; (try with_reducible rfl))
                  case rest =>
                    (try simp only [Act.put, List.setIfInBounds_toArray, List.set_cons_zero, List.set_cons_succ])
                    refine takeD (i := 8) (d := (some 11)) (v := ?_) rfl (by kernel_rfl) (by kernel_rfl) (by kernel_rfl) (by kernel_rfl) (fun _ _ _ h => h) (Or.inl ⟨by kernel_rfl, ?hy⟩) (by assumption) ?rest
                    case hy => (intro w hSw; (try dsimp only at hSw); go_simp; (try with_reducible rfl))
                    case rest =>
                      (try simp only [Act.put, List.setIfInBounds_toArray, List.set_cons_zero, List.set_cons_succ])
                      refine takeD (i := 9) (d := (some 12)) (v := ?_) rfl (by kernel_rfl) (by kernel_rfl) (by kernel_rfl) (by kernel_rfl) (fun _ _ _ h => h) (Or.inl ⟨by kernel_rfl, ?hy⟩) (by assumption) ?rest
                      case hy => (intro w hSw; (try dsimp only at hSw); go_simp; (try with_reducible rfl))
                      case rest =>
                        (try simp only [Act.put, List.setIfInBounds_toArray, List.set_cons_zero, List.set_cons_succ])
                        refine takeD (i := 10) (d := (some 13)) (v := ?_) rfl (by kernel_rfl) (by kernel_rfl) (by kernel_rfl) (by kernel_rfl) (fun _ _ _ h => h) (Or.inl ⟨by kernel_rfl, ?hy⟩) (by assumption) ?rest
                        case hy => (intro w hSw; (try dsimp only at hSw); go_simp; (try with_reducible rfl))
                        case rest =>
                          (try simp only [Act.put, List.setIfInBounds_toArray, List.set_cons_zero, List.set_cons_succ])
                          refine takeD (i := 11) (d := (some 14)) (v := ?_) rfl (by kernel_rfl) (by kernel_rfl) (by kernel_rfl) (by kernel_rfl) (fun _ _ _ h => h) (Or.inl ⟨by kernel_rfl, ?hy⟩) (by assumption) ?rest
                          case hy => (intro w hSw; (try dsimp only at hSw); go_simp; (try with_reducible rfl))
                          case rest =>
                            (try simp only [Act.put, List.setIfInBounds_toArray, List.set_cons_zero, List.set_cons_succ])
                            refine takeD (i := 12) (d := (some 15)) (v := ?_) rfl (by kernel_rfl) (by kernel_rfl) (by kernel_rfl) (by kernel_rfl) (fun _ _ _ h => h) (Or.inl ⟨by kernel_rfl, ?hy⟩) (by assumption) ?rest
                            case hy => (intro w hSw; (try dsimp only at hSw); go_simp; (try with_reducible rfl))
                            case rest =>
                              (try simp only [Act.put, List.setIfInBounds_toArray, List.set_cons_zero, List.set_cons_succ])
                              refine takeD (i := 14) (d := (some 17)) (v := ?_) rfl (by kernel_rfl) (by kernel_rfl) (by kernel_rfl) (by kernel_rfl) (fun _ _ _ h => h) (Or.inl ⟨by kernel_rfl, ?hy⟩) (by assumption) ?rest
                              case hy => (intro w hSw; (try dsimp only at hSw); go_simp; (try with_reducible rfl))
                              case rest =>
                                (try simp only [Act.put, List.setIfInBounds_toArray, List.set_cons_zero, List.set_cons_succ])
                                refine takeD (i := 15) (d := (some 18)) (v := ?_) rfl (by kernel_rfl) (by kernel_rfl) (by kernel_rfl) (by kernel_rfl) (fun _ _ _ h => h) (Or.inl ⟨by kernel_rfl, ?hy⟩) (by assumption) ?rest
                                case hy => (intro w hSw; (try dsimp only at hSw); go_simp; (try with_reducible rfl))
                                case rest =>
                                  (try simp only [Act.put, List.setIfInBounds_toArray, List.set_cons_zero, List.set_cons_succ])
                                  refine takeD (i := 16) (d := (some 19)) (v := ?_) rfl (by kernel_rfl) (by kernel_rfl) (by kernel_rfl) (by kernel_rfl) (fun _ _ _ h => h) (Or.inl ⟨by kernel_rfl, ?hy⟩) (by assumption) ?rest
                                  case hy => (intro w hSw; (try dsimp only at hSw); go_simp; (try with_reducible rfl))
                                  case rest =>
                                    (try simp only [Act.put, List.setIfInBounds_toArray, List.set_cons_zero, List.set_cons_succ])
                                    refine wpAnyH_ready (rs := [13]) (by kernel_rfl) (by simp) ?_
                                    refine AllReadyH.cons rfl (fun K hK => ?_) AllReadyH.nil
                                    go_simp
                                    (go_at_call 44; (with_reducible refine (c4.out _).mono ?_); rintro e w' ⟨rfl, rfl⟩)
                                    (try go_wp2_with fail)
                                    refine hK.out _ _ ?_ (fun hHeld => ?_)
                                    · (try dsimp only); (exact ⟨m0, m1, m2, m3, m4, m5⟩)
                                    clear hK K
                                    (try simp only [Act.put, List.setIfInBounds_toArray, List.set_cons_zero, List.set_cons_succ])
                                    refine takeD (i := 17) (d := (some 20)) (v := ?_) rfl (by kernel_rfl) (by kernel_rfl) (by kernel_rfl) (by kernel_rfl) (fun _ _ _ h => h) (Or.inl ⟨by kernel_rfl, ?hy⟩) (by assumption) ?rest
                                    case hy => (intro w hSw; (try dsimp only at hSw); go_simp; (try with_reducible rfl))
                                    case rest =>
                                      (try simp only [Act.put, List.setIfInBounds_toArray, List.set_cons_zero, List.set_cons_succ])
                                      refine takeD (i := 18) (d := (some 21)) (v := ?_) rfl (by kernel_rfl) (by kernel_rfl) (by kernel_rfl) (by kernel_rfl) (fun _ _ _ h => h) (Or.inl ⟨by kernel_rfl, ?hy⟩) (by assumption) ?rest
                                      case hy => (intro w hSw; (try dsimp only at hSw); go_simp; (try with_reducible rfl))
                                      case rest =>
                                        (try simp only [Act.put, List.setIfInBounds_toArray, List.set_cons_zero, List.set_cons_succ])
                                        refine takeD (i := 19) (d := (some 2)) (v := ?_) rfl (by kernel_rfl) (by kernel_rfl) (by kernel_rfl) (by kernel_rfl) (fun _ _ _ h => h) (Or.inl ⟨by kernel_rfl, ?hy⟩) (by assumption) ?rest
                                        case hy => (intro w hSw; (try dsimp only at hSw); go_simp; (try with_reducible rfl))
                                        case rest =>
                                          (try simp only [Act.put, List.setIfInBounds_toArray, List.set_cons_zero, List.set_cons_succ])
                                          refine wpAnyH_done (by kernel_rfl) ?_ _
                                          go_wp2
                                          go_ret
                                          exact ⟨rfl, hx⟩
      · have e1 : (k == 1) = false := by rw [beq_eq_false_iff_ne]; exact h1
        have h1 := Box.mk h1
        clear hk
        cases z
        all_goals
          go_enter Tryd.func14, Tryd.ntmps14
          go_wp2
          refine wp_region_held_drew (S := (fun w' => w'.cell? ⟨w.heap.size, 0, none⟩ = some (.int .i64 (k)) ∧ w'.cell? ⟨w.heap.size, 1, none⟩ = some (.string s) ∧ w'.cell? ⟨w.heap.size, 2, none⟩ = some (.slice a (n) c) ∧ w'.cell? ⟨w.heap.size, 3, none⟩ = some (.int .u64 (b)) ∧ w'.cell? ⟨w.heap.size, 4, none⟩ = some (.int .u64 (d)) ∧ w'.cell? ⟨w.heap.size, 5, none⟩ = some (.int .u64 (t)))) (by kernel_rfl) ?_ (fun hHeld => ?_)
          · (try dsimp only); (first | go_keep | (exact ⟨m0, m1, m2, m3, m4, m5⟩))
          refine takeD (i := 0) (d := (some 3)) (v := ?_) rfl (by kernel_rfl) (by kernel_rfl) (by kernel_rfl) (by kernel_rfl) (fun _ _ _ h => h) (Or.inl ⟨by kernel_rfl, ?hy⟩) (by assumption) ?rest
          case hy => (intro w hSw; (try dsimp only at hSw); go_simp; (try with_reducible rfl))
          case rest =>
            (try simp only [Act.put, List.setIfInBounds_toArray, List.set_cons_zero, List.set_cons_succ])
            refine takeD (i := 1) (d := (some 4)) (v := ?_) rfl (by kernel_rfl) (by kernel_rfl) (by kernel_rfl) (by kernel_rfl) (fun _ _ _ h => h) (Or.inl ⟨by kernel_rfl, ?hy⟩) (by assumption) ?rest
            case hy => (intro w hSw; (try dsimp only at hSw); go_simp; (try with_reducible rfl))
            case rest =>
              (try simp only [Act.put, List.setIfInBounds_toArray, List.set_cons_zero, List.set_cons_succ])
              refine wpAnyH_ready (rs := [2]) (by kernel_rfl) (by simp) ?_
              refine AllReadyH.cons rfl (fun K hK => ?_) AllReadyH.nil
              go_simp
              (go_at_call 41; (with_reducible refine (c1.out _).mono ?_); rintro e w' ⟨rfl, rfl⟩; (try clear m0 m1 m2 m3 m4 m5); have hx := Ext.drewN hx 1; have hB := Ext.blk (Ext.drewN (Below.refl _ _) 1) hB; obtain ⟨m0, m1, m2, m3, m4, m5⟩ := blk6 hB)
              (try go_wp2_with fail)
              refine hK.out _ _ ?_ (fun hHeld => ?_)
              · (try dsimp only); (first | (exact ⟨m0, m1, m2, m3, m4, m5⟩) | go_keep)
              clear hK K
              (try simp only [Act.put, List.setIfInBounds_toArray, List.set_cons_zero, List.set_cons_succ])
              refine takeD (i := 3) (d := (some 6)) (v := ?_) rfl (by kernel_rfl) (by kernel_rfl) (by kernel_rfl) (by kernel_rfl) (fun _ _ _ h => h) (Or.inl ⟨by kernel_rfl, ?hy⟩) (by assumption) ?rest
              case hy => (intro w hSw; (try dsimp only at hSw); go_simp; (try with_reducible rfl))
              case rest =>
                (try simp only [Act.put, List.setIfInBounds_toArray, List.set_cons_zero, List.set_cons_succ])
                refine takeD (i := 4) (d := (some 7)) (v := ?_) rfl (by kernel_rfl) (by kernel_rfl) (by kernel_rfl) (by kernel_rfl) (fun _ _ _ h => h) (Or.inl ⟨by kernel_rfl, ?hy⟩) (by assumption) ?rest
                case hy => (intro w hSw; (try dsimp only at hSw); go_simp; (try with_reducible rfl))
                case rest =>
                  (try simp only [Act.put, List.setIfInBounds_toArray, List.set_cons_zero, List.set_cons_succ])
                  refine wpAnyH_ready (rs := [5]) (by kernel_rfl) (by simp) ?_
                  refine AllReadyH.cons rfl (fun K hK => ?_) AllReadyH.nil
                  go_simp
                  (go_at_call 43; (with_reducible refine (c2.out _).mono ?_); rintro e w1 ⟨rfl, hb⟩; (try clear m0 m1 m2 m3 m4 m5); have hx := Ext.trans' hx hb; have hB := Ext.blk hb hB; obtain ⟨m0, m1, m2, m3, m4, m5⟩ := blk6 hB)
                  (try go_wp2_with fail)
                  refine hK.out _ _ ?_ (fun hHeld => ?_)
                  · (try dsimp only); (exact ⟨m0, m1, m2, m3, m4, m5⟩)
                  clear hK K
                  (try simp only [Act.put, List.setIfInBounds_toArray, List.set_cons_zero, List.set_cons_succ])
                  refine wpAnyH_ready (rs := [6]) (by kernel_rfl) (by simp) ?_
                  refine AllReadyH.cons rfl (fun K hK => ?_) AllReadyH.nil
                  go_simp
                  (go_at_call 42; (with_reducible refine (c3.out _).mono ?_); rintro e w1 ⟨rfl, hb⟩; (try clear m0 m1 m2 m3 m4 m5); have hx := Ext.trans' hx hb; have hB := Ext.blk hb hB; obtain ⟨m0, m1, m2, m3, m4, m5⟩ := blk6 hB)
                  (try go_wp2_with fail)
                  refine hK.out _ _ ?_ (fun hHeld => ?_)
                  · (try dsimp only); (exact ⟨m0, m1, m2, m3, m4, m5⟩)
                  clear hK K
                  (try simp only [Act.put, List.setIfInBounds_toArray, List.set_cons_zero, List.set_cons_succ])
                  refine takeD (i := 7) (d := (some 10)) (v := ?_) rfl (by kernel_rfl) (by kernel_rfl) (by kernel_rfl) (by kernel_rfl) (fun _ _ _ h => h) (Or.inl ⟨by kernel_rfl, ?hy⟩) (by assumption) ?rest
                  case hy => (intro w hSw; (try dsimp only at hSw); go_simp; (try with_reducible rfl))
                  case rest =>
                    (try simp only [Act.put, List.setIfInBounds_toArray, List.set_cons_zero, List.set_cons_succ])
                    refine takeD (i := 8) (d := (some 11)) (v := ?_) rfl (by kernel_rfl) (by kernel_rfl) (by kernel_rfl) (by kernel_rfl) (fun _ _ _ h => h) (Or.inl ⟨by kernel_rfl, ?hy⟩) (by assumption) ?rest
                    case hy => (intro w hSw; (try dsimp only at hSw); go_simp; (try with_reducible rfl))
                    case rest =>
                      (try simp only [Act.put, List.setIfInBounds_toArray, List.set_cons_zero, List.set_cons_succ])
                      refine takeD (i := 9) (d := (some 12)) (v := ?_) rfl (by kernel_rfl) (by kernel_rfl) (by kernel_rfl) (by kernel_rfl) (fun _ _ _ h => h) (Or.inl ⟨by kernel_rfl, ?hy⟩) (by assumption) ?rest
                      case hy => (intro w hSw; (try dsimp only at hSw); go_simp; (try with_reducible rfl))
                      case rest =>
                        (try simp only [Act.put, List.setIfInBounds_toArray, List.set_cons_zero, List.set_cons_succ])
                        refine takeD (i := 10) (d := (some 13)) (v := ?_) rfl (by kernel_rfl) (by kernel_rfl) (by kernel_rfl) (by kernel_rfl) (fun _ _ _ h => h) (Or.inl ⟨by kernel_rfl, ?hy⟩) (by assumption) ?rest
                        case hy => (intro w hSw; (try dsimp only at hSw); go_simp; (try with_reducible rfl))
                        case rest =>
                          (try simp only [Act.put, List.setIfInBounds_toArray, List.set_cons_zero, List.set_cons_succ])
                          refine takeD (i := 11) (d := (some 14)) (v := ?_) rfl (by kernel_rfl) (by kernel_rfl) (by kernel_rfl) (by kernel_rfl) (fun _ _ _ h => h) (Or.inl ⟨by kernel_rfl, ?hy⟩) (by assumption) ?rest
                          case hy => (intro w hSw; (try dsimp only at hSw); go_simp; (try with_reducible rfl))
                          case rest =>
                            (try simp only [Act.put, List.setIfInBounds_toArray, List.set_cons_zero, List.set_cons_succ])
                            refine takeD (i := 12) (d := (some 15)) (v := ?_) rfl (by kernel_rfl) (by kernel_rfl) (by kernel_rfl) (by kernel_rfl) (fun _ _ _ h => h) (Or.inl ⟨by kernel_rfl, ?hy⟩) (by assumption) ?rest
                            case hy => (intro w hSw; (try dsimp only at hSw); go_simp; (try with_reducible rfl))
                            case rest =>
                              (try simp only [Act.put, List.setIfInBounds_toArray, List.set_cons_zero, List.set_cons_succ])
                              refine takeD (i := 14) (d := (some 17)) (v := ?_) rfl (by kernel_rfl) (by kernel_rfl) (by kernel_rfl) (by kernel_rfl) (fun _ _ _ h => h) (Or.inl ⟨by kernel_rfl, ?hy⟩) (by assumption) ?rest
                              case hy => (intro w hSw; (try dsimp only at hSw); go_simp; (try with_reducible rfl))
                              case rest =>
                                (try simp only [Act.put, List.setIfInBounds_toArray, List.set_cons_zero, List.set_cons_succ])
                                refine takeD (i := 15) (d := (some 18)) (v := ?_) rfl (by kernel_rfl) (by kernel_rfl) (by kernel_rfl) (by kernel_rfl) (fun _ _ _ h => h) (Or.inl ⟨by kernel_rfl, ?hy⟩) (by assumption) ?rest
                                case hy => (intro w hSw; (try dsimp only at hSw); go_simp; (try with_reducible rfl))
                                case rest =>
                                  (try simp only [Act.put, List.setIfInBounds_toArray, List.set_cons_zero, List.set_cons_succ])
                                  refine takeD (i := 16) (d := (some 19)) (v := ?_) rfl (by kernel_rfl) (by kernel_rfl) (by kernel_rfl) (by kernel_rfl) (fun _ _ _ h => h) (Or.inl ⟨by kernel_rfl, ?hy⟩) (by assumption) ?rest
                                  case hy => (intro w hSw; (try dsimp only at hSw); go_simp; (try with_reducible rfl))
                                  case rest =>
                                    (try simp only [Act.put, List.setIfInBounds_toArray, List.set_cons_zero, List.set_cons_succ])
                                    refine wpAnyH_ready (rs := [13]) (by kernel_rfl) (by simp) ?_
                                    refine AllReadyH.cons rfl (fun K hK => ?_) AllReadyH.nil
                                    go_simp
                                    (go_at_call 44; (with_reducible refine (c4.out _).mono ?_); rintro e w' ⟨rfl, rfl⟩)
                                    (try go_wp2_with fail)
                                    refine hK.out _ _ ?_ (fun hHeld => ?_)
                                    · (try dsimp only); (exact ⟨m0, m1, m2, m3, m4, m5⟩)
                                    clear hK K
                                    (try simp only [Act.put, List.setIfInBounds_toArray, List.set_cons_zero, List.set_cons_succ])
                                    refine takeD (i := 17) (d := (some 20)) (v := ?_) rfl (by kernel_rfl) (by kernel_rfl) (by kernel_rfl) (by kernel_rfl) (fun _ _ _ h => h) (Or.inl ⟨by kernel_rfl, ?hy⟩) (by assumption) ?rest
                                    case hy => (intro w hSw; (try dsimp only at hSw); go_simp; (try with_reducible rfl))
                                    case rest =>
                                      (try simp only [Act.put, List.setIfInBounds_toArray, List.set_cons_zero, List.set_cons_succ])
                                      refine takeD (i := 18) (d := (some 21)) (v := ?_) rfl (by kernel_rfl) (by kernel_rfl) (by kernel_rfl) (by kernel_rfl) (fun _ _ _ h => h) (Or.inl ⟨by kernel_rfl, ?hy⟩) (by assumption) ?rest
                                      case hy => (intro w hSw; (try dsimp only at hSw); go_simp; (try with_reducible rfl))
                                      case rest =>
                                        (try simp only [Act.put, List.setIfInBounds_toArray, List.set_cons_zero, List.set_cons_succ])
                                        refine takeD (i := 19) (d := (some 2)) (v := ?_) rfl (by kernel_rfl) (by kernel_rfl) (by kernel_rfl) (by kernel_rfl) (fun _ _ _ h => h) (Or.inl ⟨by kernel_rfl, ?hy⟩) (by assumption) ?rest
                                        case hy => (intro w hSw; (try dsimp only at hSw); go_simp; (try with_reducible rfl))
                                        case rest =>
                                          (try simp only [Act.put, List.setIfInBounds_toArray, List.set_cons_zero, List.set_cons_succ])
                                          refine wpAnyH_done (by kernel_rfl) ?_ _
                                          go_wp2
                                          go_ret
                                          exact ⟨ret_bool (by simp [h1.out]), hx⟩
end Go.Proofs.YtapngkjgagapeaaDoor
