import Derived.Test.YtnblbneehogadaaHA
/- The contract of event.Valid, and what it rests on. -/
namespace Go.Proofs.Ytnblbneehogadaa
open Go.RowKit
set_option maxHeartbeats 400000 in
theorem validKey_any (s : ByteArray) (w : World) (hs : s.size ≤ 9223372036854775807) :
    Calls Try.prog 64 #[.string s] w fun e w' => e = .returned (.bool (vk s.size)) ∧ w = w' := by
  unfold vk
  by_cases h : 0 < s.size
  · have h1 : (0 : Int) < (s.size : Int) := by omega
    go_enter Try.func64, Try.ntmps64
    go_wp2
    go_ret
    exact ⟨ret_bool (by simp [h]; omega), rfl⟩
  · have h1 : (s.size : Int) ≤ 0 := by omega
    go_enter Try.func64, Try.ntmps64
    go_wp2
    go_ret
    exact ⟨ret_bool (by simp [h]), rfl⟩
def fst2 (b0 : Bool) (e0 : Int) (b1 : Bool) (e1 : Int) : Int := bif b0 then e0 else bif b1 then e1 else 0
set_option maxHeartbeats 1000000 in
theorem first2_any (b0 : Bool) (e0 : Int) (b1 : Bool) (e1 : Int) (w : World) (B : Nat)
    (h0 : w.cell? ⟨B, 0, none⟩ = some (.bool b0)) (h1 : w.cell? ⟨B, 1, none⟩ = some (.int .i64 e0)) (h2 : w.cell? ⟨B, 2, none⟩ = some (.bool b1)) (h3 : w.cell? ⟨B, 3, none⟩ = some (.int .i64 e1)) :
    Calls Try.prog 63 #[.slice (some ⟨B, 0, none⟩) 2 2] w fun e w' => e = .returned (.int .i64 (fst2 b0 e0 b1 e1)) ∧ Ext w w' := by
  have hB := lt_of_cell h0
  have H0 := Box.mk h0
  have H1 := Box.mk h1
  have H2 := Box.mk h2
  have H3 := Box.mk h3
  clear h0 h1 h2 h3
  go_enter Try.func63, Try.ntmps63
  go_wp2
  go_loopw [4, 7] (fun x i wr => ∃ k : Nat, k ≤ 2 ∧ i = .int .i64 k ∧ Box (1 ≤ k → b0 = false) ∧ Box (2 ≤ k → b1 = false) ∧ Ext w wr) (fun _ i _ => 2 - (intOf i).toNat)
  case atStart => exact ⟨0, by omega, rfl, ⟨by omega⟩, ⟨by omega⟩, Below.refl _ _⟩
  case round =>
    obtain ⟨k, hk, rfl, p0, p1, hx⟩ := hrel
    have hlt := Nat.lt_of_lt_of_le hB hx.size
    obtain rfl | rfl | rfl : k = 0 ∨ k = 1 ∨ k = 2 := by omega
    · have c0 := hx.cell H0.out
      have c1 := hx.cell H1.out
      clear p0 p1 hk
      cases b0
      · go_wp2
        go_roundw
        case rel => exact ⟨1, by omega, rfl, ⟨by simp⟩, ⟨by omega⟩, Ext.alloc hx _⟩
        case measure => simp [intOf]
      · go_wp2
        go_ret
        exact ⟨rfl, Ext.alloc hx _⟩
    · have c2 := hx.cell H2.out
      have c3 := hx.cell H3.out
      obtain rfl := p0.out (by omega)
      clear p0 p1 hk
      cases b1
      · go_wp2
        go_roundw
        case rel => exact ⟨2, by omega, rfl, ⟨by simp⟩, ⟨by simp⟩, Ext.alloc hx _⟩
        case measure => simp [intOf]
      · go_wp2
        go_ret
        exact ⟨rfl, Ext.alloc hx _⟩
    · obtain rfl := p0.out (by omega)
      obtain rfl := p1.out (by omega)
      clear p0 p1 hk
      go_wp2
      go_ret
      exact ⟨rfl, hx⟩
set_option maxHeartbeats 1000000 in
theorem check_any (s : ByteArray) (a : Option Addr) (n c b : Nat) (w : World) (hs : s.size ≤ 9223372036854775807) (hn : n ≤ 9223372036854775807) (hb : b < 18446744073709551616) :
    Calls Try.prog 59 #[.string s, .slice a n c, .int .u64 b] w fun e w' => e = .returned (.int .i64 (chk s.size n b)) ∧ Ext w w' := by
  have c1 : Box _ := ⟨fun w => validKey_any s w hs⟩
  have c2 : Box (∀ b0 b1 w, Calls Try.prog 63 #[.slice (some ⟨w.heap.size, 0, none⟩) 2 2] (w.alloc (.cells #[.bool b0, .int .i64 2, .bool b1, .int .i64 5] 111)) fun e w' => e = .returned (.int .i64 (fst2 b0 2 b1 5)) ∧ Ext w w') := ⟨fun b0 b1 w => (first2_any b0 2 b1 5 _ w.heap.size (by go_simp) (by go_simp) (by go_simp) (by go_simp)).mono fun e w' ⟨he, hb⟩ => ⟨he, Ext.trans' (Ext.alloc (Below.refl _ _) _) hb⟩⟩
  have hr : Box (chk s.size n b = fst2 (!vk s.size || decide (b = 0)) 2 (decide ((65536 : Int) < (n : Int))) 5) := ⟨by
    rw [show decide ((65536 : Int) < (n : Int)) = decide (65536 < n) from decide_eq_decide.2 (by omega)]
    unfold chk fst2
    cases vk s.size <;> by_cases h1 : b = 0 <;> by_cases h2 : 65536 < n <;> simp [h1, h2]⟩
  have hx : Ext w w := Below.refl _ _
  rw [hr.out]
  generalize vk s.size = k at *
  clear hr
  cases k
  · go_enter Try.func59, Try.ntmps59
    go_wp2_with (first | (go_at_call 64; (with_reducible refine (c1.out _).mono ?_); rintro e w' ⟨rfl, rfl⟩) | (go_at_call 63; (with_reducible refine (c2.out _ _ _).mono ?_); rintro e w1 ⟨rfl, hb⟩; have hx := Ext.trans' hx hb))
    go_ret
    exact ⟨ret_int (by simp), hx⟩
  · by_cases h : b = 0
    · subst h
      go_enter Try.func59, Try.ntmps59
      go_wp2_with (first | (go_at_call 64; (with_reducible refine (c1.out _).mono ?_); rintro e w' ⟨rfl, rfl⟩) | (go_at_call 63; (with_reducible refine (c2.out _ _ _).mono ?_); rintro e w1 ⟨rfl, hb⟩; have hx := Ext.trans' hx hb))
      go_ret
      exact ⟨ret_int (by simp), hx⟩
    · have h1 : ((b : Int) == 0) = false := by rw [beq_eq_false_iff_ne]; omega
      go_enter Try.func59, Try.ntmps59
      go_wp2_with (first | (go_at_call 64; (with_reducible refine (c1.out _).mono ?_); rintro e w' ⟨rfl, rfl⟩) | (go_at_call 63; (with_reducible refine (c2.out _ _ _).mono ?_); rintro e w1 ⟨rfl, hb⟩; have hx := Ext.trans' hx hb))
      go_ret
      exact ⟨ret_int (by simp [h]), hx⟩
set_option maxHeartbeats 1000000 in
theorem evalid_any (k : ByteArray) (a : Option Addr) (n c d b : Nat) (w : World) (hs : k.size ≤ 9223372036854775807) (hn : n ≤ 9223372036854775807) (hb : b < 18446744073709551616) :
    Calls Try.prog 51 #[.agg #[.string k, .slice a n c, .int .u64 d, .int .u64 b]] w fun e w' => e = .returned (.bool (fineN k.size n b)) ∧ Ext w w' := by
  have c1 : Box _ := ⟨fun w => check_any k a n c b w hs hn hb⟩
  have hx : Ext w (w.alloc (.cells #[.string k, .slice a n c, .int .u64 d, .int .u64 b] 97)) := Ext.alloc (Below.refl _ _) _
  unfold fineN
  generalize chk k.size n b = x at *
  go_enter Try.func51, Try.ntmps51
  go_wp2_with (first | (go_at_call 59; (with_reducible refine (c1.out _).mono ?_); rintro e w1 ⟨rfl, hb⟩; have hx := Ext.trans' hx hb))
  go_ret
  exact ⟨ret_bool (by rw [Bool.eq_iff_iff]; simp), hx⟩
set_option maxHeartbeats 1000000 in
theorem kind_any (k : Int) (w : World) : Calls Try.prog 50 #[.int .i64 k] w fun e w' => e = .returned (.bool (kB k)) ∧ w = w' := by
  unfold kB
  by_cases h : 1 ≤ k
  · have d1 : decide (1 ≤ k) = true := decide_eq_true h
    clear h
    go_enter Try.func50, Try.ntmps50
    go_wp2
    go_ret
    exact ⟨ret_bool (by simp [d1]), rfl⟩
  · have d1 : decide (1 ≤ k) = false := decide_eq_false h
    clear h
    go_enter Try.func50, Try.ntmps50
    go_wp2
    go_ret
    exact ⟨ret_bool (by simp [d1]), rfl⟩
set_option maxHeartbeats 1000000 in
theorem of_any (k : Int) (s : ByteArray) (a : Option Addr) (n c b d t : Nat) (w : World) :
    Calls Try.prog 52 #[(.agg #[.int .i64 (k), .string s, .slice a (n) c, .int .u64 (b), .int .u64 (d), .int .u64 (t)])] w fun e w' => e = .returned (.agg #[.string s, .slice a n c, .int .u64 d, .int .u64 b]) ∧ Ext w w' := by
  go_enter Try.func52, Try.ntmps52
  go_wp2
  refine bodyPost_ret (v := .agg #[.string s, .slice a n c, .int .u64 d, .int .u64 b]) ?_ rfl ⟨rfl, ?_⟩
  · simp [results, Try.results52, go_sem]
  · exact Ext.alloc (Ext.alloc (Below.refl _ _) _) _
set_option maxHeartbeats 4000000 in
theorem vvalid_any (k : Int) (s : ByteArray) (a : Option Addr) (n c b d t : Nat) (w : World) (hs : s.size ≤ 9223372036854775807) (hn : n ≤ 9223372036854775807) (hb : b < 18446744073709551616) (hd : d < 18446744073709551616) (ht : t < 18446744073709551616) :
    Calls Try.prog 35 #[(.agg #[.int .i64 (k), .string s, .slice a (n) c, .int .u64 (b), .int .u64 (d), .int .u64 (t)])] w fun e w' => e = .returned (.bool (okV k s.size n b d t)) ∧ Ext w w' := by
  have c1 : Box _ := ⟨fun w => kind_any k w⟩
  have c2 : Box _ := ⟨fun w => of_any k s a n c b d t w⟩
  have c3 : Box _ := ⟨fun w => evalid_any s a n c d b w hs hn hb⟩
  have c4 : Box _ := ⟨fun w => due_any d t w hd ht⟩
  have hx : Ext w (w.alloc (.cells #[.int .i64 (k), .string s, .slice a (n) c, .int .u64 (b), .int .u64 (d), .int .u64 (t)] 30)) := Ext.alloc (Below.refl _ _) _
  have hB := newblk w (.cells #[.int .i64 (k), .string s, .slice a (n) c, .int .u64 (b), .int .u64 (d), .int .u64 (t)] 30)
  obtain ⟨m0, m1, m2, m3, m4, m5⟩ := blk6 hB
  unfold okV
  generalize fineN s.size n b = y at *
  generalize dueB d t = z at *
  cases hk : kB k with
  | false =>
    rw [hk] at c1
    clear hk c2 c3 c4
    go_enter Try.func35, Try.ntmps35
    go_wp2
    go_quiet ((go_at_call 50; exact quietV (c1.out _)))
    go_wp2
    go_ret
    exact ⟨rfl, Ext.drewN hx _⟩
  | true =>
    rw [hk] at c1
    cases y with
    | false =>
      clear hk
      go_enter Try.func35, Try.ntmps35
      go_wp2
      refine wp_region_held_drew (S := (fun w' => w'.cell? ⟨w.heap.size, 0, none⟩ = some (.int .i64 (k)) ∧ w'.cell? ⟨w.heap.size, 1, none⟩ = some (.string s) ∧ w'.cell? ⟨w.heap.size, 2, none⟩ = some (.slice a (n) c) ∧ w'.cell? ⟨w.heap.size, 3, none⟩ = some (.int .u64 (b)) ∧ w'.cell? ⟨w.heap.size, 4, none⟩ = some (.int .u64 (d)) ∧ w'.cell? ⟨w.heap.size, 5, none⟩ = some (.int .u64 (t)))) (by kernel_rfl) ?_ (fun hHeld => ?_)
      · (try dsimp only); (first | go_keep | (exact ⟨m0, m1, m2, m3, m4, m5⟩))
      refine takeD (i := 0) (d := (some 3)) (v := ?_) rfl (by kernel_rfl) (by kernel_rfl) (by kernel_rfl) (by kernel_rfl) (fun _ _ _ h => h) (Or.inl ⟨by kernel_rfl, ?hy⟩) (by assumption) ?rest
      case hy => (intro w hSw; (try dsimp only at hSw); go_simp; (try with_reducible rfl))
      case rest =>
        (try simp only [Act.put, List.setIfInBounds_toArray, List.set_cons_zero, List.set_cons_succ])
        refine takeD (i := 1) (d := (some 4)) (v := ?_) rfl (by kernel_rfl) (by kernel_rfl) (by kernel_rfl) (by kernel_rfl) (fun _ _ _ h => h) (Or.inl ⟨by kernel_rfl, ?hy⟩) (by assumption) ?rest
        case hy => (intro w hSw; (try dsimp only at hSw); go_simp; (try with_reducible rfl))
        case rest =>
          (try simp only [Act.put, List.setIfInBounds_toArray, List.set_cons_zero, List.set_cons_succ])
          refine wpAnyH_ready (rs := [2]) (by kernel_rfl) (by simp) ?_
          refine AllReadyH.cons rfl (fun K hK => ?_) AllReadyH.nil
          go_simp
          (go_at_call 50; (with_reducible refine (c1.out _).mono ?_); rintro e w' ⟨rfl, rfl⟩; (try clear m0 m1 m2 m3 m4 m5); have hx := Ext.drewN hx 1; have hB := Ext.blk (Ext.drewN (Below.refl _ _) 1) hB; obtain ⟨m0, m1, m2, m3, m4, m5⟩ := blk6 hB)
          (try go_wp2_with fail)
          refine hK.out _ _ ?_ (fun hHeld => ?_)
          · (try dsimp only); (first | (exact ⟨m0, m1, m2, m3, m4, m5⟩) | go_keep)
          clear hK K
          (try simp only [Act.put, List.setIfInBounds_toArray, List.set_cons_zero, List.set_cons_succ])
          refine takeD (i := 3) (d := (some 6)) (v := ?_) rfl (by kernel_rfl) (by kernel_rfl) (by kernel_rfl) (by kernel_rfl) (fun _ _ _ h => h) (Or.inl ⟨by kernel_rfl, ?hy⟩) (by assumption) ?rest
          case hy => (intro w hSw; (try dsimp only at hSw); go_simp; (try with_reducible rfl))
          case rest =>
            (try simp only [Act.put, List.setIfInBounds_toArray, List.set_cons_zero, List.set_cons_succ])
            refine takeD (i := 4) (d := (some 7)) (v := ?_) rfl (by kernel_rfl) (by kernel_rfl) (by kernel_rfl) (by kernel_rfl) (fun _ _ _ h => h) (Or.inl ⟨by kernel_rfl, ?hy⟩) (by assumption) ?rest
            case hy => (intro w hSw; (try dsimp only at hSw); go_simp; (try with_reducible rfl))
            case rest =>
              (try simp only [Act.put, List.setIfInBounds_toArray, List.set_cons_zero, List.set_cons_succ])
              refine wpAnyH_ready (rs := [5]) (by kernel_rfl) (by simp) ?_
              refine AllReadyH.cons rfl (fun K hK => ?_) AllReadyH.nil
              go_simp
              (go_at_call 52; (with_reducible refine (c2.out _).mono ?_); rintro e w1 ⟨rfl, hb⟩; (try clear m0 m1 m2 m3 m4 m5); have hx := Ext.trans' hx hb; have hB := Ext.blk hb hB; obtain ⟨m0, m1, m2, m3, m4, m5⟩ := blk6 hB)
              (try go_wp2_with fail)
              refine hK.out _ _ ?_ (fun hHeld => ?_)
              · (try dsimp only); (exact ⟨m0, m1, m2, m3, m4, m5⟩)
              clear hK K
              (try simp only [Act.put, List.setIfInBounds_toArray, List.set_cons_zero, List.set_cons_succ])
              refine wpAnyH_ready (rs := [6]) (by kernel_rfl) (by simp) ?_
              refine AllReadyH.cons rfl (fun K hK => ?_) AllReadyH.nil
              go_simp
              (go_at_call 51; (with_reducible refine (c3.out _).mono ?_); rintro e w1 ⟨rfl, hb⟩; (try clear m0 m1 m2 m3 m4 m5); have hx := Ext.trans' hx hb; have hB := Ext.blk hb hB; obtain ⟨m0, m1, m2, m3, m4, m5⟩ := blk6 hB)
              (try go_wp2_with fail)
              refine hK.out _ _ ?_ (fun hHeld => ?_)
              · (try dsimp only); (exact ⟨m0, m1, m2, m3, m4, m5⟩)
              clear hK K
              (try simp only [Act.put, List.setIfInBounds_toArray, List.set_cons_zero, List.set_cons_succ])
              refine takeD (i := 7) (d := (some 10)) (v := ?_) rfl (by kernel_rfl) (by kernel_rfl) (by kernel_rfl) (by kernel_rfl) (fun _ _ _ h => h) (Or.inl ⟨by kernel_rfl, ?hy⟩) (by assumption) ?rest
              case hy => (intro w hSw; (try dsimp only at hSw); go_simp; (try with_reducible rfl))
              case rest =>
                (try simp only [Act.put, List.setIfInBounds_toArray, List.set_cons_zero, List.set_cons_succ])
                refine takeD (i := 8) (d := (some 11)) (v := ?_) rfl (by kernel_rfl) (by kernel_rfl) (by kernel_rfl) (by kernel_rfl) (fun _ _ _ h => h) (Or.inl ⟨by kernel_rfl, ?hy⟩) (by assumption) ?rest
                case hy => (intro w hSw; (try dsimp only at hSw); go_simp; (try with_reducible rfl))
                case rest =>
                  (try simp only [Act.put, List.setIfInBounds_toArray, List.set_cons_zero, List.set_cons_succ])
                  refine takeD (i := 9) (d := (some 12)) (v := undef) rfl (by kernel_rfl) (by kernel_rfl) (by kernel_rfl) (by kernel_rfl) (fun _ _ _ h => h) (Or.inr ⟨by kernel_rfl, rfl⟩) (by assumption) ?_
                  (try simp only [Act.put, List.setIfInBounds_toArray, List.set_cons_zero, List.set_cons_succ])
                  refine takeD (i := 10) (d := (some 13)) (v := undef) rfl (by kernel_rfl) (by kernel_rfl) (by kernel_rfl) (by kernel_rfl) (fun _ _ _ h => h) (Or.inr ⟨by kernel_rfl, rfl⟩) (by assumption) ?_
                  (try simp only [Act.put, List.setIfInBounds_toArray, List.set_cons_zero, List.set_cons_succ])
                  refine takeD (i := 11) (d := (some 14)) (v := undef) rfl (by kernel_rfl) (by kernel_rfl) (by kernel_rfl) (by kernel_rfl) (fun _ _ _ h => h) (Or.inr ⟨by kernel_rfl, rfl⟩) (by assumption) ?_
                  (try simp only [Act.put, List.setIfInBounds_toArray, List.set_cons_zero, List.set_cons_succ])
                  refine takeD (i := 12) (d := (some 15)) (v := undef) rfl (by kernel_rfl) (by kernel_rfl) (by kernel_rfl) (by kernel_rfl) (fun _ _ _ h => h) (Or.inr ⟨by kernel_rfl, rfl⟩) (by assumption) ?_
                  (try simp only [Act.put, List.setIfInBounds_toArray, List.set_cons_zero, List.set_cons_succ])
                  refine takeD (i := 13) (d := (some 16)) (v := undef) rfl (by kernel_rfl) (by kernel_rfl) (by kernel_rfl) (by kernel_rfl) (fun _ _ _ h => h) (Or.inr ⟨by kernel_rfl, rfl⟩) (by assumption) ?_
                  (try simp only [Act.put, List.setIfInBounds_toArray, List.set_cons_zero, List.set_cons_succ])
                  refine takeD (i := 14) (d := (some 17)) (v := undef) rfl (by kernel_rfl) (by kernel_rfl) (by kernel_rfl) (by kernel_rfl) (fun _ _ _ h => h) (Or.inr ⟨by kernel_rfl, rfl⟩) (by assumption) ?_
                  (try simp only [Act.put, List.setIfInBounds_toArray, List.set_cons_zero, List.set_cons_succ])
                  refine takeD (i := 15) (d := (some 18)) (v := undef) rfl (by kernel_rfl) (by kernel_rfl) (by kernel_rfl) (by kernel_rfl) (fun _ _ _ h => h) (Or.inr ⟨by kernel_rfl, rfl⟩) (by assumption) ?_
                  (try simp only [Act.put, List.setIfInBounds_toArray, List.set_cons_zero, List.set_cons_succ])
                  refine takeD (i := 16) (d := (some 19)) (v := undef) rfl (by kernel_rfl) (by kernel_rfl) (by kernel_rfl) (by kernel_rfl) (fun _ _ _ h => h) (Or.inr ⟨by kernel_rfl, rfl⟩) (by assumption) ?_
                  (try simp only [Act.put, List.setIfInBounds_toArray, List.set_cons_zero, List.set_cons_succ])
                  refine takeD (i := 17) (d := (some 20)) (v := undef) rfl (by kernel_rfl) (by kernel_rfl) (by kernel_rfl) (by kernel_rfl) (fun _ _ _ h => h) (Or.inr ⟨by kernel_rfl, rfl⟩) (by assumption) ?_
                  (try simp only [Act.put, List.setIfInBounds_toArray, List.set_cons_zero, List.set_cons_succ])
                  refine takeD (i := 18) (d := (some 21)) (v := ?_) rfl (by kernel_rfl) (by kernel_rfl) (by kernel_rfl) (by kernel_rfl) (fun _ _ _ h => h) (Or.inl ⟨by kernel_rfl, ?hy⟩) (by assumption) ?rest
                  case hy => (intro w hSw; (try dsimp only at hSw); go_simp; (try with_reducible rfl))
                  case rest =>
                    (try simp only [Act.put, List.setIfInBounds_toArray, List.set_cons_zero, List.set_cons_succ])
                    refine takeD (i := 19) (d := (some 2)) (v := ?_) rfl (by kernel_rfl) (by kernel_rfl) (by kernel_rfl) (by kernel_rfl) (fun _ _ _ h => h) (Or.inl ⟨by kernel_rfl, ?hy⟩) (by assumption) ?rest
                    case hy => (intro w hSw; (try dsimp only at hSw); go_simp; (try with_reducible rfl))
                    case rest =>
                      (try simp only [Act.put, List.setIfInBounds_toArray, List.set_cons_zero, List.set_cons_succ])
                      refine wpAnyH_done (by kernel_rfl) ?_ _
                      go_wp2
                      go_ret
                      exact ⟨rfl, hx⟩
    | true =>
      by_cases h1 : k = 1
      · subst h1
        clear hk
        cases z
        all_goals
          go_enter Try.func35, Try.ntmps35
          go_wp2
          refine wp_region_held_drew (S := (fun w' => w'.cell? ⟨w.heap.size, 0, none⟩ = some (.int .i64 (1)) ∧ w'.cell? ⟨w.heap.size, 1, none⟩ = some (.string s) ∧ w'.cell? ⟨w.heap.size, 2, none⟩ = some (.slice a (n) c) ∧ w'.cell? ⟨w.heap.size, 3, none⟩ = some (.int .u64 (b)) ∧ w'.cell? ⟨w.heap.size, 4, none⟩ = some (.int .u64 (d)) ∧ w'.cell? ⟨w.heap.size, 5, none⟩ = some (.int .u64 (t)))) (by kernel_rfl) ?_ (fun hHeld => ?_)
          · (try dsimp only); (first | go_keep | (exact ⟨m0, m1, m2, m3, m4, m5⟩))
          refine takeD (i := 0) (d := (some 3)) (v := ?_) rfl (by kernel_rfl) (by kernel_rfl) (by kernel_rfl) (by kernel_rfl) (fun _ _ _ h => h) (Or.inl ⟨by kernel_rfl, ?hy⟩) (by assumption) ?rest
          case hy => (intro w hSw; (try dsimp only at hSw); go_simp; (try with_reducible rfl))
          case rest =>
            (try simp only [Act.put, List.setIfInBounds_toArray, List.set_cons_zero, List.set_cons_succ])
            refine takeD (i := 1) (d := (some 4)) (v := ?_) rfl (by kernel_rfl) (by kernel_rfl) (by kernel_rfl) (by kernel_rfl) (fun _ _ _ h => h) (Or.inl ⟨by kernel_rfl, ?hy⟩) (by assumption) ?rest
            case hy => (intro w hSw; (try dsimp only at hSw); go_simp; (try with_reducible rfl))
            case rest =>
              (try simp only [Act.put, List.setIfInBounds_toArray, List.set_cons_zero, List.set_cons_succ])
              refine wpAnyH_ready (rs := [2]) (by kernel_rfl) (by simp) ?_
              refine AllReadyH.cons rfl (fun K hK => ?_) AllReadyH.nil
              go_simp
              (go_at_call 50; (with_reducible refine (c1.out _).mono ?_); rintro e w' ⟨rfl, rfl⟩; (try clear m0 m1 m2 m3 m4 m5); have hx := Ext.drewN hx 1; have hB := Ext.blk (Ext.drewN (Below.refl _ _) 1) hB; obtain ⟨m0, m1, m2, m3, m4, m5⟩ := blk6 hB)
              (try go_wp2_with fail)
              refine hK.out _ _ ?_ (fun hHeld => ?_)
              · (try dsimp only); (first | (exact ⟨m0, m1, m2, m3, m4, m5⟩) | go_keep)
              clear hK K
              (try simp only [Act.put, List.setIfInBounds_toArray, List.set_cons_zero, List.set_cons_succ])
              refine takeD (i := 3) (d := (some 6)) (v := ?_) rfl (by kernel_rfl) (by kernel_rfl) (by kernel_rfl) (by kernel_rfl) (fun _ _ _ h => h) (Or.inl ⟨by kernel_rfl, ?hy⟩) (by assumption) ?rest
              case hy => (intro w hSw; (try dsimp only at hSw); go_simp; (try with_reducible rfl))
              case rest =>
                (try simp only [Act.put, List.setIfInBounds_toArray, List.set_cons_zero, List.set_cons_succ])
                refine takeD (i := 4) (d := (some 7)) (v := ?_) rfl (by kernel_rfl) (by kernel_rfl) (by kernel_rfl) (by kernel_rfl) (fun _ _ _ h => h) (Or.inl ⟨by kernel_rfl, ?hy⟩) (by assumption) ?rest
                case hy => (intro w hSw; (try dsimp only at hSw); go_simp; (try with_reducible rfl))
                case rest =>
                  (try simp only [Act.put, List.setIfInBounds_toArray, List.set_cons_zero, List.set_cons_succ])
                  refine wpAnyH_ready (rs := [5]) (by kernel_rfl) (by simp) ?_
                  refine AllReadyH.cons rfl (fun K hK => ?_) AllReadyH.nil
                  go_simp
                  (go_at_call 52; (with_reducible refine (c2.out _).mono ?_); rintro e w1 ⟨rfl, hb⟩; (try clear m0 m1 m2 m3 m4 m5); have hx := Ext.trans' hx hb; have hB := Ext.blk hb hB; obtain ⟨m0, m1, m2, m3, m4, m5⟩ := blk6 hB)
                  (try go_wp2_with fail)
                  refine hK.out _ _ ?_ (fun hHeld => ?_)
                  · (try dsimp only); (exact ⟨m0, m1, m2, m3, m4, m5⟩)
                  clear hK K
                  (try simp only [Act.put, List.setIfInBounds_toArray, List.set_cons_zero, List.set_cons_succ])
                  refine wpAnyH_ready (rs := [6]) (by kernel_rfl) (by simp) ?_
                  refine AllReadyH.cons rfl (fun K hK => ?_) AllReadyH.nil
                  go_simp
                  (go_at_call 51; (with_reducible refine (c3.out _).mono ?_); rintro e w1 ⟨rfl, hb⟩; (try clear m0 m1 m2 m3 m4 m5); have hx := Ext.trans' hx hb; have hB := Ext.blk hb hB; obtain ⟨m0, m1, m2, m3, m4, m5⟩ := blk6 hB)
                  (try go_wp2_with fail)
                  refine hK.out _ _ ?_ (fun hHeld => ?_)
                  · (try dsimp only); (exact ⟨m0, m1, m2, m3, m4, m5⟩)
                  clear hK K
                  (try simp only [Act.put, List.setIfInBounds_toArray, List.set_cons_zero, List.set_cons_succ])
                  refine takeD (i := 7) (d := (some 10)) (v := ?_) rfl (by kernel_rfl) (by kernel_rfl) (by kernel_rfl) (by kernel_rfl) (fun _ _ _ h => h) (Or.inl ⟨by kernel_rfl, ?hy⟩) (by assumption) ?rest
                  case hy => (intro w hSw; (try dsimp only at hSw); go_simp; (try with_reducible rfl))
                  case rest =>
                    (try simp only [Act.put, List.setIfInBounds_toArray, List.set_cons_zero, List.set_cons_succ])
                    refine takeD (i := 8) (d := (some 11)) (v := ?_) rfl (by kernel_rfl) (by kernel_rfl) (by kernel_rfl) (by kernel_rfl) (fun _ _ _ h => h) (Or.inl ⟨by kernel_rfl, ?hy⟩) (by assumption) ?rest
                    case hy => (intro w hSw; (try dsimp only at hSw); go_simp; (try with_reducible rfl))
                    case rest =>
                      (try simp only [Act.put, List.setIfInBounds_toArray, List.set_cons_zero, List.set_cons_succ])
                      refine takeD (i := 9) (d := (some 12)) (v := ?_) rfl (by kernel_rfl) (by kernel_rfl) (by kernel_rfl) (by kernel_rfl) (fun _ _ _ h => h) (Or.inl ⟨by kernel_rfl, ?hy⟩) (by assumption) ?rest
                      case hy => (intro w hSw; (try dsimp only at hSw); go_simp; (try with_reducible rfl))
                      case rest =>
                        (try simp only [Act.put, List.setIfInBounds_toArray, List.set_cons_zero, List.set_cons_succ])
                        refine takeD (i := 10) (d := (some 13)) (v := ?_) rfl (by kernel_rfl) (by kernel_rfl) (by kernel_rfl) (by kernel_rfl) (fun _ _ _ h => h) (Or.inl ⟨by kernel_rfl, ?hy⟩) (by assumption) ?rest
                        case hy => (intro w hSw; (try dsimp only at hSw); go_simp; (try with_reducible rfl))
                        case rest =>
                          (try simp only [Act.put, List.setIfInBounds_toArray, List.set_cons_zero, List.set_cons_succ])
                          refine takeD (i := 11) (d := (some 14)) (v := ?_) rfl (by kernel_rfl) (by kernel_rfl) (by kernel_rfl) (by kernel_rfl) (fun _ _ _ h => h) (Or.inl ⟨by kernel_rfl, ?hy⟩) (by assumption) ?rest
                          case hy => (intro w hSw; (try dsimp only at hSw); go_simp; (try with_reducible rfl))
                          case rest =>
                            (try simp only [Act.put, List.setIfInBounds_toArray, List.set_cons_zero, List.set_cons_succ])
                            refine takeD (i := 12) (d := (some 15)) (v := ?_) rfl (by kernel_rfl) (by kernel_rfl) (by kernel_rfl) (by kernel_rfl) (fun _ _ _ h => h) (Or.inl ⟨by kernel_rfl, ?hy⟩) (by assumption) ?rest
                            case hy => (intro w hSw; (try dsimp only at hSw); go_simp; (try with_reducible rfl))
                            case rest =>
                              (try simp only [Act.put, List.setIfInBounds_toArray, List.set_cons_zero, List.set_cons_succ])
                              refine takeD (i := 14) (d := (some 17)) (v := ?_) rfl (by kernel_rfl) (by kernel_rfl) (by kernel_rfl) (by kernel_rfl) (fun _ _ _ h => h) (Or.inl ⟨by kernel_rfl, ?hy⟩) (by assumption) ?rest
                              case hy => (intro w hSw; (try dsimp only at hSw); go_simp; (try with_reducible rfl))
                              case rest =>
                                (try simp only [Act.put, List.setIfInBounds_toArray, List.set_cons_zero, List.set_cons_succ])
                                refine takeD (i := 15) (d := (some 18)) (v := ?_) rfl (by kernel_rfl) (by kernel_rfl) (by kernel_rfl) (by kernel_rfl) (fun _ _ _ h => h) (Or.inl ⟨by kernel_rfl, ?hy⟩) (by assumption) ?rest
                                case hy => (intro w hSw; (try dsimp only at hSw); go_simp; (try with_reducible rfl))
                                case rest =>
                                  (try simp only [Act.put, List.setIfInBounds_toArray, List.set_cons_zero, List.set_cons_succ])
                                  refine takeD (i := 16) (d := (some 19)) (v := ?_) rfl (by kernel_rfl) (by kernel_rfl) (by kernel_rfl) (by kernel_rfl) (fun _ _ _ h => h) (Or.inl ⟨by kernel_rfl, ?hy⟩) (by assumption) ?rest
                                  case hy => (intro w hSw; (try dsimp only at hSw); go_simp; (try with_reducible rfl))
                                  case rest =>
                                    (try simp only [Act.put, List.setIfInBounds_toArray, List.set_cons_zero, List.set_cons_succ])
                                    refine wpAnyH_ready (rs := [13]) (by kernel_rfl) (by simp) ?_
                                    refine AllReadyH.cons rfl (fun K hK => ?_) AllReadyH.nil
                                    go_simp
                                    (go_at_call 53; (with_reducible refine (c4.out _).mono ?_); rintro e w' ⟨rfl, rfl⟩)
                                    (try go_wp2_with fail)
                                    refine hK.out _ _ ?_ (fun hHeld => ?_)
                                    · (try dsimp only); (exact ⟨m0, m1, m2, m3, m4, m5⟩)
                                    clear hK K
                                    (try simp only [Act.put, List.setIfInBounds_toArray, List.set_cons_zero, List.set_cons_succ])
                                    refine takeD (i := 17) (d := (some 20)) (v := ?_) rfl (by kernel_rfl) (by kernel_rfl) (by kernel_rfl) (by kernel_rfl) (fun _ _ _ h => h) (Or.inl ⟨by kernel_rfl, ?hy⟩) (by assumption) ?rest
                                    case hy => (intro w hSw; (try dsimp only at hSw); go_simp; (try with_reducible rfl))
                                    case rest =>
                                      (try simp only [Act.put, List.setIfInBounds_toArray, List.set_cons_zero, List.set_cons_succ])
                                      refine takeD (i := 18) (d := (some 21)) (v := ?_) rfl (by kernel_rfl) (by kernel_rfl) (by kernel_rfl) (by kernel_rfl) (fun _ _ _ h => h) (Or.inl ⟨by kernel_rfl, ?hy⟩) (by assumption) ?rest
                                      case hy => (intro w hSw; (try dsimp only at hSw); go_simp; (try with_reducible rfl))
                                      case rest =>
                                        (try simp only [Act.put, List.setIfInBounds_toArray, List.set_cons_zero, List.set_cons_succ])
                                        refine takeD (i := 19) (d := (some 2)) (v := ?_) rfl (by kernel_rfl) (by kernel_rfl) (by kernel_rfl) (by kernel_rfl) (fun _ _ _ h => h) (Or.inl ⟨by kernel_rfl, ?hy⟩) (by assumption) ?rest
                                        case hy => (intro w hSw; (try dsimp only at hSw); go_simp; (try with_reducible rfl))
                                        case rest =>
                                          (try simp only [Act.put, List.setIfInBounds_toArray, List.set_cons_zero, List.set_cons_succ])
                                          refine wpAnyH_done (by kernel_rfl) ?_ _
                                          go_wp2
                                          go_ret
                                          exact ⟨rfl, hx⟩
      · have e1 : (k == 1) = false := by rw [beq_eq_false_iff_ne]; exact h1
        have h1 := Box.mk h1
        clear hk
        cases z
        all_goals
          go_enter Try.func35, Try.ntmps35
          go_wp2
          refine wp_region_held_drew (S := (fun w' => w'.cell? ⟨w.heap.size, 0, none⟩ = some (.int .i64 (k)) ∧ w'.cell? ⟨w.heap.size, 1, none⟩ = some (.string s) ∧ w'.cell? ⟨w.heap.size, 2, none⟩ = some (.slice a (n) c) ∧ w'.cell? ⟨w.heap.size, 3, none⟩ = some (.int .u64 (b)) ∧ w'.cell? ⟨w.heap.size, 4, none⟩ = some (.int .u64 (d)) ∧ w'.cell? ⟨w.heap.size, 5, none⟩ = some (.int .u64 (t)))) (by kernel_rfl) ?_ (fun hHeld => ?_)
          · (try dsimp only); (first | go_keep | (exact ⟨m0, m1, m2, m3, m4, m5⟩))
          refine takeD (i := 0) (d := (some 3)) (v := ?_) rfl (by kernel_rfl) (by kernel_rfl) (by kernel_rfl) (by kernel_rfl) (fun _ _ _ h => h) (Or.inl ⟨by kernel_rfl, ?hy⟩) (by assumption) ?rest
          case hy => (intro w hSw; (try dsimp only at hSw); go_simp; (try with_reducible rfl))
          case rest =>
            (try simp only [Act.put, List.setIfInBounds_toArray, List.set_cons_zero, List.set_cons_succ])
            refine takeD (i := 1) (d := (some 4)) (v := ?_) rfl (by kernel_rfl) (by kernel_rfl) (by kernel_rfl) (by kernel_rfl) (fun _ _ _ h => h) (Or.inl ⟨by kernel_rfl, ?hy⟩) (by assumption) ?rest
            case hy => (intro w hSw; (try dsimp only at hSw); go_simp; (try with_reducible rfl))
            case rest =>
              (try simp only [Act.put, List.setIfInBounds_toArray, List.set_cons_zero, List.set_cons_succ])
              refine wpAnyH_ready (rs := [2]) (by kernel_rfl) (by simp) ?_
              refine AllReadyH.cons rfl (fun K hK => ?_) AllReadyH.nil
              go_simp
              (go_at_call 50; (with_reducible refine (c1.out _).mono ?_); rintro e w' ⟨rfl, rfl⟩; (try clear m0 m1 m2 m3 m4 m5); have hx := Ext.drewN hx 1; have hB := Ext.blk (Ext.drewN (Below.refl _ _) 1) hB; obtain ⟨m0, m1, m2, m3, m4, m5⟩ := blk6 hB)
              (try go_wp2_with fail)
              refine hK.out _ _ ?_ (fun hHeld => ?_)
              · (try dsimp only); (first | (exact ⟨m0, m1, m2, m3, m4, m5⟩) | go_keep)
              clear hK K
              (try simp only [Act.put, List.setIfInBounds_toArray, List.set_cons_zero, List.set_cons_succ])
              refine takeD (i := 3) (d := (some 6)) (v := ?_) rfl (by kernel_rfl) (by kernel_rfl) (by kernel_rfl) (by kernel_rfl) (fun _ _ _ h => h) (Or.inl ⟨by kernel_rfl, ?hy⟩) (by assumption) ?rest
              case hy => (intro w hSw; (try dsimp only at hSw); go_simp; (try with_reducible rfl))
              case rest =>
                (try simp only [Act.put, List.setIfInBounds_toArray, List.set_cons_zero, List.set_cons_succ])
                refine takeD (i := 4) (d := (some 7)) (v := ?_) rfl (by kernel_rfl) (by kernel_rfl) (by kernel_rfl) (by kernel_rfl) (fun _ _ _ h => h) (Or.inl ⟨by kernel_rfl, ?hy⟩) (by assumption) ?rest
                case hy => (intro w hSw; (try dsimp only at hSw); go_simp; (try with_reducible rfl))
                case rest =>
                  (try simp only [Act.put, List.setIfInBounds_toArray, List.set_cons_zero, List.set_cons_succ])
                  refine wpAnyH_ready (rs := [5]) (by kernel_rfl) (by simp) ?_
                  refine AllReadyH.cons rfl (fun K hK => ?_) AllReadyH.nil
                  go_simp
                  (go_at_call 52; (with_reducible refine (c2.out _).mono ?_); rintro e w1 ⟨rfl, hb⟩; (try clear m0 m1 m2 m3 m4 m5); have hx := Ext.trans' hx hb; have hB := Ext.blk hb hB; obtain ⟨m0, m1, m2, m3, m4, m5⟩ := blk6 hB)
                  (try go_wp2_with fail)
                  refine hK.out _ _ ?_ (fun hHeld => ?_)
                  · (try dsimp only); (exact ⟨m0, m1, m2, m3, m4, m5⟩)
                  clear hK K
                  (try simp only [Act.put, List.setIfInBounds_toArray, List.set_cons_zero, List.set_cons_succ])
                  refine wpAnyH_ready (rs := [6]) (by kernel_rfl) (by simp) ?_
                  refine AllReadyH.cons rfl (fun K hK => ?_) AllReadyH.nil
                  go_simp
                  (go_at_call 51; (with_reducible refine (c3.out _).mono ?_); rintro e w1 ⟨rfl, hb⟩; (try clear m0 m1 m2 m3 m4 m5); have hx := Ext.trans' hx hb; have hB := Ext.blk hb hB; obtain ⟨m0, m1, m2, m3, m4, m5⟩ := blk6 hB)
                  (try go_wp2_with fail)
                  refine hK.out _ _ ?_ (fun hHeld => ?_)
                  · (try dsimp only); (exact ⟨m0, m1, m2, m3, m4, m5⟩)
                  clear hK K
                  (try simp only [Act.put, List.setIfInBounds_toArray, List.set_cons_zero, List.set_cons_succ])
                  refine takeD (i := 7) (d := (some 10)) (v := ?_) rfl (by kernel_rfl) (by kernel_rfl) (by kernel_rfl) (by kernel_rfl) (fun _ _ _ h => h) (Or.inl ⟨by kernel_rfl, ?hy⟩) (by assumption) ?rest
                  case hy => (intro w hSw; (try dsimp only at hSw); go_simp; (try with_reducible rfl))
                  case rest =>
                    (try simp only [Act.put, List.setIfInBounds_toArray, List.set_cons_zero, List.set_cons_succ])
                    refine takeD (i := 8) (d := (some 11)) (v := ?_) rfl (by kernel_rfl) (by kernel_rfl) (by kernel_rfl) (by kernel_rfl) (fun _ _ _ h => h) (Or.inl ⟨by kernel_rfl, ?hy⟩) (by assumption) ?rest
                    case hy => (intro w hSw; (try dsimp only at hSw); go_simp; (try with_reducible rfl))
                    case rest =>
                      (try simp only [Act.put, List.setIfInBounds_toArray, List.set_cons_zero, List.set_cons_succ])
                      refine takeD (i := 9) (d := (some 12)) (v := ?_) rfl (by kernel_rfl) (by kernel_rfl) (by kernel_rfl) (by kernel_rfl) (fun _ _ _ h => h) (Or.inl ⟨by kernel_rfl, ?hy⟩) (by assumption) ?rest
                      case hy => (intro w hSw; (try dsimp only at hSw); go_simp; (try with_reducible rfl))
                      case rest =>
                        (try simp only [Act.put, List.setIfInBounds_toArray, List.set_cons_zero, List.set_cons_succ])
                        refine takeD (i := 10) (d := (some 13)) (v := ?_) rfl (by kernel_rfl) (by kernel_rfl) (by kernel_rfl) (by kernel_rfl) (fun _ _ _ h => h) (Or.inl ⟨by kernel_rfl, ?hy⟩) (by assumption) ?rest
                        case hy => (intro w hSw; (try dsimp only at hSw); go_simp; (try with_reducible rfl))
                        case rest =>
                          (try simp only [Act.put, List.setIfInBounds_toArray, List.set_cons_zero, List.set_cons_succ])
                          refine takeD (i := 11) (d := (some 14)) (v := ?_) rfl (by kernel_rfl) (by kernel_rfl) (by kernel_rfl) (by kernel_rfl) (fun _ _ _ h => h) (Or.inl ⟨by kernel_rfl, ?hy⟩) (by assumption) ?rest
                          case hy => (intro w hSw; (try dsimp only at hSw); go_simp; (try with_reducible rfl))
                          case rest =>
                            (try simp only [Act.put, List.setIfInBounds_toArray, List.set_cons_zero, List.set_cons_succ])
                            refine takeD (i := 12) (d := (some 15)) (v := ?_) rfl (by kernel_rfl) (by kernel_rfl) (by kernel_rfl) (by kernel_rfl) (fun _ _ _ h => h) (Or.inl ⟨by kernel_rfl, ?hy⟩) (by assumption) ?rest
                            case hy => (intro w hSw; (try dsimp only at hSw); go_simp; (try with_reducible rfl))
                            case rest =>
                              (try simp only [Act.put, List.setIfInBounds_toArray, List.set_cons_zero, List.set_cons_succ])
                              refine takeD (i := 14) (d := (some 17)) (v := ?_) rfl (by kernel_rfl) (by kernel_rfl) (by kernel_rfl) (by kernel_rfl) (fun _ _ _ h => h) (Or.inl ⟨by kernel_rfl, ?hy⟩) (by assumption) ?rest
                              case hy => (intro w hSw; (try dsimp only at hSw); go_simp; (try with_reducible rfl))
                              case rest =>
                                (try simp only [Act.put, List.setIfInBounds_toArray, List.set_cons_zero, List.set_cons_succ])
                                refine takeD (i := 15) (d := (some 18)) (v := ?_) rfl (by kernel_rfl) (by kernel_rfl) (by kernel_rfl) (by kernel_rfl) (fun _ _ _ h => h) (Or.inl ⟨by kernel_rfl, ?hy⟩) (by assumption) ?rest
                                case hy => (intro w hSw; (try dsimp only at hSw); go_simp; (try with_reducible rfl))
                                case rest =>
                                  (try simp only [Act.put, List.setIfInBounds_toArray, List.set_cons_zero, List.set_cons_succ])
                                  refine takeD (i := 16) (d := (some 19)) (v := ?_) rfl (by kernel_rfl) (by kernel_rfl) (by kernel_rfl) (by kernel_rfl) (fun _ _ _ h => h) (Or.inl ⟨by kernel_rfl, ?hy⟩) (by assumption) ?rest
                                  case hy => (intro w hSw; (try dsimp only at hSw); go_simp; (try with_reducible rfl))
                                  case rest =>
                                    (try simp only [Act.put, List.setIfInBounds_toArray, List.set_cons_zero, List.set_cons_succ])
                                    refine wpAnyH_ready (rs := [13]) (by kernel_rfl) (by simp) ?_
                                    refine AllReadyH.cons rfl (fun K hK => ?_) AllReadyH.nil
                                    go_simp
                                    (go_at_call 53; (with_reducible refine (c4.out _).mono ?_); rintro e w' ⟨rfl, rfl⟩)
                                    (try go_wp2_with fail)
                                    refine hK.out _ _ ?_ (fun hHeld => ?_)
                                    · (try dsimp only); (exact ⟨m0, m1, m2, m3, m4, m5⟩)
                                    clear hK K
                                    (try simp only [Act.put, List.setIfInBounds_toArray, List.set_cons_zero, List.set_cons_succ])
                                    refine takeD (i := 17) (d := (some 20)) (v := ?_) rfl (by kernel_rfl) (by kernel_rfl) (by kernel_rfl) (by kernel_rfl) (fun _ _ _ h => h) (Or.inl ⟨by kernel_rfl, ?hy⟩) (by assumption) ?rest
                                    case hy => (intro w hSw; (try dsimp only at hSw); go_simp; (try with_reducible rfl))
                                    case rest =>
                                      (try simp only [Act.put, List.setIfInBounds_toArray, List.set_cons_zero, List.set_cons_succ])
                                      refine takeD (i := 18) (d := (some 21)) (v := ?_) rfl (by kernel_rfl) (by kernel_rfl) (by kernel_rfl) (by kernel_rfl) (fun _ _ _ h => h) (Or.inl ⟨by kernel_rfl, ?hy⟩) (by assumption) ?rest
                                      case hy => (intro w hSw; (try dsimp only at hSw); go_simp; (try with_reducible rfl))
                                      case rest =>
                                        (try simp only [Act.put, List.setIfInBounds_toArray, List.set_cons_zero, List.set_cons_succ])
                                        refine takeD (i := 19) (d := (some 2)) (v := ?_) rfl (by kernel_rfl) (by kernel_rfl) (by kernel_rfl) (by kernel_rfl) (fun _ _ _ h => h) (Or.inl ⟨by kernel_rfl, ?hy⟩) (by assumption) ?rest
                                        case hy => (intro w hSw; (try dsimp only at hSw); go_simp; (try with_reducible rfl))
                                        case rest =>
                                          (try simp only [Act.put, List.setIfInBounds_toArray, List.set_cons_zero, List.set_cons_succ])
                                          refine wpAnyH_done (by kernel_rfl) ?_ _
                                          go_wp2
                                          go_ret
                                          exact ⟨ret_bool (by simp [h1.out]), hx⟩
end Go.Proofs.Ytnblbneehogadaa
