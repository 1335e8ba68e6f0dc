import Derived.Test.YthlnhemdhlkhfaaDoorD27
/- The law of the texts, walked (under way). -/
namespace Go.Proofs.YthlnhemdhlkhfaaDoor
open Go.RowKit

set_option maxRecDepth 100000 in
set_option maxHeartbeats 4000000 in
theorem texts_long (v : Value) (s : ByteArray) (W : World) (hv : LoadArg v) (hl : 100 < s.size) (hm : s.size ≤ maxLen) (ht : Env W) :
    Calls Tryd.prog 6 #[v, .string s] W fun e W' => e = .returned (.bool true) ∧ Below W.heap.size W W' := by
  obtain ⟨k, a, r, p, x, rfl, hx64⟩ := hv
  have ck : Box (∀ w, Ext W w → Calls Tryd.prog 10 #[] w fun e w' => e = .returned (.bool true) ∧ Ext w w') := ⟨fun w h => known_any w (ht.ext h)⟩
  have hX : Ext W (W.alloc (.cells #[.int .i64 (k), .int .i64 (a), .int .i64 (r), .int .i64 (p), .int .u64 (x)] 28)) := Ext.alloc (Below.refl _ _) _
  have d1 : decide (100 < (s.size : Int)) = true := decide_eq_true (by omega)
  have d2 : decide (100 < s.size) = true := decide_eq_true hl
  unfold maxLen at hm
  clear ht
  go_enter Tryd.func6, Tryd.ntmps6
  go_wp2_with (first | (go_at_call 10; (with_reducible refine (ck.out _ hX).mono ?_); rintro e w1 ⟨rfl, hb⟩; have hX := Ext.trans' hX hb))
  go_ret
  exact ⟨rfl, hX⟩
set_option maxRecDepth 100000 in
set_option maxHeartbeats 4000000 in
theorem texts_bad_no (k a r p : Int) (x : Nat) (s : ByteArray) (W : World) (hv : vldL k a r p x = false) (hl : s.size ≤ 100) (hn : ¬ ∃ k a r p x, Vld k a r p x ∧ textL k a r p x = s.data.toList) (ht : Env W) :
    Calls Tryd.prog 6 #[(.agg #[.int .i64 (k), .int .i64 (a), .int .i64 (r), .int .i64 (p), .int .u64 (x)]), .string s] W fun e W' => e = .returned (.bool true) ∧ Below W.heap.size W W' := by
  have ck : Box (∀ w, Ext W w → Calls Tryd.prog 10 #[] w fun e w' => e = .returned (.bool true) ∧ Ext w w') := ⟨fun w h => known_any w (ht.ext h)⟩
  have cp : Box (∀ w, Ext W w → _) := ⟨fun w h => parse_no hn w (by omega) (ht.ext h)⟩
  have cq : Box _ := ⟨fun w => rparse_no hn w (by omega)⟩
  have ct : Box _ := ⟨fun w => gtext_bad k a r p x hv w⟩
  have cv : Box _ := ⟨fun w => refValid_any k a r p x w⟩
  rw [hv] at cv
  have hX : Ext W (W.alloc (.cells #[.int .i64 (k), .int .i64 (a), .int .i64 (r), .int .i64 (p), .int .u64 (x)] 28)) := Ext.alloc (Below.refl _ _) _
  have hB := newblk W (.cells #[.int .i64 (k), .int .i64 (a), .int .i64 (r), .int .i64 (p), .int .u64 (x)] 28)
  have d1 : decide (100 < (s.size : Int)) = false := decide_eq_false (by omega)
  have d2 : decide (100 < s.size) = false := decide_eq_false (by omega)
  have hg := load_struct.2.2
  have hq := eqL 0 0 0 0 0
  clear ht hn hv
  go_enter Tryd.func6, Tryd.ntmps6
  go_wp2_with (first
    | (go_at_call 19; (with_reducible refine (ct.out _).mono ?_); rintro e w1 ⟨rfl, hb⟩; have hX := Ext.trans' hX hb; have hB := Ext.blk hb hB; (try have hP := Ext.blk hb hP); (try clear m0 m1 m2 m3 m4); obtain ⟨m0, m1, m2, m3, m4⟩ := blk5 hB)
    | (go_at_call 12; (with_reducible refine (cv.out _).mono ?_); rintro e w1 ⟨rfl, hb⟩; have hX := Ext.trans' hX hb; have hB := Ext.blk hb hB; (try have hP := Ext.blk hb hP); (try clear m0 m1 m2 m3 m4); obtain ⟨m0, m1, m2, m3, m4⟩ := blk5 hB)
    | (go_at_call 21; (with_reducible refine (cp.out _ hX).mono ?_); rintro e w1 ⟨rfl, hb⟩; have hX := Ext.trans' hX hb; have hB := Ext.blk hb hB; (try have hP := Ext.blk hb hP); (try clear m0 m1 m2 m3 m4); obtain ⟨m0, m1, m2, m3, m4⟩ := blk5 hB; have hX := Ext.alloc hX (.cells #[.int .i64 (0), .int .i64 (0), .int .i64 (0), .int .i64 (0), .int .u64 (0)] 28); have hB := Ext.blk (Ext.alloc (Below.refl _ _) (.cells #[.int .i64 (0), .int .i64 (0), .int .i64 (0), .int .i64 (0), .int .u64 (0)] 28)) hB; have hP := newblk w1 (.cells #[.int .i64 (0), .int .i64 (0), .int .i64 (0), .int .i64 (0), .int .u64 (0)] 28))
    | (go_at_call 22; (with_reducible refine (cq.out _).mono ?_); rintro e w2 ⟨rfl, hb⟩; have hX := Ext.trans' hX hb; have hB := Ext.blk hb hB; (try have hP := Ext.blk hb hP); (try clear m0 m1 m2 m3 m4); obtain ⟨m0, m1, m2, m3, m4⟩ := blk5 hB; have hX := Ext.alloc hX (.cells #[.int .i64 (0), .int .i64 (0), .int .i64 (0), .int .i64 (0), .int .u64 (0)] 28); have hP := Ext.blk (Ext.alloc (Below.refl _ _) (.cells #[.int .i64 (0), .int .i64 (0), .int .i64 (0), .int .i64 (0), .int .u64 (0)] 28)) hP; obtain ⟨c0, c1, c2, c3, c4⟩ := blk5 hP)
    | (go_at_call 10; (with_reducible refine (ck.out _ hX).mono ?_); rintro e w1 ⟨rfl, hb⟩; have hX := Ext.trans' hX hb))
  go_ret
  exact ⟨rfl, hX⟩
set_option maxRecDepth 100000 in
set_option maxHeartbeats 4000000 in
theorem texts_bad_yes (k a r p : Int) (x : Nat) (s : ByteArray) (W : World) (hv : vldL k a r p x = false) (hl : s.size ≤ 100) {k2 a2 r2 p2 x2 : Nat} (V : Vld k2 a2 r2 p2 x2) (hn : textL k2 a2 r2 p2 x2 = s.data.toList) (ht : Env W) :
    Calls Tryd.prog 6 #[(.agg #[.int .i64 (k), .int .i64 (a), .int .i64 (r), .int .i64 (p), .int .u64 (x)]), .string s] W fun e W' => e = .returned (.bool true) ∧ Below W.heap.size W W' := by
  have ck : Box (∀ w, Ext W w → Calls Tryd.prog 10 #[] w fun e w' => e = .returned (.bool true) ∧ Ext w w') := ⟨fun w h => known_any w (ht.ext h)⟩
  have cp : Box (∀ w, Ext W w → _) := ⟨fun w h => parse_yes V hn w (by omega) (ht.ext h)⟩
  have cq : Box _ := ⟨fun w => rparse_yes V hn w (by omega)⟩
  have ct : Box _ := ⟨fun w => gtext_bad k a r p x hv w⟩
  have cv : Box _ := ⟨fun w => refValid_any k a r p x w⟩
  rw [hv] at cv
  have hX : Ext W (W.alloc (.cells #[.int .i64 (k), .int .i64 (a), .int .i64 (r), .int .i64 (p), .int .u64 (x)] 28)) := Ext.alloc (Below.refl _ _) _
  have hB := newblk W (.cells #[.int .i64 (k), .int .i64 (a), .int .i64 (r), .int .i64 (p), .int .u64 (x)] 28)
  have d1 : decide (100 < (s.size : Int)) = false := decide_eq_false (by omega)
  have d2 : decide (100 < s.size) = false := decide_eq_false (by omega)
  have hg := load_struct.2.2
  have hq := eqL k2 a2 r2 p2 x2
  clear ht hn hv V
  go_enter Tryd.func6, Tryd.ntmps6
  go_wp2_with (first
    | (go_at_call 19; (with_reducible refine (ct.out _).mono ?_); rintro e w1 ⟨rfl, hb⟩; have hX := Ext.trans' hX hb; have hB := Ext.blk hb hB; (try have hP := Ext.blk hb hP); (try clear m0 m1 m2 m3 m4); obtain ⟨m0, m1, m2, m3, m4⟩ := blk5 hB)
    | (go_at_call 12; (with_reducible refine (cv.out _).mono ?_); rintro e w1 ⟨rfl, hb⟩; have hX := Ext.trans' hX hb; have hB := Ext.blk hb hB; (try have hP := Ext.blk hb hP); (try clear m0 m1 m2 m3 m4); obtain ⟨m0, m1, m2, m3, m4⟩ := blk5 hB)
    | (go_at_call 21; (with_reducible refine (cp.out _ hX).mono ?_); rintro e w1 ⟨rfl, hb⟩; have hX := Ext.trans' hX hb; have hB := Ext.blk hb hB; (try have hP := Ext.blk hb hP); (try clear m0 m1 m2 m3 m4); obtain ⟨m0, m1, m2, m3, m4⟩ := blk5 hB; have hX := Ext.alloc hX (.cells #[.int .i64 (k2), .int .i64 (a2), .int .i64 (r2), .int .i64 (p2), .int .u64 (x2)] 28); have hB := Ext.blk (Ext.alloc (Below.refl _ _) (.cells #[.int .i64 (k2), .int .i64 (a2), .int .i64 (r2), .int .i64 (p2), .int .u64 (x2)] 28)) hB; have hP := newblk w1 (.cells #[.int .i64 (k2), .int .i64 (a2), .int .i64 (r2), .int .i64 (p2), .int .u64 (x2)] 28))
    | (go_at_call 22; (with_reducible refine (cq.out _).mono ?_); rintro e w2 ⟨rfl, hb⟩; have hX := Ext.trans' hX hb; have hB := Ext.blk hb hB; (try have hP := Ext.blk hb hP); (try clear m0 m1 m2 m3 m4); obtain ⟨m0, m1, m2, m3, m4⟩ := blk5 hB; have hX := Ext.alloc hX (.cells #[.int .i64 (k2), .int .i64 (a2), .int .i64 (r2), .int .i64 (p2), .int .u64 (x2)] 28); have hP := Ext.blk (Ext.alloc (Below.refl _ _) (.cells #[.int .i64 (k2), .int .i64 (a2), .int .i64 (r2), .int .i64 (p2), .int .u64 (x2)] 28)) hP; obtain ⟨c0, c1, c2, c3, c4⟩ := blk5 hP)
    | (go_at_call 10; (with_reducible refine (ck.out _ hX).mono ?_); rintro e w1 ⟨rfl, hb⟩; have hX := Ext.trans' hX hb))
  go_ret
  exact ⟨rfl, hX⟩
set_option maxRecDepth 100000 in
set_option maxHeartbeats 4000000 in
theorem texts_ok_no {k a r p x : Nat} (s : ByteArray) (W : World) (VV : Vld k a r p x) (hl : s.size ≤ 100) (hn : ¬ ∃ k a r p x, Vld k a r p x ∧ textL k a r p x = s.data.toList) (ht : Env W) :
    Calls Tryd.prog 6 #[(.agg #[.int .i64 (k), .int .i64 (a), .int .i64 (r), .int .i64 (p), .int .u64 (x)]), .string s] W fun e W' => e = .returned (.bool true) ∧ Below W.heap.size W W' := by
  have ck : Box (∀ w, Ext W w → Calls Tryd.prog 10 #[] w fun e w' => e = .returned (.bool true) ∧ Ext w w') := ⟨fun w h => known_any w (ht.ext h)⟩
  have cp : Box (∀ w, Ext W w → _) := ⟨fun w h => parse_no hn w (by omega) (ht.ext h)⟩
  have cq : Box _ := ⟨fun w => rparse_no hn w (by omega)⟩
  have hk6 : k ≤ 6 ∧ a ≤ 100000 ∧ r ≤ 100000 ∧ p ≤ 100000 := by
    have v1 := VV.a2; have v2 := VV.r2
    rcases VV.k6 with h | h | h | h | h | h <;> omega
  have ct : Box (∀ w, Ext W w → _) := ⟨fun w h => gtext_any VV w (ht.ext h).tabs⟩
  have cr : Box _ := ⟨fun w => rtext_any (k := k) (a := a) (r := r) (p := p) (s := x) hk6.1 hk6.2.1 hk6.2.2.1 hk6.2.2.2 VV.s64 w⟩
  have hee : ((textB k a r p x).toList == (textB k a r p x).toList) = true := by simp
  have cv : Box _ := ⟨fun w => refValid_any k a r p x w⟩
  rw [vld_of VV] at cv
  generalize textB k a r p x = y at *
  have hX : Ext W (W.alloc (.cells #[.int .i64 (k), .int .i64 (a), .int .i64 (r), .int .i64 (p), .int .u64 (x)] 28)) := Ext.alloc (Below.refl _ _) _
  have hB := newblk W (.cells #[.int .i64 (k), .int .i64 (a), .int .i64 (r), .int .i64 (p), .int .u64 (x)] 28)
  have d1 : decide (100 < (s.size : Int)) = false := decide_eq_false (by omega)
  have d2 : decide (100 < s.size) = false := decide_eq_false (by omega)
  have hg := load_struct.2.2
  have hq := eqL 0 0 0 0 0
  clear ht hn VV hk6
  go_enter Tryd.func6, Tryd.ntmps6
  go_wp2_with (first
    | (go_at_call 19; (with_reducible refine (ct.out _ hX).mono ?_); rintro e w1 ⟨rfl, hb⟩; have hX := Ext.trans' hX hb; have hB := Ext.blk hb hB; (try have hP := Ext.blk hb hP); (try clear m0 m1 m2 m3 m4); obtain ⟨m0, m1, m2, m3, m4⟩ := blk5 hB)
    | (go_at_call 12; (with_reducible refine (cv.out _).mono ?_); rintro e w1 ⟨rfl, hb⟩; have hX := Ext.trans' hX hb; have hB := Ext.blk hb hB; (try have hP := Ext.blk hb hP); (try clear m0 m1 m2 m3 m4); obtain ⟨m0, m1, m2, m3, m4⟩ := blk5 hB)
    | (go_at_call 20; (with_reducible refine (cr.out _).mono ?_); rintro e w1 ⟨rfl, hb⟩; have hX := Ext.trans' hX hb; have hB := Ext.blk hb hB; (try have hP := Ext.blk hb hP); (try clear m0 m1 m2 m3 m4); obtain ⟨m0, m1, m2, m3, m4⟩ := blk5 hB)
    | (go_at_call 21; (with_reducible refine (cp.out _ hX).mono ?_); rintro e w1 ⟨rfl, hb⟩; have hX := Ext.trans' hX hb; have hB := Ext.blk hb hB; (try have hP := Ext.blk hb hP); (try clear m0 m1 m2 m3 m4); obtain ⟨m0, m1, m2, m3, m4⟩ := blk5 hB; have hX := Ext.alloc hX (.cells #[.int .i64 (0), .int .i64 (0), .int .i64 (0), .int .i64 (0), .int .u64 (0)] 28); have hB := Ext.blk (Ext.alloc (Below.refl _ _) (.cells #[.int .i64 (0), .int .i64 (0), .int .i64 (0), .int .i64 (0), .int .u64 (0)] 28)) hB; have hP := newblk w1 (.cells #[.int .i64 (0), .int .i64 (0), .int .i64 (0), .int .i64 (0), .int .u64 (0)] 28))
    | (go_at_call 22; (with_reducible refine (cq.out _).mono ?_); rintro e w2 ⟨rfl, hb⟩; have hX := Ext.trans' hX hb; have hB := Ext.blk hb hB; (try have hP := Ext.blk hb hP); (try clear m0 m1 m2 m3 m4); obtain ⟨m0, m1, m2, m3, m4⟩ := blk5 hB; have hX := Ext.alloc hX (.cells #[.int .i64 (0), .int .i64 (0), .int .i64 (0), .int .i64 (0), .int .u64 (0)] 28); have hP := Ext.blk (Ext.alloc (Below.refl _ _) (.cells #[.int .i64 (0), .int .i64 (0), .int .i64 (0), .int .i64 (0), .int .u64 (0)] 28)) hP; obtain ⟨c0, c1, c2, c3, c4⟩ := blk5 hP)
    | (go_at_call 10; (with_reducible refine (ck.out _ hX).mono ?_); rintro e w1 ⟨rfl, hb⟩; have hX := Ext.trans' hX hb))
  go_ret
  exact ⟨rfl, hX⟩
set_option maxRecDepth 100000 in
set_option maxHeartbeats 4000000 in
theorem texts_ok_yes {k a r p x : Nat} (s : ByteArray) (W : World) (VV : Vld k a r p x) (hl : s.size ≤ 100) {k2 a2 r2 p2 x2 : Nat} (V : Vld k2 a2 r2 p2 x2) (hn : textL k2 a2 r2 p2 x2 = s.data.toList) (ht : Env W) :
    Calls Tryd.prog 6 #[(.agg #[.int .i64 (k), .int .i64 (a), .int .i64 (r), .int .i64 (p), .int .u64 (x)]), .string s] W fun e W' => e = .returned (.bool true) ∧ Below W.heap.size W W' := by
  have ck : Box (∀ w, Ext W w → Calls Tryd.prog 10 #[] w fun e w' => e = .returned (.bool true) ∧ Ext w w') := ⟨fun w h => known_any w (ht.ext h)⟩
  have cp : Box (∀ w, Ext W w → _) := ⟨fun w h => parse_yes V hn w (by omega) (ht.ext h)⟩
  have cq : Box _ := ⟨fun w => rparse_yes V hn w (by omega)⟩
  have hk6 : k ≤ 6 ∧ a ≤ 100000 ∧ r ≤ 100000 ∧ p ≤ 100000 := by
    have v1 := VV.a2; have v2 := VV.r2
    rcases VV.k6 with h | h | h | h | h | h <;> omega
  have ct : Box (∀ w, Ext W w → _) := ⟨fun w h => gtext_any VV w (ht.ext h).tabs⟩
  have cr : Box _ := ⟨fun w => rtext_any (k := k) (a := a) (r := r) (p := p) (s := x) hk6.1 hk6.2.1 hk6.2.2.1 hk6.2.2.2 VV.s64 w⟩
  have hee : ((textB k a r p x).toList == (textB k a r p x).toList) = true := by simp
  have cv : Box _ := ⟨fun w => refValid_any k a r p x w⟩
  rw [vld_of VV] at cv
  generalize textB k a r p x = y at *
  have hX : Ext W (W.alloc (.cells #[.int .i64 (k), .int .i64 (a), .int .i64 (r), .int .i64 (p), .int .u64 (x)] 28)) := Ext.alloc (Below.refl _ _) _
  have hB := newblk W (.cells #[.int .i64 (k), .int .i64 (a), .int .i64 (r), .int .i64 (p), .int .u64 (x)] 28)
  have d1 : decide (100 < (s.size : Int)) = false := decide_eq_false (by omega)
  have d2 : decide (100 < s.size) = false := decide_eq_false (by omega)
  have hg := load_struct.2.2
  have hq := eqL k2 a2 r2 p2 x2
  clear ht hn VV hk6 V
  go_enter Tryd.func6, Tryd.ntmps6
  go_wp2_with (first
    | (go_at_call 19; (with_reducible refine (ct.out _ hX).mono ?_); rintro e w1 ⟨rfl, hb⟩; have hX := Ext.trans' hX hb; have hB := Ext.blk hb hB; (try have hP := Ext.blk hb hP); (try clear m0 m1 m2 m3 m4); obtain ⟨m0, m1, m2, m3, m4⟩ := blk5 hB)
    | (go_at_call 12; (with_reducible refine (cv.out _).mono ?_); rintro e w1 ⟨rfl, hb⟩; have hX := Ext.trans' hX hb; have hB := Ext.blk hb hB; (try have hP := Ext.blk hb hP); (try clear m0 m1 m2 m3 m4); obtain ⟨m0, m1, m2, m3, m4⟩ := blk5 hB)
    | (go_at_call 20; (with_reducible refine (cr.out _).mono ?_); rintro e w1 ⟨rfl, hb⟩; have hX := Ext.trans' hX hb; have hB := Ext.blk hb hB; (try have hP := Ext.blk hb hP); (try clear m0 m1 m2 m3 m4); obtain ⟨m0, m1, m2, m3, m4⟩ := blk5 hB)
    | (go_at_call 21; (with_reducible refine (cp.out _ hX).mono ?_); rintro e w1 ⟨rfl, hb⟩; have hX := Ext.trans' hX hb; have hB := Ext.blk hb hB; (try have hP := Ext.blk hb hP); (try clear m0 m1 m2 m3 m4); obtain ⟨m0, m1, m2, m3, m4⟩ := blk5 hB; have hX := Ext.alloc hX (.cells #[.int .i64 (k2), .int .i64 (a2), .int .i64 (r2), .int .i64 (p2), .int .u64 (x2)] 28); have hB := Ext.blk (Ext.alloc (Below.refl _ _) (.cells #[.int .i64 (k2), .int .i64 (a2), .int .i64 (r2), .int .i64 (p2), .int .u64 (x2)] 28)) hB; have hP := newblk w1 (.cells #[.int .i64 (k2), .int .i64 (a2), .int .i64 (r2), .int .i64 (p2), .int .u64 (x2)] 28))
    | (go_at_call 22; (with_reducible refine (cq.out _).mono ?_); rintro e w2 ⟨rfl, hb⟩; have hX := Ext.trans' hX hb; have hB := Ext.blk hb hB; (try have hP := Ext.blk hb hP); (try clear m0 m1 m2 m3 m4); obtain ⟨m0, m1, m2, m3, m4⟩ := blk5 hB; have hX := Ext.alloc hX (.cells #[.int .i64 (k2), .int .i64 (a2), .int .i64 (r2), .int .i64 (p2), .int .u64 (x2)] 28); have hP := Ext.blk (Ext.alloc (Below.refl _ _) (.cells #[.int .i64 (k2), .int .i64 (a2), .int .i64 (r2), .int .i64 (p2), .int .u64 (x2)] 28)) hP; obtain ⟨c0, c1, c2, c3, c4⟩ := blk5 hP)
    | (go_at_call 10; (with_reducible refine (ck.out _ hX).mono ?_); rintro e w1 ⟨rfl, hb⟩; have hX := Ext.trans' hX hb))
  go_ret
  exact ⟨rfl, hX⟩
end Go.Proofs.YthlnhemdhlkhfaaDoor
