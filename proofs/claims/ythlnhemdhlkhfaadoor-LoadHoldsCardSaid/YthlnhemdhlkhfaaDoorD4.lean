import Derived.Test.YthlnhemdhlkhfaaDoorD3
/- The key of each request of the reference's workload. -/
namespace Go.Proofs.YthlnhemdhlkhfaaDoor
open Go.RowKit

/-- The key of a request. -/
def keyL (k a r p s i : Nat) : Nat :=
  if k = 1 then i % a else if k = 2 then i else if k = 3 then smallL s a i 1 else if k = 4 then smallL s a (i * (p + 1)) (p + 1)
  else if k = 5 then i * p / r * (a / p) + smallL s (a / p) i 1
  else if i / p % 2 = 0 then smallL s (a / 2) (2 * i) 2 else a / 2 + (i / p / 2 * p + i % p) % (a - a / 2)
theorem quietL {P : Program} {f : FuncId} {args : Array Value} {w : World} {n : Nat} {v : Value} (h : Calls P f args (w.drewN n) fun e w' => e = .returned v ∧ w.drewN n = w') :
    Calls P f args (w.drewN n) fun e w'' => e = .returned v ∧ ∃ m, w'' = w.drewN m :=
  h.mono fun _ _ ⟨he, hm⟩ => ⟨he, n, hm.symm⟩
theorem sm_int {s f t m : Nat} {x y z : Int} (w : World) (hs : s < 18446744073709551616) (hf : f ≤ 1000000) (ht : t ≤ 1000000) (h0 : 0 < m) (hm : m ≤ 1000000) (hx : x = (f : Int)) (hy : y = (t : Int)) (hz : z = (m : Int)) :
    Calls Tryd.prog 45 #[.int .u64 s, .int .i64 x, .int .i64 y, .int .i64 z] w fun e w' => e = .returned (.int .i64 (smallL s m f t)) ∧ w = w' := by
  subst hx; subst hy; subst hz; exact refSmall_any s f t m w hs hf ht h0 hm
set_option maxHeartbeats 2000000 in
theorem refKey_1 (a r p s i : Nat) (w : World) (ha : 0 < a) (ha2 : a ≤ 4096) (hi : i ≤ 4096) : Calls Tryd.prog 28 #[(.agg #[.int .i64 (1), .int .i64 (a), .int .i64 (r), .int .i64 (p), .int .u64 (s)]), .int .i64 i] w fun e w' => e = .returned (.int .i64 (keyL 1 a r p s i)) ∧ Ext w w' := by
  rw [show keyL 1 a r p s i = i % a from rfl]
  have m0 : ((a : Int) == 0) = false := by rw [beq_eq_false_iff_ne]; omega
  have e1 := tmod_nat i a
  have hx : Ext w (w.alloc (.cells #[.int .i64 (1), .int .i64 (a), .int .i64 (r), .int .i64 (p), .int .u64 (s)] 28)) := Ext.alloc (Below.refl _ _) _
  generalize i % a = q at *
  go_enter Tryd.func28, Tryd.ntmps28
  go_wp2
  go_ret
  exact ⟨ret_int (by first | rfl | assumption | omega), hx⟩
set_option maxHeartbeats 2000000 in
theorem refKey_2 (a r p s i : Nat) (w : World) : Calls Tryd.prog 28 #[(.agg #[.int .i64 (2), .int .i64 (a), .int .i64 (r), .int .i64 (p), .int .u64 (s)]), .int .i64 i] w fun e w' => e = .returned (.int .i64 (keyL 2 a r p s i)) ∧ Ext w w' := by
  rw [show keyL 2 a r p s i = i from rfl]
  have hx : Ext w (w.alloc (.cells #[.int .i64 (2), .int .i64 (a), .int .i64 (r), .int .i64 (p), .int .u64 (s)] 28)) := Ext.alloc (Below.refl _ _) _
  go_enter Tryd.func28, Tryd.ntmps28
  go_wp2
  go_ret
  exact ⟨rfl, hx⟩
set_option maxHeartbeats 2000000 in
theorem refKey_3 (a r p s i : Nat) (w : World) (hs : s < 18446744073709551616) (ha : 0 < a) (ha2 : a ≤ 4096) (hi : i ≤ 4096) : Calls Tryd.prog 28 #[(.agg #[.int .i64 (3), .int .i64 (a), .int .i64 (r), .int .i64 (p), .int .u64 (s)]), .int .i64 i] w fun e w' => e = .returned (.int .i64 (keyL 3 a r p s i)) ∧ Ext w w' := by
  rw [show keyL 3 a r p s i = smallL s a i 1 from rfl]
  have hx : Ext w (w.alloc (.cells #[.int .i64 (3), .int .i64 (a), .int .i64 (r), .int .i64 (p), .int .u64 (s)] 28)) := Ext.alloc (Below.refl _ _) _
  have c1 : Box _ := ⟨fun w => sm_int (s := s) (f := i) (t := 1) (m := a) (y := 1) w hs (by omega) (by omega) ha (by omega) rfl rfl rfl⟩
  generalize smallL s a i 1 = q at *
  clear hs ha ha2 hi
  go_enter Tryd.func28, Tryd.ntmps28
  go_wp2_with (first | (go_at_call 45; (with_reducible refine (c1.out _).mono ?_); rintro e w' ⟨rfl, rfl⟩))
  go_ret
  exact ⟨rfl, hx⟩
set_option maxHeartbeats 2000000 in
theorem refKey_4 (a r p s i : Nat) (w : World) (hs : s < 18446744073709551616) (ha : 0 < a) (ha2 : a ≤ 4096) (hi : i ≤ 4096) (hp : p ≤ 8) : Calls Tryd.prog 28 #[(.agg #[.int .i64 (4), .int .i64 (a), .int .i64 (r), .int .i64 (p), .int .u64 (s)]), .int .i64 i] w fun e w' => e = .returned (.int .i64 (keyL 4 a r p s i)) ∧ Ext w w' := by
  rw [show keyL 4 a r p s i = smallL s a (i * (p + 1)) (p + 1) from rfl]
  have hx : Ext w (w.alloc (.cells #[.int .i64 (4), .int .i64 (a), .int .i64 (r), .int .i64 (p), .int .u64 (s)] 28)) := Ext.alloc (Below.refl _ _) _
  have hm : i * (p + 1) ≤ 4096 * 9 := Nat.mul_le_mul hi (by omega)
  have e1 : (i : Int) * ((p : Int) + 1) = ((i * (p + 1) : Nat) : Int) := by rw [Int.natCast_mul]; rfl
  have c1 : Box _ := ⟨fun w => sm_int (s := s) (f := i * (p + 1)) (t := p + 1) (m := a) (y := (p : Int) + 1) w hs (by omega) (by omega) ha (by omega) rfl rfl rfl⟩
  generalize smallL s a (i * (p + 1)) (p + 1) = q at *
  generalize i * (p + 1) = f at *
  clear hs ha ha2
  go_enter Tryd.func28, Tryd.ntmps28
  go_wp2_with (first | (go_at_call 45; (with_reducible refine (c1.out _).mono ?_); rintro e w' ⟨rfl, rfl⟩))
  go_ret
  exact ⟨rfl, hx⟩
set_option maxHeartbeats 2000000 in
theorem refKey_5 (a r p s i : Nat) (w : World) (hs : s < 18446744073709551616) (ha2 : a ≤ 4096) (hi : i < r) (hr : r ≤ 4096) (hp0 : 0 < p) (hp : p ≤ 64) (hpa : p ≤ a) : Calls Tryd.prog 28 #[(.agg #[.int .i64 (5), .int .i64 (a), .int .i64 (r), .int .i64 (p), .int .u64 (s)]), .int .i64 i] w fun e w' => e = .returned (.int .i64 (keyL 5 a r p s i)) ∧ Ext w w' := by
  rw [show keyL 5 a r p s i = i * p / r * (a / p) + smallL s (a / p) i 1 from rfl]
  have hx : Ext w (w.alloc (.cells #[.int .i64 (5), .int .i64 (a), .int .i64 (r), .int .i64 (p), .int .u64 (s)] 28)) := Ext.alloc (Below.refl _ _) _
  have hwp : 0 < a / p := Nat.div_pos hpa hp0
  have hwl : a / p ≤ a := Nat.div_le_self _ _
  have m0 : ((p : Int) == 0) = false := by rw [beq_eq_false_iff_ne]; omega
  have m1 : ((r : Int) == 0) = false := by rw [beq_eq_false_iff_ne]; omega
  have e1 := tdiv_nat a p
  have hm : i * p ≤ 262144 := Nat.le_trans (Nat.mul_le_mul (show i ≤ 4096 by omega) (show p ≤ 64 by omega)) (by decide)
  have e2 : (i : Int) * (p : Int) = ((i * p : Nat) : Int) := (Int.natCast_mul _ _).symm
  have e3 := tdiv_nat (i * p) r
  have hd : i * p / r ≤ 262144 := Nat.le_trans (Nat.div_le_self _ _) hm
  have hm2 : i * p / r * (a / p) ≤ 1073741824 := Nat.le_trans (Nat.mul_le_mul hd (show a / p ≤ 4096 by omega)) (by decide)
  have e4 : ((i * p / r : Nat) : Int) * ((a / p : Nat) : Int) = ((i * p / r * (a / p) : Nat) : Int) := (Int.natCast_mul _ _).symm
  have hl := smallL_le s (a / p) i 1
  have c1 : Box _ := ⟨fun w => sm_int (s := s) (f := i) (t := 1) (m := a / p) (y := 1) (z := ((a / p : Nat) : Int)) w hs (by omega) (by omega) hwp (by omega) rfl rfl rfl⟩
  generalize smallL s (a / p) i 1 = q at *
  generalize i * p / r * (a / p) = g at *
  generalize i * p / r = f at *
  generalize i * p = h at *
  generalize a / p = v at *
  clear hs
  have hq : q ≤ 4096 := by omega
  have x1 : IntKind.i64.wrap (h : Int) = h := by rw [IntKind.wrap_i64]; omega
  have x2 : IntKind.i64.wrap (f : Int) = f := by rw [IntKind.wrap_i64]; omega
  have x3 : IntKind.i64.wrap (g : Int) = g := by rw [IntKind.wrap_i64]; omega
  have x4 : IntKind.i64.wrap ((g : Int) + (q : Int)) = (g : Int) + (q : Int) := by rw [IntKind.wrap_i64]; omega
  have u1 : Box _ := Box.mk hx
  clear hx
  go_enter Tryd.func28, Tryd.ntmps28
  go_wp2
  go_quiet ((go_at_call 45; exact quietL (c1.out _)))
  go_wp2
  go_ret
  exact ⟨ret_int (by omega), Ext.drewN u1.out _⟩
set_option maxHeartbeats 2000000 in
theorem refKey_6 (a r p s i : Nat) (w : World) (hs : s < 18446744073709551616) (ha1 : 2 ≤ a) (ha2 : a ≤ 4096) (hi : i ≤ 4096) (hp0 : 0 < p) (hp : p ≤ 4096) : Calls Tryd.prog 28 #[(.agg #[.int .i64 (6), .int .i64 (a), .int .i64 (r), .int .i64 (p), .int .u64 (s)]), .int .i64 i] w fun e w' => e = .returned (.int .i64 (keyL 6 a r p s i)) ∧ Ext w w' := by
  rw [show keyL 6 a r p s i = (if i / p % 2 = 0 then smallL s (a / 2) (2 * i) 2 else a / 2 + (i / p / 2 * p + i % p) % (a - a / 2)) from rfl]
  have hx : Ext w (w.alloc (.cells #[.int .i64 (6), .int .i64 (a), .int .i64 (r), .int .i64 (p), .int .u64 (s)] 28)) := Ext.alloc (Below.refl _ _) _
  have m0 : ((p : Int) == 0) = false := by rw [beq_eq_false_iff_ne]; omega
  have e1 : (a : Int).tdiv 2 = ((a / 2 : Nat) : Int) := tdiv_nat a 2
  have e2 := tdiv_nat i p
  have e3 : ((i / p : Nat) : Int).tmod 2 = ((i / p % 2 : Nat) : Int) := tmod_nat (i / p) 2
  have e4 : ((i / p : Nat) : Int).tdiv 2 = ((i / p / 2 : Nat) : Int) := tdiv_nat (i / p) 2
  have e5 := tmod_nat i p
  have f5 : (i : Int) % (p : Int) = ((i % p : Nat) : Int) := (Int.natCast_emod _ _).symm
  have hb : i / p ≤ i := Nat.div_le_self _ _
  have hb3 : i / p / 2 ≤ 4096 := Nat.le_trans (Nat.div_le_self _ _) (Nat.le_trans hb hi)
  have hb2 : i / p / 2 * p ≤ i := Nat.le_trans (Nat.mul_le_mul_right p (Nat.div_le_self (i / p) 2)) (Nat.div_mul_le_self i p)
  have e6 : ((i / p / 2 : Nat) : Int) * (p : Int) = ((i / p / 2 * p : Nat) : Int) := (Int.natCast_mul _ _).symm
  have hr : i % p ≤ i := Nat.mod_le _ _
  have e7 : ((i / p / 2 * p : Nat) : Int) + ((i % p : Nat) : Int) = ((i / p / 2 * p + i % p : Nat) : Int) := (Int.natCast_add _ _).symm
  have hh : 0 < a / 2 ∧ a / 2 < a := by omega
  have e8 : (a : Int) - ((a / 2 : Nat) : Int) = ((a - a / 2 : Nat) : Int) := by omega
  have e9 := tmod_nat (i / p / 2 * p + i % p) (a - a / 2)
  have f9 : ((i / p / 2 * p + i % p : Nat) : Int) % ((a - a / 2 : Nat) : Int) = (((i / p / 2 * p + i % p) % (a - a / 2) : Nat) : Int) := (Int.natCast_emod _ _).symm
  have hq : (i / p / 2 * p + i % p) % (a - a / 2) < a - a / 2 := Nat.mod_lt _ (by omega)
  have c1 : Box _ := ⟨fun w => sm_int (s := s) (f := 2 * i) (t := 2) (m := a / 2) (x := 2 * (i : Int)) (y := 2) w hs (by omega) (by omega) (by omega) (by omega) (by omega) rfl rfl⟩
  have hv : a - a / 2 ≤ 4096 ∧ 0 < a - a / 2 := by omega
  have hi2 : IntKind.i64.wrap ((2 * i : Nat) : Int) = ((2 * i : Nat) : Int) := by rw [IntKind.wrap_i64]; omega
  generalize smallL s (a / 2) (2 * i) 2 = sm at *
  generalize (i / p / 2 * p + i % p) % (a - a / 2) = q at *
  generalize i / p / 2 * p + i % p = g at *
  have hg : g ≤ 8192 := by omega
  generalize i / p / 2 * p = h at *
  generalize i / p / 2 = b2 at *
  have hz : i / p % 2 < 2 := Nat.mod_lt _ (by decide)
  generalize i / p % 2 = z at *
  generalize i / p = b at *
  generalize i % p = u at *
  generalize a - a / 2 = v at *
  generalize a / 2 = d at *
  have m1 : ((v : Int) == 0) = false := by rw [beq_eq_false_iff_ne]; omega
  have hv0 : 0 < v := hv.2
  have x1 : IntKind.i64.wrap (h : Int) = h := by rw [IntKind.wrap_i64]; omega
  have x2 : IntKind.i64.wrap (b : Int) = b := by rw [IntKind.wrap_i64]; omega
  have x3 : IntKind.i64.wrap (b2 : Int) = b2 := by rw [IntKind.wrap_i64]; omega
  have x4 : IntKind.i64.wrap (g : Int) = g := by rw [IntKind.wrap_i64]; omega
  have x5 : IntKind.i64.wrap (d : Int) = d := by rw [IntKind.wrap_i64]; omega
  have x6 : IntKind.i64.wrap (v : Int) = v := by rw [IntKind.wrap_i64]; omega
  have x7 : IntKind.i64.wrap (u : Int) = u := by rw [IntKind.wrap_i64]; omega
  have x8 : IntKind.i64.wrap (q : Int) = q := by rw [IntKind.wrap_i64]; omega
  have x9 : IntKind.i64.wrap ((d : Int) + (q : Int)) = (d : Int) + (q : Int) := by rw [IntKind.wrap_i64]; omega
  have u1 := Box.mk hx
  clear hx hs
  by_cases hzz : z = 0
  · rw [if_pos hzz]
    subst hzz
    clear hb hb2 hr hh hq hv hg hb3
    go_enter Tryd.func28, Tryd.ntmps28
    go_wp2
    go_quiet (fail)
    go_wp2_with (first | (go_at_call 45; (with_reducible refine (c1.out _).mono ?_); rintro e w' ⟨rfl, rfl⟩))
    go_ret
    exact ⟨rfl, Ext.drewN u1.out _⟩
  · rw [if_neg hzz]
    obtain rfl : z = 1 := by omega
    clear hb hb2 hr hh hq hv hg hb3 hzz
    go_enter Tryd.func28, Tryd.ntmps28
    go_wp2
    go_quiet (fail)
    go_wp2
    go_quiet (fail)
    go_wp2
    go_ret
    exact ⟨ret_int (by omega), by first | exact Ext.drewN u1.out _ | exact Ext.drewN (Ext.drewN u1.out _) _⟩
/-- Which numbers make a valid workload. -/
structure Vld (k a r p s : Nat) : Prop where
  s64 : s < 18446744073709551616
  a1 : 1 ≤ a
  a2 : a ≤ 4096
  r2 : r ≤ 4096
  k6 : (k = 1 ∧ p = 0 ∧ s = 0) ∨ (k = 2 ∧ p = 0 ∧ s = 0 ∧ r ≤ a) ∨ (k = 3 ∧ p = 0) ∨ (k = 4 ∧ 1 ≤ p ∧ p ≤ 8) ∨ (k = 5 ∧ 1 ≤ p ∧ p ≤ 64 ∧ p ≤ a) ∨ (k = 6 ∧ 1 ≤ p ∧ p ≤ 4096 ∧ 2 ≤ a)
theorem refKey_any {k a r p s : Nat} (V : Vld k a r p s) (i : Nat) (hi : i < r) (w : World) : Calls Tryd.prog 28 #[(.agg #[.int .i64 (k), .int .i64 (a), .int .i64 (r), .int .i64 (p), .int .u64 (s)]), .int .i64 i] w fun e w' => e = .returned (.int .i64 (keyL k a r p s i)) ∧ Ext w w' := by
  have h1 := V.s64; have h2 := V.a1; have h3 := V.a2; have h4 := V.r2
  rcases V.k6 with ⟨rfl, h⟩ | ⟨rfl, h⟩ | ⟨rfl, h⟩ | ⟨rfl, h⟩ | ⟨rfl, h⟩ | ⟨rfl, h⟩
  · exact refKey_1 a r p s i w (by omega) h3 (by omega)
  · exact refKey_2 a r p s i w
  · exact refKey_3 a r p s i w h1 (by omega) h3 (by omega)
  · exact refKey_4 a r p s i w h1 (by omega) h3 (by omega) (by omega)
  · exact refKey_5 a r p s i w h1 h3 hi h4 (by omega) (by omega) (by omega)
  · exact refKey_6 a r p s i w h1 (by omega) h3 (by omega) (by omega) (by omega)
end Go.Proofs.YthlnhemdhlkhfaaDoor
