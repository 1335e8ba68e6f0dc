import Derived.Test.YthlnhemdhlkhfaaDoorD6
/- The kinds of keys that the maker makes. -/
namespace Go.Proofs.YthlnhemdhlkhfaaDoor
open Go.RowKit

/-- How many numbers have been drawn ahead of a request. -/
def cntL (k p i : Nat) : Nat := if k = 3 then i else if k = 4 then i * (p + 1) else if k = 5 then i else if k = 6 then 2 * i else 0
/-- What the key's function does. -/
def KeyPost (M k a r p s i : Nat) (w : World) (e : Ending) (w' : World) : Prop :=
  e = .returned (.int .i64 (keyL k a r p s i)) ∧ MK M k a r p s (num s (cntL k p (i + 1))) w' ∧ Nx M w w'

theorem MK.drew {M k a r p s x : Nat} {w : World} (h : MK M k a r p s x w) : MK M k a r p s x w.drew := h
theorem Nx.drew (M : Nat) (w : World) : Nx M w w.drew := Nx.drewN (Nx.refl M w) 1
set_option maxHeartbeats 1000000 in
theorem mloop_any (M a r p s i : Nat) (w : World) (hM : MK M 1 a r p s (num s (cntL 1 p i)) w) (h0 : 0 < a) (ha : a ≤ 4096) (hi : i ≤ 4096) :
    Calls Tryd.prog 39 #[.pointer (some ⟨M, 0, none⟩), .int .i64 i] w (KeyPost M 1 a r p s i w) := by
  unfold KeyPost
  rw [show keyL 1 a r p s i = i % a from rfl]
  obtain ⟨n0, n1, n2, n3, n4, n5, nf⟩ := hM.cells
  have m0 : ((a : Int) == 0) = false := by rw [beq_eq_false_iff_ne]; omega
  have e1 := tmod_nat i a
  have f1 : (i : Int) % (a : Int) = ((i % a : Nat) : Int) := (Int.natCast_emod _ _).symm
  generalize i % a = z at *
  have hB := Box.mk hM
  clear hM
  go_enter Tryd.func39, Tryd.ntmps39
  go_wp2
  go_ret
  exact ⟨ret_int (by first | rfl | assumption | omega), hB.out, Nx.refl _ _⟩
set_option maxHeartbeats 1000000 in
theorem mscan_any (M a r p s i : Nat) (w : World) (hM : MK M 2 a r p s (num s (cntL 2 p i)) w) :
    Calls Tryd.prog 40 #[.pointer (some ⟨M, 0, none⟩), .int .i64 i] w (KeyPost M 2 a r p s i w) := by
  unfold KeyPost
  rw [show keyL 2 a r p s i = i from rfl]
  have hB := Box.mk hM
  clear hM
  go_enter Tryd.func40, Tryd.ntmps40
  go_wp2
  go_ret
  exact ⟨rfl, hB.out, Nx.refl _ _⟩
theorem small_one (s m f : Nat) (h : 0 < m) : smallL s m f 1 = num s f % m := by
  show min m (num s (f + 0) % m) = _
  rw [Nat.add_zero]; exact Nat.min_eq_right (Nat.le_of_lt (Nat.mod_lt _ h))
set_option maxHeartbeats 1000000 in
theorem meven_any (M a r p s i : Nat) (w : World) (hM : MK M 3 a r p s (num s (cntL 3 p i)) w) (h0 : 0 < a) (ha : a ≤ 4096) :
    Calls Tryd.prog 41 #[.pointer (some ⟨M, 0, none⟩), .int .i64 i] w (KeyPost M 3 a r p s i w) := by
  unfold KeyPost
  rw [show keyL 3 a r p s i = smallL s a i 1 from rfl, small_one _ _ _ h0]
  obtain ⟨n0, n1, n2, n3, n4, n5, nf⟩ := hM.cells
  have c1 := Box.mk (mnumber_any M 3 a r p s (num s i) a w hM (num_lt _ _) h0 (by omega))
  rw [← num_succ] at c1
  generalize num s i % a = z at *
  clear hM n0 n2 n3 n4 n5 nf
  go_enter Tryd.func41, Tryd.ntmps41
  go_wp2_with (first | (go_at_call 53; (with_reducible refine (c1.out).mono ?_); rintro e w1 ⟨rfl, hK1, hN1⟩))
  go_ret
  exact ⟨rfl, hK1, hN1⟩
set_option maxRecDepth 100000 in
set_option maxHeartbeats 2000000 in
theorem mskew_any (M a r p s i : Nat) (w : World) (hM : MK M 4 a r p s (num s (cntL 4 p i)) w) (h0 : 0 < a) (ha : a ≤ 4096) (hp : p ≤ 8) :
    Calls Tryd.prog 42 #[.pointer (some ⟨M, 0, none⟩), .int .i64 i] w (KeyPost M 4 a r p s i w) := by
  unfold KeyPost
  rw [show keyL 4 a r p s i = smallL s a (i * (p + 1)) (p + 1) from rfl]
  obtain ⟨n0, n1, n2, n3, n4, n5, nf⟩ := hM.cells
  rw [show cntL 4 p i = i * (p + 1) from rfl] at hM
  have c1 : Box (Calls Tryd.prog 54 #[.pointer (some ⟨M, 0, none⟩), .int .i64 ((p : Int) + 1), .int .i64 a] w.drew fun e w' => e = .returned (.int .i64 (smallL s a (i * (p + 1)) (p + 1))) ∧ MK M 4 a r p s (num s (cntL 4 p (i + 1))) w' ∧ Nx M w w') := ⟨by
    rw [show cntL 4 p (i + 1) = i * (p + 1) + (p + 1) from Nat.succ_mul _ _]
    exact (mleast_any M 4 a r p s (i * (p + 1)) (p + 1) a w.drew (MK.drew hM) (by omega) h0 (by omega)).mono fun e w' h => ⟨h.1, h.2.1, Nx.trans (Nx.drew M w) h.2.2⟩⟩
  generalize smallL s a (i * (p + 1)) (p + 1) = z at *
  generalize num s (cntL 4 p (i + 1)) = y at *
  have u1 : IntKind.i64.wrap ((p : Int) + 1) = (p : Int) + 1 := by rw [IntKind.wrap_i64]; omega
  clear hM n0 n2 n4 n5 nf
  go_enter Tryd.func42, Tryd.ntmps42
  go_wp2
  go_region_held3 (fun w' => w'.cell? ⟨M, 1, none⟩ = some (.int .i64 a) ∧ w'.cell? ⟨M, 3, none⟩ = some (.int .i64 p))
    (first
      | go_keep
      | (exact ⟨n1, n3⟩))
    (first
      | (go_at_call 54; (with_reducible refine (c1.out).mono ?_); rintro e w1 ⟨rfl, hK1, hN1⟩; (try clear n1 n3); obtain ⟨-, n1, -, n3, -⟩ := hK1.cells))
  go_wp2
  go_ret
  exact ⟨rfl, hK1, hN1⟩
set_option maxRecDepth 100000 in
set_option maxHeartbeats 2000000 in
theorem mphases_any (M a r p s i : Nat) (w : World) (hM : MK M 5 a r p s (num s (cntL 5 p i)) w) (ha : a ≤ 4096) (hi : i < r) (hr : r ≤ 4096) (hp0 : 0 < p) (hp : p ≤ 64) (hpa : p ≤ a) :
    Calls Tryd.prog 43 #[.pointer (some ⟨M, 0, none⟩), .int .i64 i] w (KeyPost M 5 a r p s i w) := by
  unfold KeyPost
  have hwp : 0 < a / p := Nat.div_pos hpa hp0
  have hwl : a / p ≤ a := Nat.div_le_self _ _
  rw [show keyL 5 a r p s i = i * p / r * (a / p) + smallL s (a / p) i 1 from rfl, small_one _ _ _ hwp]
  rw [show cntL 5 p i = i from rfl] at hM
  rw [show cntL 5 p (i + 1) = i + 1 from rfl]
  have c0 : Box (∀ w, MK M 5 a r p s (num s i) w → Calls Tryd.prog 53 #[.pointer (some ⟨M, 0, none⟩), .int .i64 ((a / p : Nat) : Int)] w fun e w' => e = .returned (.int .i64 ((num s i % (a / p) : Nat) : Int)) ∧ MK M 5 a r p s (num s (i + 1)) w' ∧ Nx M w w') := ⟨fun w h => by
    have := mnumber_any M 5 a r p s (num s i) (a / p) w h (num_lt _ _) hwp (by omega)
    rw [← num_succ] at this
    exact this⟩
  have hB := Box.mk hM
  obtain ⟨n0, n1, n2, n3, n4, n5, nf⟩ := hM.cells
  have m0 : ((p : Int) == 0) = false := by rw [beq_eq_false_iff_ne]; omega
  have m1 : ((r : Int) == 0) = false := by rw [beq_eq_false_iff_ne]; omega
  have hr0 : ¬ r = 0 := by omega
  have e1 := tdiv_nat a p
  have hm : i * p ≤ 262144 := Nat.le_trans (Nat.mul_le_mul (show i ≤ 4096 by omega) (show p ≤ 64 by omega)) (by decide)
  have e2 : (i : Int) * (p : Int) = ((i * p : Nat) : Int) := (Int.natCast_mul _ _).symm
  have e3 := tdiv_nat (i * p) r
  have hd : i * p / r ≤ 262144 := Nat.le_trans (Nat.div_le_self _ _) hm
  have hm2 : i * p / r * (a / p) ≤ 1073741824 := Nat.le_trans (Nat.mul_le_mul hd (show a / p ≤ 4096 by omega)) (by decide)
  have e4 : ((i * p / r : Nat) : Int) * ((a / p : Nat) : Int) = ((i * p / r * (a / p) : Nat) : Int) := (Int.natCast_mul _ _).symm
  have hq : num s i % (a / p) < a / p := Nat.mod_lt _ hwp
  generalize num s i % (a / p) = q at *
  generalize i * p / r * (a / p) = g at *
  generalize i * p / r = f at *
  generalize i * p = h at *
  generalize a / p = v at *
  generalize num s (i + 1) = y at *
  generalize num s i = x at *
  have x1 : IntKind.i64.wrap (h : Int) = h := by rw [IntKind.wrap_i64]; omega
  have x2 : IntKind.i64.wrap (f : Int) = f := by rw [IntKind.wrap_i64]; omega
  have x3 : IntKind.i64.wrap (g : Int) = g := by rw [IntKind.wrap_i64]; omega
  have x4 : IntKind.i64.wrap ((g : Int) + (q : Int)) = (g : Int) + (q : Int) := by rw [IntKind.wrap_i64]; omega
  have x5 : IntKind.i64.wrap (v : Int) = v := by rw [IntKind.wrap_i64]; omega
  clear hM n0 n2 n4 n5 nf hm hd hm2
  go_enter Tryd.func43, Tryd.ntmps43
  go_wp2
  go_quiet (fail)
  go_wp2
  have hK : MK M 5 a r p s x (w.drewN nq) := hB.out
  have hN : Box (Nx M w (w.drewN nq)) := ⟨Nx.drewN (Nx.refl _ _) _⟩
  clear n1 n3
  generalize w.drewN nq = w2 at *
  have c1 := Box.mk (c0.out w2.drew (MK.drew hK))
  obtain ⟨-, -, n2, n3, -, -, -⟩ := hK.cells
  clear c0 hK
  go_region_held3 (fun w' => w'.cell? ⟨M, 2, none⟩ = some (.int .i64 r) ∧ w'.cell? ⟨M, 3, none⟩ = some (.int .i64 p))
    (first
      | go_keep
      | (exact ⟨n2, n3⟩))
    (first
      | (go_at_call 53; (with_reducible refine (c1.out).mono ?_); rintro e w1 ⟨rfl, hK1, hN1⟩; (try clear n2 n3); obtain ⟨-, -, n2, n3, -⟩ := hK1.cells))
  go_wp2
  go_ret
  exact ⟨ret_int (by omega), hK1, hN.out.trans ((Nx.drew _ _).trans hN1)⟩
set_option maxRecDepth 100000 in
set_option maxHeartbeats 2000000 in
theorem mmixed_any (M a r p s i : Nat) (w : World) (hM : MK M 6 a r p s (num s (cntL 6 p i)) w) (ha1 : 2 ≤ a) (ha2 : a ≤ 4096) (hi : i ≤ 4096) (hp0 : 0 < p) (hp : p ≤ 4096) :
    Calls Tryd.prog 44 #[.pointer (some ⟨M, 0, none⟩), .int .i64 i] w (KeyPost M 6 a r p s i w) := by
  unfold KeyPost
  rw [show keyL 6 a r p s i = (if i / p % 2 = 0 then smallL s (a / 2) (2 * i) 2 else a / 2 + (i / p / 2 * p + i % p) % (a - a / 2)) from rfl]
  rw [show cntL 6 p i = 2 * i from rfl] at hM
  rw [show cntL 6 p (i + 1) = 2 * (i + 1) from rfl]
  have hB := Box.mk hM
  obtain ⟨n0, n1, n2, n3, n4, n5, nf⟩ := hM.cells
  have m0 : ((p : Int) == 0) = false := by rw [beq_eq_false_iff_ne]; omega
  have e1 : (a : Int).tdiv 2 = ((a / 2 : Nat) : Int) := tdiv_nat a 2
  have e2 := tdiv_nat i p
  have e3 : ((i / p : Nat) : Int).tmod 2 = ((i / p % 2 : Nat) : Int) := tmod_nat (i / p) 2
  have e4 : ((i / p : Nat) : Int).tdiv 2 = ((i / p / 2 : Nat) : Int) := tdiv_nat (i / p) 2
  have e5 := tmod_nat i p
  have f5 : (i : Int) % (p : Int) = ((i % p : Nat) : Int) := (Int.natCast_emod _ _).symm
  have hb : i / p ≤ i := Nat.div_le_self _ _
  have hb3 : i / p / 2 ≤ 4096 := Nat.le_trans (Nat.div_le_self _ _) (Nat.le_trans hb hi)
  have hb2 : i / p / 2 * p ≤ i := Nat.le_trans (Nat.mul_le_mul_right p (Nat.div_le_self (i / p) 2)) (Nat.div_mul_le_self i p)
  have e6 : ((i / p / 2 : Nat) : Int) * (p : Int) = ((i / p / 2 * p : Nat) : Int) := (Int.natCast_mul _ _).symm
  have hr : i % p ≤ i := Nat.mod_le _ _
  have e7 : ((i / p / 2 * p : Nat) : Int) + ((i % p : Nat) : Int) = ((i / p / 2 * p + i % p : Nat) : Int) := (Int.natCast_add _ _).symm
  have hh : 0 < a / 2 ∧ a / 2 < a := by omega
  have e8 : (a : Int) - ((a / 2 : Nat) : Int) = ((a - a / 2 : Nat) : Int) := by omega
  have e9 := tmod_nat (i / p / 2 * p + i % p) (a - a / 2)
  have f9 : ((i / p / 2 * p + i % p : Nat) : Int) % ((a - a / 2 : Nat) : Int) = (((i / p / 2 * p + i % p) % (a - a / 2) : Nat) : Int) := (Int.natCast_emod _ _).symm
  have hq : (i / p / 2 * p + i % p) % (a - a / 2) < a - a / 2 := Nat.mod_lt _ (by omega)
  have c0 : Box (∀ w, MK M 6 a r p s (num s (2 * i)) w → Calls Tryd.prog 54 #[.pointer (some ⟨M, 0, none⟩), .int .i64 2, .int .i64 ((a / 2 : Nat) : Int)] w fun e w' => e = .returned (.int .i64 (smallL s (a / 2) (2 * i) 2)) ∧ MK M 6 a r p s (num s (2 * (i + 1))) w' ∧ Nx M w w') := ⟨fun w h => mleast_any M 6 a r p s (2 * i) 2 (a / 2) w h (by decide) hh.1 (by omega)⟩
  have hv : a - a / 2 ≤ 4096 ∧ 0 < a - a / 2 := by omega
  generalize smallL s (a / 2) (2 * i) 2 = sm at *
  generalize num s (2 * (i + 1)) = y at *
  generalize num s (2 * i) = x at *
  generalize (i / p / 2 * p + i % p) % (a - a / 2) = q at *
  generalize i / p / 2 * p + i % p = g at *
  have hg : g ≤ 8192 := by omega
  generalize i / p / 2 * p = h at *
  generalize i / p / 2 = b2 at *
  have hz : i / p % 2 < 2 := Nat.mod_lt _ (by decide)
  generalize i / p % 2 = z at *
  generalize i / p = b at *
  generalize i % p = u at *
  generalize a - a / 2 = v at *
  generalize a / 2 = d at *
  have m1 : ((v : Int) == 0) = false := by rw [beq_eq_false_iff_ne]; omega
  have hv0 : 0 < v := hv.2
  have x1 : IntKind.i64.wrap (h : Int) = h := by rw [IntKind.wrap_i64]; omega
  have x2 : IntKind.i64.wrap (b : Int) = b := by rw [IntKind.wrap_i64]; omega
  have x3 : IntKind.i64.wrap (b2 : Int) = b2 := by rw [IntKind.wrap_i64]; omega
  have x4 : IntKind.i64.wrap (g : Int) = g := by rw [IntKind.wrap_i64]; omega
  have x5 : IntKind.i64.wrap (d : Int) = d := by rw [IntKind.wrap_i64]; omega
  have x6 : IntKind.i64.wrap (v : Int) = v := by rw [IntKind.wrap_i64]; omega
  have x7 : IntKind.i64.wrap (u : Int) = u := by rw [IntKind.wrap_i64]; omega
  have x8 : IntKind.i64.wrap (q : Int) = q := by rw [IntKind.wrap_i64]; omega
  have x9 : IntKind.i64.wrap ((d : Int) + (q : Int)) = (d : Int) + (q : Int) := by rw [IntKind.wrap_i64]; omega
  clear hM n0 n2 n4 n5 nf
  by_cases hzz : z = 0
  · rw [if_pos hzz]
    subst hzz
    clear hb hb2 hr hh hq hv hg hb3
    go_enter Tryd.func44, Tryd.ntmps44
    go_wp2
    go_quiet (fail)
    have hK : MK M 6 a r p s x (w.drewN nq) := hB.out
    have hN : Box (Nx M w (w.drewN nq)) := ⟨Nx.drewN (Nx.refl _ _) _⟩
    clear n1 n3
    generalize w.drewN nq = w2 at *
    have c1 := Box.mk (c0.out w2 hK)
    clear c0 hK
    go_wp2_with (first | (go_at_call 54; (with_reducible refine (c1.out).mono ?_); rintro e w1 ⟨rfl, hK1, hN1⟩))
    go_ret
    exact ⟨rfl, hK1, hN.out.trans hN1⟩
  · rw [if_neg hzz]
    obtain rfl : z = 1 := by omega
    clear hb hb2 hr hh hq hv hg hb3 hzz
    go_enter Tryd.func44, Tryd.ntmps44
    go_wp2
    go_quiet (fail)
    have hK : MK M 6 a r p s x (w.drewN nq) := hB.out
    have hN : Box (Nx M w (w.drewN nq)) := ⟨Nx.drewN (Nx.refl _ _) _⟩
    clear n1 n3
    generalize w.drewN nq = w2 at *
    have c1 := Box.mk (c0.out w2 hK)
    clear c0 hK
    go_wp2_with (first | (go_at_call 54; (with_reducible refine (c1.out).mono ?_); rintro e w1 ⟨rfl, hK1, hN1⟩; obtain ⟨-, n1, -, n3, -⟩ := hK1.cells))
    have hK2 := Box.mk hK1
    clear hK1
    go_quiet (fail)
    go_wp2
    go_ret
    exact ⟨ret_int (by omega), hK2.out, hN.out.trans (Nx.drewN hN1 _)⟩
/-- The function of each kind. -/
def kindF (k : Nat) : Nat := if k = 1 then 39 else if k = 2 then 40 else if k = 3 then 41 else if k = 4 then 42 else if k = 5 then 43 else 44
theorem mkey_any {k a r p s : Nat} (V : Vld k a r p s) (M i : Nat) (hi : i < r) (w : World) (hM : MK M k a r p s (num s (cntL k p i)) w) :
    Calls Tryd.prog (kindF k) #[.pointer (some ⟨M, 0, none⟩), .int .i64 i] w (KeyPost M k a r p s i w) := by
  have h1 := V.s64; have h2 := V.a1; have h3 := V.a2; have h4 := V.r2
  rcases V.k6 with ⟨rfl, h⟩ | ⟨rfl, h⟩ | ⟨rfl, h⟩ | ⟨rfl, h⟩ | ⟨rfl, h⟩ | ⟨rfl, h⟩
  · exact mloop_any M a r p s i w hM (by omega) h3 (by omega)
  · exact mscan_any M a r p s i w hM
  · exact meven_any M a r p s i w hM (by omega) h3
  · exact mskew_any M a r p s i w hM (by omega) h3 (by omega)
  · exact mphases_any M a r p s i w hM h3 hi h4 (by omega) (by omega) (by omega)
  · exact mmixed_any M a r p s i w hM (by omega) h3 (by omega) (by omega) (by omega)
end Go.Proofs.YthlnhemdhlkhfaaDoor
