import Derived.Test.YtbnmnkmjokcmfaaDoorSO
/- The walk of SeasonHolds. -/
namespace Go.Proofs.YtbnmnkmjokcmfaaDoor
open Go.RowKit
theorem smB_iff {x y : Int} (h : smB x y = true) : (-200 ≤ x ∧ x ≤ 200) ∧ (-200 ≤ y ∧ y ≤ 200) := by
  unfold smB at h
  simp only [Bool.and_eq_true, decide_eq_true_eq] at h
  omega
/-- multiplied by -i, n times -/
def rot (x y : Int) : Nat → Int × Int
  | 0 => (x, y)
  | n + 1 => ((rot x y n).2, -(rot x y n).1)
theorem rot_lim {x y : Int} (hx : Lim (2 ^ 12) x) (hy : Lim (2 ^ 12) y) : ∀ n, Lim (2 ^ 12) (rot x y n).1 ∧ Lim (2 ^ 12) (rot x y n).2
  | 0 => ⟨hx, hy⟩
  | n + 1 => by
    have h := rot_lim hx hy n
    unfold rot
    unfold Lim at *
    simp only
    omega
def sS (u v : Nat → Int) : Nat → Int
  | 0 => 0
  | n + 1 => sS u v n + (u n * u n + v n * v n)
theorem sq12 {x : Int} (hx : Lim (2 ^ 12) x) : 0 ≤ x * x ∧ x * x ≤ 2 ^ 24 := by
  unfold Lim at *
  have h1 := pb (2 ^ 12) (2 ^ 12) (a := x) (c := x) (by simpa using hx) (by simpa using hx)
  have h3 : 0 ≤ x * x := by rcases Int.le_total 0 x with h | h; exact Int.mul_nonneg h h; exact Int.mul_nonneg_of_nonpos_of_nonpos h h
  simp at h1
  omega
theorem sS_lim {u v : Nat → Int} (h : ∀ j, j < 4 → Lim (2 ^ 12) (u j) ∧ Lim (2 ^ 12) (v j)) : ∀ n, n ≤ 4 → 0 ≤ sS u v n ∧ sS u v n ≤ n * 2 ^ 25
  | 0, _ => by unfold sS; omega
  | n + 1, hn => by
    have h1 := sS_lim h n (by omega)
    have h2 := sq12 (h n (by omega)).1
    have h3 := sq12 (h n (by omega)).2
    unfold sS
    omega
theorem lrot_any (x y : Int) (hx : Lim (2 ^ 12) x) (hy : Lim (2 ^ 12) y) (w : World) : Calls Tryd.prog 21 #[(.agg #[.int .i64 (x), .int .i64 (y)]), (.agg #[.int .i64 (0), .int .i64 (-1)])] w fun e w' => e = .returned (.agg #[.int .i64 (y), .int .i64 (-x)]) ∧ Ext w w' := by
  have h := ltimes_any x y 0 (-1) w (by unfold Lim at *; omega) (by unfold Lim at *; omega) (by unfold Lim at *; omega) (by unfold Lim at *; omega)
  rw [show x * 0 - y * -1 = y by omega, show x * -1 + y * 0 = -x by omega] at h
  exact h
theorem t_lim12 {a b : Nat → Int} (h : ∀ j, j < 4 → (-200 ≤ a j ∧ a j ≤ 200) ∧ (-200 ≤ b j ∧ b j ≤ 200)) : ∀ k, k < 4 → Lim (2 ^ 12) (tR a b k) ∧ Lim (2 ^ 12) (tI a b k) := by
  obtain ⟨⟨f1, f2⟩, ⟨f3, f4⟩, ⟨f5, f6⟩, f7, f8⟩ := tF a b
  have h0 := h 0 (by omega); have h1 := h 1 (by omega); have h2 := h 2 (by omega); have h3 := h 3 (by omega)
  generalize tR a b = u at *
  generalize tI a b = v at *
  unfold Lim
  refine four_cases ⟨?_, ?_⟩ ⟨?_, ?_⟩ ⟨?_, ?_⟩ ⟨?_, ?_⟩ <;> omega
theorem p200 {x y : Int} (hx : -200 ≤ x ∧ x ≤ 200) (hy : -200 ≤ y ∧ y ≤ 200) : -40000 ≤ x * y ∧ x * y ≤ 40000 := by
  have := pb 200 200 (a := x) (c := y) (by simpa using hx) (by simpa using hy)
  simpa using this
/-- how many terms go into number m -/
def cn (m : Nat) : Nat → Nat
  | 0 => 0
  | n + 1 => cn m n + (if (n / 4 + n % 4) % 4 = m then 1 else 0)
theorem pr_lim {a b c d : Nat → Int} (h : ∀ j, j < 4 → (-200 ≤ a j ∧ a j ≤ 200) ∧ (-200 ≤ b j ∧ b j ≤ 200)) (g : ∀ j, j < 4 → (-200 ≤ c j ∧ c j ≤ 200) ∧ (-200 ≤ d j ∧ d j ≤ 200)) :
    allV (prR a b c d) (prI a b c d) 4 = true := by
  have key : ∀ (m n : Nat), n ≤ 16 → (-((cn m n : Int) * 80000) ≤ pR a b c d m n ∧ pR a b c d m n ≤ (cn m n : Int) * 80000) ∧ (-((cn m n : Int) * 80000) ≤ pI a b c d m n ∧ pI a b c d m n ≤ (cn m n : Int) * 80000) := by
    intro m n hn
    induction n with
    | zero => unfold pR pI cn; omega
    | succ n ih =>
      have ih := ih (by omega)
      have h1 := h (n / 4) (by omega)
      have g1 := g (n % 4) (by omega)
      have k1 := p200 h1.1 g1.1
      have k2 := p200 h1.2 g1.2
      have k3 := p200 h1.1 g1.2
      have k4 := p200 h1.2 g1.1
      unfold pR pI cn
      split <;> omega
  refine allV_iff.2 fun m hm => gB_iff.2 ?_
  have := key m 16 (by omega)
  have hc : cn m 16 = 4 := by
    obtain rfl | rfl | rfl | rfl : m = 0 ∨ m = 1 ∨ m = 2 ∨ m = 3 := by omega
    all_goals rfl
  rw [hc] at this
  unfold prR prI
  omega
theorem l24 {x y : Int} (hx : Lim (2 ^ 12) x) (hy : Lim (2 ^ 12) y) : Lim (2 ^ 60) (x * y) := by
  unfold Lim at *
  have := pb (2 ^ 12) (2 ^ 12) (a := x) (c := y) (by simpa using hx) (by simpa using hy)
  simp at this
  omega
theorem hold_rot (a b : Nat → Int) : ∀ k, k < 4 → tR (tn a 1) (tn b 1) k = (rot (tR a b k) (tI a b k) k).1 ∧ tI (tn a 1) (tn b 1) k = (rot (tR a b k) (tI a b k) k).2 := by
  obtain ⟨⟨e1, e2⟩, ⟨e3, e4⟩, ⟨e5, e6⟩, e7, e8⟩ := t_tn a b
  refine four_cases ⟨e1, e2⟩ ⟨e3, e4⟩ ⟨?_, ?_⟩ ⟨?_, ?_⟩
  · rw [e5]; rfl
  · rw [e6]; rfl
  · rw [e7]; rfl
  · rw [e8]; show _ = - -tR a b 3; omega
theorem sS_four (a b : Nat → Int) : sS (tR a b) (tI a b) 4 = 4 * sS a b 4 := by
  have h := sq_t a b
  unfold sS sS sS sS sS
  omega
theorem inv_holds (a b : Nat → Int) (hv : allV (tR a b) (tI a b) 4 = true) (w : World) : Calls Tryd.prog 14 #[.agg (Cells8 (tR a b) (tI a b))] w fun e w' => e = .returned (.tuple #[.agg (Cells8 a b), .int .i64 0]) ∧ Ext w w' := by
  have h := inverse_ok (tR a b) (tI a b) w hv
  have hi := inv_t a b
  have hw : allWh (iR (tR a b) (tI a b)) (iI (tR a b) (tI a b)) 4 = true := allWh_iff.2 fun j hj => by
    unfold wh
    rw [(hi j hj).1, (hi j hj).2]
    simp
  have hq : Cells8 (qt (iR (tR a b) (tI a b))) (qt (iI (tR a b) (tI a b))) = Cells8 a b := cells8_eq fun m hm => by
    unfold qt
    rw [(hi m hm).1, (hi m hm).2]
    simp
  refine h.mono fun e w' hp => ?_
  unfold IPost at hp
  rw [hw, if_pos rfl] at hp
  refine ⟨hp.1.trans ?_, hp.2⟩
  show Ending.returned (.tuple #[.agg (Cells8 (qt (iR (tR a b) (tI a b))) (qt (iI (tR a b) (tI a b)))), .int .i64 0]) = _
  rw [hq]
set_option maxRecDepth 100000 in
set_option maxHeartbeats 32000000 in
theorem lawSeasonHolds_walk (x y : Value) (W : World) (hx : GArg x) (hy : GArg y) (ht : EnvS W) :
    Calls Tryd.prog 5 #[x, y] W fun e W' => e = .returned (.bool true) ∧ Below W.heap.size W W' := by
  obtain ⟨a, b, rfl⟩ := hx
  obtain ⟨c, d, rfl⟩ := hy
  have ck : Box (∀ w, Ext W w → Calls Tryd.prog 8 #[] w fun e w' => e = .returned (.bool true) ∧ Ext w w') := ⟨fun w h => known_any w (ht.ext h)⟩
  obtain ⟨x1, b1⟩ := x8 W a b
  obtain ⟨x2, b2⟩ := x8 (W.alloc (.cells #[.int .i64 (a 0), .int .i64 (b 0), .int .i64 (a 1), .int .i64 (b 1), .int .i64 (a 2), .int .i64 (b 2), .int .i64 (a 3), .int .i64 (b 3)] 29)) c d
  have hx : Ext W ((W.alloc (.cells #[.int .i64 (a 0), .int .i64 (b 0), .int .i64 (a 1), .int .i64 (b 1), .int .i64 (a 2), .int .i64 (b 2), .int .i64 (a 3), .int .i64 (b 3)] 29)).alloc (.cells #[.int .i64 (c 0), .int .i64 (d 0), .int .i64 (c 1), .int .i64 (d 1), .int .i64 (c 2), .int .i64 (d 2), .int .i64 (c 3), .int .i64 (d 3)] 29)) := Ext.trans' x1 x2
  have hX : Box (((W.alloc (.cells #[.int .i64 (a 0), .int .i64 (b 0), .int .i64 (a 1), .int .i64 (b 1), .int .i64 (a 2), .int .i64 (b 2), .int .i64 (a 3), .int .i64 (b 3)] 29)).alloc (.cells #[.int .i64 (c 0), .int .i64 (d 0), .int .i64 (c 1), .int .i64 (d 1), .int .i64 (c 2), .int .i64 (d 2), .int .i64 (c 3), .int .i64 (d 3)] 29)).heap[W.heap.size]? = some (.cells (Cells8 a b) 29 (0, 0))) := ⟨Ext.blk x2 b1⟩
  have hY : Box (((W.alloc (.cells #[.int .i64 (a 0), .int .i64 (b 0), .int .i64 (a 1), .int .i64 (b 1), .int .i64 (a 2), .int .i64 (b 2), .int .i64 (a 3), .int .i64 (b 3)] 29)).alloc (.cells #[.int .i64 (c 0), .int .i64 (d 0), .int .i64 (c 1), .int .i64 (d 1), .int .i64 (c 2), .int .i64 (d 2), .int .i64 (c 3), .int .i64 (d 3)] 29)).heap[W.heap.size + 1]? = some (.cells (Cells8 c d) 29 (0, 0))) := ⟨by
    rw [show (W.alloc (.cells #[.int .i64 (a 0), .int .i64 (b 0), .int .i64 (a 1), .int .i64 (b 1), .int .i64 (a 2), .int .i64 (b 2), .int .i64 (a 3), .int .i64 (b 3)] 29)).heap.size = W.heap.size + 1 by simp] at b2; exact b2⟩
  have HX := Box.mk hx
  clear ht x1 x2 b1 b2 hx
  go_enter Tryd.func5, Tryd.ntmps5
  go_wp2
  generalize (W.alloc (.cells #[.int .i64 (a 0), .int .i64 (b 0), .int .i64 (a 1), .int .i64 (b 1), .int .i64 (a 2), .int .i64 (b 2), .int .i64 (a 3), .int .i64 (b 3)] 29)).alloc (.cells #[.int .i64 (c 0), .int .i64 (d 0), .int .i64 (c 1), .int .i64 (d 1), .int .i64 (c 2), .int .i64 (d 2), .int .i64 (c 3), .int .i64 (d 3)] 29) = wk at *
  have hk : Box (Ext wk wk) := ⟨Below.refl _ _⟩
  go_loopw [5] (fun i wr => ∃ k : Nat, k ≤ 4 ∧ i = .int .i64 k ∧ Box (∀ j, j < k → smB (a j) (b j) = true ∧ smB (c j) (d j) = true) ∧ Box (Ext wk wr)) (fun i _ => 4 - (intOf i).toNat)
  case atStart => exact ⟨0, by omega, rfl, ⟨fun j hj => by omega⟩, hk⟩
  case round =>
    obtain ⟨k, hk4, rfl, hsm, hE⟩ := hrel
    by_cases hk : k < 4
    · have n1 : (0 : Int) ≤ (k : Int) := by omega
      have n2 : (k : Int) < 4 := by omega
      have n2' : decide ((k : Int) < 4) = true := decide_eq_true n2
      obtain ⟨⟨m0, m1⟩, -⟩ := cells8_at (Ext.blk hE.out hX.out) k hk
      obtain ⟨⟨m2, m3⟩, -⟩ := cells8_at (Ext.blk hE.out hY.out) k hk
      have hx := hE.out
      have key : (smB (a k) (b k) = true ∧ smB (c k) (d k) = true ∧ Box (∀ j, j < k + 1 → smB (a j) (b j) = true ∧ smB (c j) (d j) = true)) ∨ smB (a k) (b k) = false ∨ (smB (a k) (b k) = true ∧ smB (c k) (d k) = false) := by
        cases h1 : smB (a k) (b k) with
        | false => exact Or.inr (Or.inl rfl)
        | true =>
          cases h2 : smB (c k) (d k) with
          | false => exact Or.inr (Or.inr ⟨rfl, rfl⟩)
          | true => exact Or.inl ⟨rfl, rfl, ⟨fun j hj => by
              by_cases e : j = k
              · subst e; exact ⟨h1, h2⟩
              · exact hsm.out j (by omega)⟩⟩
      have c1 : Box (∀ w, _) := ⟨fun w => lsmall_any (a k) (b k) w⟩
      have c2 : Box (∀ w, _) := ⟨fun w => lsmall_any (c k) (d k) w⟩
      clear hk4
      rcases key with ⟨e1, e2, hn⟩ | e1 | ⟨e1, e2⟩
      · rw [e1] at c1
        rw [e2] at c2
        clear e1 e2
        generalize a k = xa at *
        generalize b k = xb at *
        generalize c k = xc at *
        generalize d k = xd at *
        go_wp2_with (first
          | (go_at_call 19; (with_reducible refine (c1.out _).mono ?_); rintro e w1 ⟨rfl, hb⟩; have hx := Ext.trans' hx hb; have m0 := Ext.cell hb m0; have m1 := Ext.cell hb m1; have m2 := Ext.cell hb m2; have m3 := Ext.cell hb m3)
          | (go_at_call 19; (with_reducible refine (c2.out _).mono ?_); rintro e w1 ⟨rfl, hb⟩; have hx := Ext.trans' hx hb; have m0 := Ext.cell hb m0; have m1 := Ext.cell hb m1; have m2 := Ext.cell hb m2; have m3 := Ext.cell hb m3))
        go_roundw
        case rel => exact ⟨k + 1, by omega, by go_num, hn, ⟨hx⟩⟩
        case measure => simp [intOf]; omega
      · rw [e1] at c1
        clear e1
        generalize a k = xa at *
        generalize b k = xb at *
        generalize c k = xc at *
        generalize d k = xd at *
        go_wp2_with (first
          | (go_at_call 19; (with_reducible refine (c1.out _).mono ?_); rintro e w1 ⟨rfl, hb⟩; have hx := Ext.trans' hx hb; have m0 := Ext.cell hb m0; have m1 := Ext.cell hb m1; have m2 := Ext.cell hb m2; have m3 := Ext.cell hb m3)
          | (go_at_call 8; (with_reducible refine (ck.out _ (Ext.trans' HX.out hx)).mono ?_); rintro e w9 ⟨rfl, hb⟩; have hx := Ext.trans' hx hb))
        go_ret
        exact ⟨rfl, Ext.trans' HX.out hx⟩
      · rw [e1] at c1
        rw [e2] at c2
        clear e1 e2
        generalize a k = xa at *
        generalize b k = xb at *
        generalize c k = xc at *
        generalize d k = xd at *
        go_wp2_with (first
          | (go_at_call 19; (with_reducible refine (c1.out _).mono ?_); rintro e w1 ⟨rfl, hb⟩; have hx := Ext.trans' hx hb; have m0 := Ext.cell hb m0; have m1 := Ext.cell hb m1; have m2 := Ext.cell hb m2; have m3 := Ext.cell hb m3)
          | (go_at_call 19; (with_reducible refine (c2.out _).mono ?_); rintro e w1 ⟨rfl, hb⟩; have hx := Ext.trans' hx hb; have m0 := Ext.cell hb m0; have m1 := Ext.cell hb m1; have m2 := Ext.cell hb m2; have m3 := Ext.cell hb m3)
          | (go_at_call 8; (with_reducible refine (ck.out _ (Ext.trans' HX.out hx)).mono ?_); rintro e w9 ⟨rfl, hb⟩; have hx := Ext.trans' hx hb))
        go_ret
        exact ⟨rfl, Ext.trans' HX.out hx⟩
    · obtain rfl : k = 4 := by omega
      have hs1 : ∀ j, j < 4 → (-200 ≤ a j ∧ a j ≤ 200) ∧ (-200 ≤ b j ∧ b j ≤ 200) := fun j hj => smB_iff (hsm.out j hj).1
      have hs2 : ∀ j, j < 4 → (-200 ≤ c j ∧ c j ≤ 200) ∧ (-200 ≤ d j ∧ d j ≤ 200) := fun j hj => smB_iff (hsm.out j hj).2
      have v1 : allV a b 4 = true := allV_iff.2 fun j hj => gB_iff.2 (by have := hs1 j hj; omega)
      have v2 : allV c d 4 = true := allV_iff.2 fun j hj => gB_iff.2 (by have := hs2 j hj; omega)
      have l1 := t_lim12 hs1
      have l2 := t_lim12 hs2
      have v3 : allV (tR a b) (tI a b) 4 = true := allV_iff.2 fun j hj => gB_iff.2 (by have := l1 j hj; unfold Lim at this; omega)
      have v4 := pr_lim hs1 hs2
      have v5 : allV (tn a 1) (tn b 1) 4 = true := allV_iff.2 fun j hj => gB_iff.2 (by
        have := hs1 ((((j : Int) - 1) % 4).toNat) (by omega)
        unfold tn; omega)
      have cA : Box (∀ w, _) := ⟨fun w => transform_ok a b w v1⟩
      have cB : Box (∀ w, _) := ⟨fun w => transform_ok c d w v2⟩
      have cI : Box (∀ w, Calls Tryd.prog 14 #[(.agg #[.int .i64 (tR a b 0), .int .i64 (tI a b 0), .int .i64 (tR a b 1), .int .i64 (tI a b 1), .int .i64 (tR a b 2), .int .i64 (tI a b 2), .int .i64 (tR a b 3), .int .i64 (tI a b 3)])] w fun e w' => e = .returned (.tuple #[(.agg #[.int .i64 (a 0), .int .i64 (b 0), .int .i64 (a 1), .int .i64 (b 1), .int .i64 (a 2), .int .i64 (b 2), .int .i64 (a 3), .int .i64 (b 3)]), .int .i64 0]) ∧ Ext w w') := ⟨fun w => inv_holds a b v3 w⟩
      have cP : Box (∀ w, _) := ⟨fun w => product_ok a b c d w v1 v2⟩
      have cZ : Box (∀ w, _) := ⟨fun w => transform_ok (prR a b c d) (prI a b c d) w v4⟩
      have cU : Box (∀ w, _) := ⟨fun w => turn_any a b 1 w⟩
      have cV : Box (∀ w, Calls Tryd.prog 16 #[(.agg #[.int .i64 (tn a 1 0), .int .i64 (tn b 1 0), .int .i64 (tn a 1 1), .int .i64 (tn b 1 1), .int .i64 (tn a 1 2), .int .i64 (tn b 1 2), .int .i64 (tn a 1 3), .int .i64 (tn b 1 3)]), .int .i64 (-1)] w fun e w' => e = .returned (.agg #[.int .i64 (a 0), .int .i64 (b 0), .int .i64 (a 1), .int .i64 (b 1), .int .i64 (a 2), .int .i64 (b 2), .int .i64 (a 3), .int .i64 (b 3)]) ∧ Ext w w') := ⟨fun w => turn_any (tn a 1) (tn b 1) (-1) w⟩
      have cH : Box (∀ w, _) := ⟨fun w => transform_ok (tn a 1) (tn b 1) w v5⟩
      have hCk := Box.mk (t_pr a b c d)
      have hHk := Box.mk (hold_rot a b)
      have hS4 := Box.mk (sS_four a b)
      have hl1 := Box.mk l1
      have hl2 := Box.mk l2
      have hla : Box (∀ j, j < 4 → Lim (2 ^ 12) (a j) ∧ Lim (2 ^ 12) (b j)) := ⟨fun j hj => by have := hs1 j hj; unfold Lim; omega⟩
      clear hs1 hs2 v1 v2 v3 v4 v5 l1 l2 hsm
      generalize tR (prR a b c d) (prI a b c d) = cr at *
      generalize tI (prR a b c d) (prI a b c d) = ci at *
      generalize tR (tn a 1) (tn b 1) = hr at *
      generalize tI (tn a 1) (tn b 1) = hi at *
      generalize tR a b = u at *
      generalize tI a b = v at *
      generalize tR c d = p at *
      generalize tI c d = q at *
      generalize prR a b c d = zr at *
      generalize prI a b c d = zi at *
      have hk := hE.out
      have hx := Ext.trans' HX.out hk
      (try clear m0 m1 m2 m3 m4 m5 m6 m7 y0 y1 y2 y3 y4 y5 y6 y7); obtain ⟨⟨m0, m1, m2, m3, m4, m5, m6, m7⟩, -⟩ := cx8 (Ext.blk hk hX.out); obtain ⟨⟨y0, y1, y2, y3, y4, y5, y6, y7⟩, -⟩ := cx8 (Ext.blk hk hY.out)
      go_wp2_with (first
        | (go_at_call 13; (with_reducible refine (cA.out _).mono ?_); rintro e w1 ⟨rfl, hb⟩; have hA := Box.mk (newblk w1 (.cells #[.int .i64 (u 0), .int .i64 (v 0), .int .i64 (u 1), .int .i64 (v 1), .int .i64 (u 2), .int .i64 (v 2), .int .i64 (u 3), .int .i64 (v 3)] 29)); have hb := Ext.trans' hb (Ext.alloc (Below.refl _ w1) (.cells #[.int .i64 (u 0), .int .i64 (v 0), .int .i64 (u 1), .int .i64 (v 1), .int .i64 (u 2), .int .i64 (v 2), .int .i64 (u 3), .int .i64 (v 3)] 29)); have hx := Ext.trans' hx hb; have hk := Ext.trans' hk hb; (try clear m0 m1 m2 m3 m4 m5 m6 m7 y0 y1 y2 y3 y4 y5 y6 y7); obtain ⟨⟨m0, m1, m2, m3, m4, m5, m6, m7⟩, -⟩ := cx8 (Ext.blk hk hX.out); obtain ⟨⟨y0, y1, y2, y3, y4, y5, y6, y7⟩, -⟩ := cx8 (Ext.blk hk hY.out); obtain ⟨⟨p0, p1, p2, p3, p4, p5, p6, p7⟩, -⟩ := cx8 hA.out)
        | (go_at_call 13; (with_reducible refine (cB.out _).mono ?_); rintro e w2 ⟨rfl, hb⟩; have hB := Box.mk (newblk w2 (.cells #[.int .i64 (p 0), .int .i64 (q 0), .int .i64 (p 1), .int .i64 (q 1), .int .i64 (p 2), .int .i64 (q 2), .int .i64 (p 3), .int .i64 (q 3)] 29)); have hb := Ext.trans' hb (Ext.alloc (Below.refl _ w2) (.cells #[.int .i64 (p 0), .int .i64 (q 0), .int .i64 (p 1), .int .i64 (q 1), .int .i64 (p 2), .int .i64 (q 2), .int .i64 (p 3), .int .i64 (q 3)] 29)); have hx := Ext.trans' hx hb; have hk := Ext.trans' hk hb; have hA := Box.mk (Ext.blk hb hA.out); (try clear m0 m1 m2 m3 m4 m5 m6 m7 y0 y1 y2 y3 y4 y5 y6 y7); obtain ⟨⟨m0, m1, m2, m3, m4, m5, m6, m7⟩, -⟩ := cx8 (Ext.blk hk hX.out); obtain ⟨⟨y0, y1, y2, y3, y4, y5, y6, y7⟩, -⟩ := cx8 (Ext.blk hk hY.out); (try clear p0 p1 p2 p3 p4 p5 p6 p7); obtain ⟨⟨p0, p1, p2, p3, p4, p5, p6, p7⟩, -⟩ := cx8 hA.out)
        | (go_at_call 14; (with_reducible refine (cI.out _).mono ?_); rintro e w3 ⟨rfl, hb⟩; have hK := Box.mk (newblk w3 (.cells #[.int .i64 (a 0), .int .i64 (b 0), .int .i64 (a 1), .int .i64 (b 1), .int .i64 (a 2), .int .i64 (b 2), .int .i64 (a 3), .int .i64 (b 3)] 29)); have hb := Ext.trans' hb (Ext.alloc (Below.refl _ w3) (.cells #[.int .i64 (a 0), .int .i64 (b 0), .int .i64 (a 1), .int .i64 (b 1), .int .i64 (a 2), .int .i64 (b 2), .int .i64 (a 3), .int .i64 (b 3)] 29)); have hx := Ext.trans' hx hb; have hk := Ext.trans' hk hb; have hA := Box.mk (Ext.blk hb hA.out); have hB := Box.mk (Ext.blk hb hB.out); (try clear m0 m1 m2 m3 m4 m5 m6 m7 y0 y1 y2 y3 y4 y5 y6 y7); obtain ⟨⟨m0, m1, m2, m3, m4, m5, m6, m7⟩, -⟩ := cx8 (Ext.blk hk hX.out); obtain ⟨⟨y0, y1, y2, y3, y4, y5, y6, y7⟩, -⟩ := cx8 (Ext.blk hk hY.out))
        | (go_at_call 15; (with_reducible refine (cP.out _).mono ?_); rintro e w4 ⟨rfl, hb⟩; have hZ := Box.mk (newblk w4 (.cells #[.int .i64 (zr 0), .int .i64 (zi 0), .int .i64 (zr 1), .int .i64 (zi 1), .int .i64 (zr 2), .int .i64 (zi 2), .int .i64 (zr 3), .int .i64 (zi 3)] 29)); have hb := Ext.trans' hb (Ext.alloc (Below.refl _ w4) (.cells #[.int .i64 (zr 0), .int .i64 (zi 0), .int .i64 (zr 1), .int .i64 (zi 1), .int .i64 (zr 2), .int .i64 (zi 2), .int .i64 (zr 3), .int .i64 (zi 3)] 29)); have hx := Ext.trans' hx hb; have hk := Ext.trans' hk hb; have hA := Box.mk (Ext.blk hb hA.out); have hB := Box.mk (Ext.blk hb hB.out); have hK := Box.mk (Ext.blk hb hK.out); (try clear m0 m1 m2 m3 m4 m5 m6 m7 y0 y1 y2 y3 y4 y5 y6 y7); obtain ⟨⟨m0, m1, m2, m3, m4, m5, m6, m7⟩, -⟩ := cx8 (Ext.blk hk hX.out); obtain ⟨⟨y0, y1, y2, y3, y4, y5, y6, y7⟩, -⟩ := cx8 (Ext.blk hk hY.out); obtain ⟨⟨z0, z1, z2, z3, z4, z5, z6, z7⟩, -⟩ := cx8 hZ.out)
        | (go_at_call 13; (with_reducible refine (cZ.out _).mono ?_); rintro e w5 ⟨rfl, hb⟩; have hC := Box.mk (newblk w5 (.cells #[.int .i64 (cr 0), .int .i64 (ci 0), .int .i64 (cr 1), .int .i64 (ci 1), .int .i64 (cr 2), .int .i64 (ci 2), .int .i64 (cr 3), .int .i64 (ci 3)] 29)); have hb := Ext.trans' hb (Ext.alloc (Below.refl _ w5) (.cells #[.int .i64 (cr 0), .int .i64 (ci 0), .int .i64 (cr 1), .int .i64 (ci 1), .int .i64 (cr 2), .int .i64 (ci 2), .int .i64 (cr 3), .int .i64 (ci 3)] 29)); have hx := Ext.trans' hx hb; have hk := Ext.trans' hk hb; have hA := Box.mk (Ext.blk hb hA.out); have hB := Box.mk (Ext.blk hb hB.out); have hK := Box.mk (Ext.blk hb hK.out); have hZ := Box.mk (Ext.blk hb hZ.out); (try clear m0 m1 m2 m3 m4 m5 m6 m7 y0 y1 y2 y3 y4 y5 y6 y7); obtain ⟨⟨m0, m1, m2, m3, m4, m5, m6, m7⟩, -⟩ := cx8 (Ext.blk hk hX.out); obtain ⟨⟨y0, y1, y2, y3, y4, y5, y6, y7⟩, -⟩ := cx8 (Ext.blk hk hY.out))
        | (go_at_call 16; (with_reducible refine (cU.out _).mono ?_); rintro e w6 ⟨rfl, hb⟩; have hx := Ext.trans' hx hb; have hk := Ext.trans' hk hb; have hA := Box.mk (Ext.blk hb hA.out); have hB := Box.mk (Ext.blk hb hB.out); have hK := Box.mk (Ext.blk hb hK.out); have hC := Box.mk (Ext.blk hb hC.out); (try clear m0 m1 m2 m3 m4 m5 m6 m7 y0 y1 y2 y3 y4 y5 y6 y7); obtain ⟨⟨m0, m1, m2, m3, m4, m5, m6, m7⟩, -⟩ := cx8 (Ext.blk hk hX.out); obtain ⟨⟨y0, y1, y2, y3, y4, y5, y6, y7⟩, -⟩ := cx8 (Ext.blk hk hY.out))
        | (go_at_call 13; (with_reducible refine (cH.out _).mono ?_); rintro e w7 ⟨rfl, hb⟩; have hH := Box.mk (newblk w7 (.cells #[.int .i64 (hr 0), .int .i64 (hi 0), .int .i64 (hr 1), .int .i64 (hi 1), .int .i64 (hr 2), .int .i64 (hi 2), .int .i64 (hr 3), .int .i64 (hi 3)] 29)); have hb := Ext.trans' hb (Ext.alloc (Below.refl _ w7) (.cells #[.int .i64 (hr 0), .int .i64 (hi 0), .int .i64 (hr 1), .int .i64 (hi 1), .int .i64 (hr 2), .int .i64 (hi 2), .int .i64 (hr 3), .int .i64 (hi 3)] 29)); have hx := Ext.trans' hx hb; have hk := Ext.trans' hk hb; have hA := Box.mk (Ext.blk hb hA.out); have hB := Box.mk (Ext.blk hb hB.out); have hK := Box.mk (Ext.blk hb hK.out); have hC := Box.mk (Ext.blk hb hC.out); (try clear m0 m1 m2 m3 m4 m5 m6 m7 y0 y1 y2 y3 y4 y5 y6 y7); obtain ⟨⟨m0, m1, m2, m3, m4, m5, m6, m7⟩, -⟩ := cx8 (Ext.blk hk hX.out); obtain ⟨⟨y0, y1, y2, y3, y4, y5, y6, y7⟩, -⟩ := cx8 (Ext.blk hk hY.out)))
      generalize w1.heap.size = A at *
      generalize w2.heap.size = B at *
      generalize w3.heap.size = K at *
      generalize w4.heap.size = Z at *
      generalize w5.heap.size = C at *
      generalize w7.heap.size = D at *

      have ge1 := g4_type.2
      have ge2 := g_struct.2.2
      have q1 : ∀ w : World, (Op.equalIn 10000 29 (.agg #[.int .i64 (a 0), .int .i64 (b 0), .int .i64 (a 1), .int .i64 (b 1), .int .i64 (a 2), .int .i64 (b 2), .int .i64 (a 3), .int .i64 (b 3)]) (.agg #[.int .i64 (a 0), .int .i64 (b 0), .int .i64 (a 1), .int .i64 (b 1), .int .i64 (a 2), .int .i64 (b 2), .int .i64 (a 3), .int .i64 (b 3)])).run Tryd.prog w = .ok true w := fun w => eqA a b w
      (try clear k0 k1 k2 k3 k4 k5 k6 k7); obtain ⟨⟨k0, k1, k2, k3, k4, k5, k6, k7⟩, -⟩ := cx8 hK.out
      generalize w7.alloc (.cells #[.int .i64 (hr 0), .int .i64 (hi 0), .int .i64 (hr 1), .int .i64 (hi 1), .int .i64 (hr 2), .int .i64 (hi 2), .int .i64 (hr 3), .int .i64 (hi 3)] 29) = wm at *
      have hR : Ext wm wm.drew := Ext.drew1 (Below.refl _ _)
      go_region_held3 (fun w' => (w'.cell? ⟨K, 0, none⟩ = some (.int .i64 (a 0)) ∧ w'.cell? ⟨K, 1, none⟩ = some (.int .i64 (b 0)) ∧ w'.cell? ⟨K, 2, none⟩ = some (.int .i64 (a 1)) ∧ w'.cell? ⟨K, 3, none⟩ = some (.int .i64 (b 1)) ∧ w'.cell? ⟨K, 4, none⟩ = some (.int .i64 (a 2)) ∧ w'.cell? ⟨K, 5, none⟩ = some (.int .i64 (b 2)) ∧ w'.cell? ⟨K, 6, none⟩ = some (.int .i64 (a 3)) ∧ w'.cell? ⟨K, 7, none⟩ = some (.int .i64 (b 3))) ∧ w'.cell? ⟨W.heap.size, 0, none⟩ = some (.int .i64 (a 0)) ∧ w'.cell? ⟨W.heap.size, 1, none⟩ = some (.int .i64 (b 0)) ∧ w'.cell? ⟨W.heap.size, 2, none⟩ = some (.int .i64 (a 1)) ∧ w'.cell? ⟨W.heap.size, 3, none⟩ = some (.int .i64 (b 1)) ∧ w'.cell? ⟨W.heap.size, 4, none⟩ = some (.int .i64 (a 2)) ∧ w'.cell? ⟨W.heap.size, 5, none⟩ = some (.int .i64 (b 2)) ∧ w'.cell? ⟨W.heap.size, 6, none⟩ = some (.int .i64 (a 3)) ∧ w'.cell? ⟨W.heap.size, 7, none⟩ = some (.int .i64 (b 3)))
        (exact ⟨⟨k0, k1, k2, k3, k4, k5, k6, k7⟩, m0, m1, m2, m3, m4, m5, m6, m7⟩)
        (first
          | (go_at_call 16; (with_reducible refine (cU.out _).mono ?_); rintro e w8 ⟨rfl, hb⟩; have hR := Ext.trans' hR hb; have k0 := Ext.cell hb k0; have k1 := Ext.cell hb k1; have k2 := Ext.cell hb k2; have k3 := Ext.cell hb k3; have k4 := Ext.cell hb k4; have k5 := Ext.cell hb k5; have k6 := Ext.cell hb k6; have k7 := Ext.cell hb k7; have m0 := Ext.cell hb m0; have m1 := Ext.cell hb m1; have m2 := Ext.cell hb m2; have m3 := Ext.cell hb m3; have m4 := Ext.cell hb m4; have m5 := Ext.cell hb m5; have m6 := Ext.cell hb m6; have m7 := Ext.cell hb m7)
          | (go_at_call 16; (with_reducible refine (cV.out _).mono ?_); rintro e w8 ⟨rfl, hb⟩; have hR := Ext.trans' hR hb; have k0 := Ext.cell hb k0; have k1 := Ext.cell hb k1; have k2 := Ext.cell hb k2; have k3 := Ext.cell hb k3; have k4 := Ext.cell hb k4; have k5 := Ext.cell hb k5; have k6 := Ext.cell hb k6; have k7 := Ext.cell hb k7; have m0 := Ext.cell hb m0; have m1 := Ext.cell hb m1; have m2 := Ext.cell hb m2; have m3 := Ext.cell hb m3; have m4 := Ext.cell hb m4; have m5 := Ext.cell hb m5; have m6 := Ext.cell hb m6; have m7 := Ext.cell hb m7))
      have hX1 := Box.mk (Ext.blk hk hX.out)
      have hx1 := Box.mk hx
      have hR0 := Box.mk hR
      have hl3 := Box.mk (sS_lim hl1.out)
      have hl4 := Box.mk (sS_lim hla.out)
      clear hx hk hR hb k0 k1 k2 k3 k4 k5 k6 k7 m0 m1 m2 m3 m4 m5 m6 m7 y0 y1 y2 y3 y4 y5 y6 y7 p0 p1 p2 p3 p4 p5 p6 p7 z0 z1 z2 z3 z4 z5 z6 z7 cA cB cI cP cZ cU cV cH
      go_wp2
      go_loopw [18, 19, 20] (fun fv sv i wr => ∃ k : Nat, k ≤ 4 ∧ i = .int .i64 k ∧ fv = .int .i64 (sS u v k) ∧ sv = .int .i64 (sS a b k) ∧ Box (Ext wm wr)) (fun _ _ i _ => 4 - (intOf i).toNat)
      case atStart => exact ⟨0, by omega, rfl, rfl, rfl, hR0⟩
      case round =>
        obtain ⟨k, hk4, rfl, rfl, rfl, hE1⟩ := hrel
        by_cases hkk : k < 4
        · have n1 : (0 : Int) ≤ (k : Int) := by omega
          have n2 : (k : Int) < 4 := by omega
          have n2' : decide ((k : Int) < 4) = true := decide_eq_true n2
          obtain ⟨⟨a0, a1⟩, -⟩ := cells8_at (a := u) (b := v) (Ext.blk hE1.out hA.out) k hkk
          obtain ⟨⟨a2, a3⟩, -⟩ := cells8_at (a := a) (b := b) (Ext.blk hE1.out hX1.out) k hkk
          have lu := hl1.out k hkk
          have la := hla.out k hkk
          have s1b := hl3.out k (by omega)
          have s2b := hl4.out k (by omega)
          have s1c := hl3.out (k + 1) (by omega)
          have s2c := hl4.out (k + 1) (by omega)
          have cs1 : Box (∀ w, _) := ⟨fun w => lsquare_any (u k) (v k) w (by have := lu.1; unfold Lim at *; omega) (by have := lu.2; unfold Lim at *; omega)⟩
          have cs2 : Box (∀ w, _) := ⟨fun w => lsquare_any (a k) (b k) w (by have := la.1; unfold Lim at *; omega) (by have := la.2; unfold Lim at *; omega)⟩
          have lc := hl2.out k hkk
          have cT1 : Box (∀ w, _) := ⟨fun w => ltimes_any (u k) (v k) (p k) (q k) w (l24 lu.1 lc.1) (l24 lu.2 lc.2) (l24 lu.1 lc.2) (l24 lu.2 lc.1)⟩
          have cr1 : Box (∀ n w, _) := ⟨fun n w => lrot_any (rot (u k) (v k) n).1 (rot (u k) (v k) n).2 (rot_lim lu.1 lu.2 n).1 (rot_lim lu.1 lu.2 n).2 w⟩
          have h1e : Box (sS u v (k + 1) = sS u v k + (u k * u k + v k * v k)) := ⟨rfl⟩
          have h2e : Box (sS a b (k + 1) = sS a b k + (a k * a k + b k * b k)) := ⟨rfl⟩
          have q1' : IntKind.i64.wrap (sS u v k + (u k * u k + v k * v k)) = sS u v k + (u k * u k + v k * v k) := by rw [← h1e.out, IntKind.wrap_i64]; omega
          have q2' : IntKind.i64.wrap (sS a b k + (a k * a k + b k * b k)) = sS a b k + (a k * a k + b k * b k) := by rw [← h2e.out, IntKind.wrap_i64]; omega
          have q3' : wrap64 (sS u v k + (u k * u k + v k * v k)) = sS u v k + (u k * u k + v k * v k) := by rw [← h1e.out]; unfold wrap64; omega
          have q4' : wrap64 (sS a b k + (a k * a k + b k * b k)) = sS a b k + (a k * a k + b k * b k) := by rw [← h2e.out]; unfold wrap64; omega
          obtain ⟨e1, e2⟩ := hCk.out k hkk
          obtain ⟨e3, e4⟩ := hHk.out k hkk
          have hcells : Box (∀ w, Ext wm w → ((w.cell? ⟨A, k * 2, none⟩ = some (.int .i64 (u k)) ∧ w.cell? ⟨A, k * 2 + 1, none⟩ = some (.int .i64 (v k))) ∧ (w.cell? ⟨B, k * 2, none⟩ = some (.int .i64 (p k)) ∧ w.cell? ⟨B, k * 2 + 1, none⟩ = some (.int .i64 (q k))) ∧ (w.cell? ⟨C, k * 2, none⟩ = some (.int .i64 (u k * p k - v k * q k)) ∧ w.cell? ⟨C, k * 2 + 1, none⟩ = some (.int .i64 (u k * q k + v k * p k))) ∧ (w.cell? ⟨D, k * 2, none⟩ = some (.int .i64 (rot (u k) (v k) k).1) ∧ w.cell? ⟨D, k * 2 + 1, none⟩ = some (.int .i64 (rot (u k) (v k) k).2)))) := ⟨fun w hw => by
            rw [← e1, ← e2, ← e3, ← e4]
            exact ⟨(cells8_at (a := u) (b := v) (Ext.blk hw hA.out) k hkk).1, (cells8_at (a := p) (b := q) (Ext.blk hw hB.out) k hkk).1, (cells8_at (a := cr) (b := ci) (Ext.blk hw hC.out) k hkk).1, (cells8_at (a := hr) (b := hi) (Ext.blk hw hH.out) k hkk).1⟩⟩
          clear lu la lc s1b s2b s1c s2c e1 e2 e3 e4
          generalize sS u v k = s1 at *
          generalize sS a b k = s2 at *
          generalize u k * u k + v k * v k = t1 at *
          generalize a k * a k + b k * b k = t2 at *
          generalize u k * p k - v k * q k = xr at *
          generalize u k * q k + v k * p k = xi at *
          generalize u k = uk at *
          generalize v k = vk at *
          generalize p k = pk at *
          generalize q k = qk' at *
          generalize a k = ak at *
          generalize b k = bk at *
          have qe1 : ∀ w : World, (Op.equalIn 10000 23 (.agg #[.int .i64 (xr), .int .i64 (xi)]) (.agg #[.int .i64 (xr), .int .i64 (xi)])).run Tryd.prog w = .ok true w := fun w => eqG xr xi w
          go_wp2
          have hR := Ext.drew1 hE1.out
          go_region_held3 (fun w' => (w'.cell? ⟨A, k * 2, none⟩ = some (.int .i64 (uk)) ∧ w'.cell? ⟨A, k * 2 + 1, none⟩ = some (.int .i64 (vk)) ∧ w'.cell? ⟨W.heap.size, k * 2, none⟩ = some (.int .i64 (ak)) ∧ w'.cell? ⟨W.heap.size, k * 2 + 1, none⟩ = some (.int .i64 (bk))))
            (exact ⟨a0, a1, a2, a3⟩)
            (first
              | (go_at_call 20; (with_reducible refine (cs1.out _).mono ?_); rintro e w8 ⟨rfl, hb⟩; have hR := Ext.trans' hR hb; have a0 := Ext.cell hb a0; have a1 := Ext.cell hb a1; have a2 := Ext.cell hb a2; have a3 := Ext.cell hb a3)
              | (go_at_call 20; (with_reducible refine (cs2.out _).mono ?_); rintro e w8 ⟨rfl, hb⟩; have hR := Ext.trans' hR hb; have a0 := Ext.cell hb a0; have a1 := Ext.cell hb a1; have a2 := Ext.cell hb a2; have a3 := Ext.cell hb a3))
          go_wp2
          have hT0 : Box ((w8.alloc (.cells #[.int .i64 uk, .int .i64 vk] 23)).heap[w8.heap.size]? = some (.cells #[.int .i64 (rot uk vk 0).1, .int .i64 (rot uk vk 0).2] 23 (0, 0))) := ⟨newblk _ _⟩
          have hE2 : Box (Ext wm (w8.alloc (.cells #[.int .i64 uk, .int .i64 vk] 23))) := ⟨Ext.alloc hR _⟩
          have hTs : wm.heap.size ≤ w8.heap.size := hR.size
          clear hR hb a0 a1 a2 a3
          generalize w8.heap.size = T at *
          generalize w8.alloc (.cells #[.int .i64 uk, .int .i64 vk] 23) = wt at *
          go_loopw [22] (fun i wx => ∃ n : Nat, n ≤ k ∧ i = .int .i64 n ∧ Box (wx.heap[T]? = some (.cells #[.int .i64 (rot uk vk n).1, .int .i64 (rot uk vk n).2] 23 (0, 0))) ∧ Box (Ext wm wx)) (fun i _ => k - (intOf i).toNat)
          case atStart => exact ⟨0, by omega, rfl, hT0, hE2⟩
          case round =>
            obtain ⟨n, hn4, rfl, hT, hE3⟩ := hrel
            obtain ⟨⟨o0, o1⟩, z0, z1⟩ := cx2 hT.out
            by_cases hnk : n < k
            · have n3 : (0 : Int) ≤ (n : Int) := by omega
              have n4 : (n : Int) < (k : Int) := by omega
              have n4' : decide ((n : Int) < (k : Int)) = true := decide_eq_true n4
              have crn := Box.mk (cr1.out n)
              have hnx : Box (rot uk vk (n + 1) = ((rot uk vk n).2, -(rot uk vk n).1)) := ⟨rfl⟩
              generalize (rot uk vk n).1 = rx at *
              generalize (rot uk vk n).2 = ry at *
              go_wp2_with (first
                | (go_at_call 21; (with_reducible refine (crn.out _).mono ?_); rintro e w9 ⟨rfl, hb⟩; have hE4 := Box.mk (Ext.trans' hE3.out hb); have hT1 := Box.mk (Ext.blk hb hT.out); clear o0 o1 z0 z1; obtain ⟨⟨o0, o1⟩, z0, z1⟩ := cx2 hT1.out; clear hb))
              go_roundw
              case rel =>
                refine ⟨n + 1, by omega, by go_num, ⟨?_⟩, ⟨?_⟩⟩
                · rw [hnx.out]
                  exact heap_setCell_same _ T 1 _ _ _ (heap_setCell_same _ T 0 _ _ _ hT1.out)
                · exact Ext.set (Ext.set hE4.out hTs _ _) hTs _ _
              case measure => simp [intOf]; omega
            · obtain rfl : n = k := by omega
              obtain ⟨⟨a0, a1⟩, ⟨b0, b1⟩, ⟨c0, c1⟩, d0, d1⟩ := hcells.out _ hE3.out
              clear hcells cr1 z0 z1
              generalize (rot uk vk n).1 = rx at *
              generalize (rot uk vk n).2 = ry at *
              have qe2 : ∀ w : World, (Op.equalIn 10000 23 (.agg #[.int .i64 (rx), .int .i64 (ry)]) (.agg #[.int .i64 (rx), .int .i64 (ry)])).run Tryd.prog w = .ok true w := fun w => eqG rx ry w
              go_wp2
              have hR := Ext.drew1 hE3.out
              go_region_held3 (fun w' => (w'.cell? ⟨A, n * 2, none⟩ = some (.int .i64 (uk)) ∧ w'.cell? ⟨A, n * 2 + 1, none⟩ = some (.int .i64 (vk)) ∧ w'.cell? ⟨B, n * 2, none⟩ = some (.int .i64 (pk)) ∧ w'.cell? ⟨B, n * 2 + 1, none⟩ = some (.int .i64 (qk')) ∧ w'.cell? ⟨C, n * 2, none⟩ = some (.int .i64 (xr)) ∧ w'.cell? ⟨C, n * 2 + 1, none⟩ = some (.int .i64 (xi)) ∧ w'.cell? ⟨D, n * 2, none⟩ = some (.int .i64 (rx)) ∧ w'.cell? ⟨D, n * 2 + 1, none⟩ = some (.int .i64 (ry)) ∧ w'.cell? ⟨T, 0, none⟩ = some (.int .i64 (rx)) ∧ w'.cell? ⟨T, 1, none⟩ = some (.int .i64 (ry))))
                (exact ⟨a0, a1, b0, b1, c0, c1, d0, d1, o0, o1⟩)
                (first
                  | (go_at_call 21; (with_reducible refine (cT1.out _).mono ?_); rintro e w9 ⟨rfl, hb⟩; have hR := Ext.trans' hR hb; have a0 := Ext.cell hb a0; have a1 := Ext.cell hb a1; have b0 := Ext.cell hb b0; have b1 := Ext.cell hb b1; have c0 := Ext.cell hb c0; have c1 := Ext.cell hb c1; have d0 := Ext.cell hb d0; have d1 := Ext.cell hb d1; have o0 := Ext.cell hb o0; have o1 := Ext.cell hb o1))
              go_wp2
              go_roundw
              case rel => exact ⟨n + 1, by omega, by go_num, by rw [h1e.out], by rw [h2e.out], ⟨hR⟩⟩
              case measure => simp [intOf]; omega
        · obtain rfl : k = 4 := by omega
          have e4 : (sS u v 4 == 4 * sS a b 4) = true := by rw [hS4.out, beq_self_eq_true]
          have q2 : IntKind.i64.wrap (4 * sS a b 4) = 4 * sS a b 4 := by have := hl4.out 4 (by omega); rw [IntKind.wrap_i64]; omega
          have hx := hE1.out
          generalize sS u v 4 = s1 at *
          generalize sS a b 4 = s2 at *
          go_wp2_with (first
            | (go_at_call 8; (with_reducible refine (ck.out _ (Ext.trans' hx1.out hx)).mono ?_); rintro e w9 ⟨rfl, hb⟩; have hx := Ext.trans' hx hb))
          go_ret
          exact ⟨rfl, Ext.trans' hx1.out hx⟩
end Go.Proofs.YtbnmnkmjokcmfaaDoor
