import Derived.Test.YtbnmnkmjokcmfaaDoorS19
/- The law's use and made. -/
namespace Go.Proofs.YtbnmnkmjokcmfaaDoor
open Go.RowKit
set_option maxRecDepth 100000 in
set_option maxHeartbeats 4000000 in
theorem luse_any (w : World) (m : Nat → Int) (W now : Nat) (n : Int) (h1 : 1 ≤ W) (h2 : W ≤ 4294967296) (hm : ∀ j, j < 4 → 0 ≤ m j ∧ m j ≤ 1048576) (hn : now < 18446744073709551616) :
    Calls Tryd.prog 23 #[.agg #[.int .i64 (m 0), .int .i64 (m 1), .int .i64 (m 2), .int .i64 (m 3)], .int .i64 W, .int .u64 now, .int .i64 n] w fun e w' => e = .returned (.int .i64 (useNo m W now n)) ∧ Ext w w' := by
  have hA := newblk w (.cells (Cells4i m) 50)
  have hx : Ext w (w.alloc (.cells #[.int .i64 (m 0), .int .i64 (m 1), .int .i64 (m 2), .int .i64 (m 3)] 50)) := Ext.alloc (Below.refl _ _) _
  have HX := Box.mk hx
  obtain ⟨z, hz⟩ : ∃ z, z = useNo m W now n := ⟨_, rfl⟩
  rw [← hz]
  unfold useNo at hz
  by_cases g1 : n < 0
  · have d1 : decide (n < 0) = true := decide_eq_true g1
    rw [if_pos g1] at hz
    have HZ := Box.mk hz
    clear hz hA hx
    go_enter Tryd.func23, Tryd.ntmps23
    go_wp2
    go_ret
    exact ⟨ret_int HZ.out.symm, HX.out⟩
  · have d1 : decide (n < 0) = false := decide_eq_false g1
    rw [if_neg g1] at hz
    by_cases g2 : now = neverT
    · rw [if_pos g2] at hz
      have d2 : ((now : Int) == 18446744073709551615) = true := by rw [g2]; rfl
      have HZ := Box.mk hz
      clear hz hA hx g2
      go_enter Tryd.func23, Tryd.ntmps23
      go_wp2
      go_ret
      exact ⟨ret_int HZ.out.symm, HX.out⟩
    · rw [if_neg g2] at hz
      have d2 : ((now : Int) == 18446744073709551615) = false := by rw [beq_eq_false_iff_ne]; unfold neverT at g2; omega
      have hq4 : now / W % 4 < 4 := Nat.mod_lt _ (by decide)
      obtain ⟨c0, _⟩ := cells4i_at hA _ hq4
      have hget : ∀ h : now / W % 4 < [Value.int .i64 (m 0), Value.int .i64 (m 1), Value.int .i64 (m 2), Value.int .i64 (m 3)].length, [Value.int .i64 (m 0), Value.int .i64 (m 1), Value.int .i64 (m 2), Value.int .i64 (m 3)][now / W % 4]'h = .int .i64 (m (now / W % 4)) := fun h => by
        obtain e | e | e | e : now / W % 4 = 0 ∨ now / W % 4 = 1 ∨ now / W % 4 = 2 ∨ now / W % 4 = 3 := by omega
        all_goals (simp only [e]; rfl)
      have hlim := hm _ hq4
      have n1 : (0 : Int) ≤ ((now / W % 4 : Nat) : Int) := Int.natCast_nonneg _
      have n2 : ((now / W % 4 : Nat) : Int) < 4 := Int.ofNat_lt.2 hq4
      have q0 : IntKind.u64.wrap (W : Int) = W := by rw [IntKind.wrap_u64]; omega
      have f0 : ¬ W = 0 := by omega
      have f1 : ((W : Int) == 0) = false := by rw [beq_eq_false_iff_ne]; omega
      have hb : now / W ≤ now := Nat.div_le_self _ _
      have t0 : (now : Int).tdiv (W : Int) = ((now / W : Nat) : Int) := rfl
      have t9 : (now : Int) / (W : Int) = ((now / W : Nat) : Int) := (Int.natCast_ediv _ _).symm
      clear hm hA hx g2
      generalize now / W = g at *
      have t1 : (g : Int).tmod 4 = ((g % 4 : Nat) : Int) := rfl
      have t8 : (g : Int) % 4 = ((g % 4 : Nat) : Int) := rfl
      have t2 : IntKind.u64.wrap (g : Int) = (g : Int) := by rw [IntKind.wrap_u64]; omega
      generalize g % 4 = k at *
      have t3 : IntKind.u64.wrap (k : Int) = (k : Int) := by rw [IntKind.wrap_u64]; omega
      have t4 : IntKind.i64.wrap (k : Int) = (k : Int) := by rw [IntKind.wrap_i64]; omega
      have t5 : wrap64 (k : Int) = (k : Int) := by unfold wrap64; omega
      have q1 : IntKind.i64.wrap (1048576 - m k) = 1048576 - m k := by rw [IntKind.wrap_i64]; omega
      by_cases g3 : 1048576 - m k < n
      · rw [if_pos g3] at hz
        have d3 : decide (1048576 - m k < n) = true := decide_eq_true g3
        have HZ := Box.mk hz
        clear hz g3
        go_enter Tryd.func23, Tryd.ntmps23
        go_wp2
        go_ret
        exact ⟨ret_int HZ.out.symm, HX.out⟩
      · rw [if_neg g3] at hz
        have d3 : decide (1048576 - m k < n) = false := decide_eq_false g3
        have HZ := Box.mk hz
        clear hz g3
        go_enter Tryd.func23, Tryd.ntmps23
        go_wp2
        go_ret
        exact ⟨ret_int HZ.out.symm, HX.out⟩
def lk (l : Nat → Int) (k j : Nat) : Int := if j < k then l j else 0
/-- can a counter with the width and the counts be made -/
def mdP (V : Int) (l : Nat → Int) : Prop := ∃ D : Nat, V = (D : Int) ∧ 1 ≤ D ∧ D ≤ 4294967296 ∧ ∀ k, k < 4 → useNo (lk l k) D (D * k) (l k) = 0
/-- what made returns: nil, or a counter with the width and the counts -/
def MdPost (w : World) (V : Int) (l : Nat → Int) (e : Ending) (w' : World) : Prop :=
  Ext w w' ∧ (¬ mdP V l → e = .returned (.pointer none)) ∧ (mdP V l → ∃ C D : Nat, V = (D : Int) ∧ e = .returned (.pointer (some ⟨C, 0, none⟩)) ∧ w.heap.size ≤ C ∧ Ctr w' C D l)
set_option maxRecDepth 100000 in
set_option maxHeartbeats 4000000 in
theorem made_any (w : World) (V : Int) (l : Nat → Int) : Calls Tryd.prog 25 #[.int .i64 V, .agg #[.int .i64 (l 0), .int .i64 (l 1), .int .i64 (l 2), .int .i64 (l 3)]] w (MdPost w V l) := by
  obtain ⟨Post, hPost⟩ : ∃ P, P = MdPost w V l := ⟨_, rfl⟩
  rw [← hPost]
  have HP := Box.mk hPost
  clear hPost
  have hx : Ext w (w.alloc (.cells #[.int .i64 (l 0), .int .i64 (l 1), .int .i64 (l 2), .int .i64 (l 3)] 50)) := Ext.alloc (Below.refl _ _) _
  have hU : Box ((w.alloc (.cells #[.int .i64 (l 0), .int .i64 (l 1), .int .i64 (l 2), .int .i64 (l 3)] 50)).heap[w.heap.size]? = some (.cells (Cells4i l) 50 (0, 0))) := ⟨newblk w _⟩
  by_cases hV : V < 1 ∨ 4294967296 < V
  · have hno : Box (¬ mdP V l) := ⟨fun ⟨D, h1, h2, h3, _⟩ => by omega⟩
    have cN : Box (∀ w, _) := ⟨fun w => cnew_bad V w hV⟩
    clear hV
    go_enter Tryd.func25, Tryd.ntmps25
    go_wp2_with (first | (go_at_call 22; (with_reducible refine (cN.out _).mono ?_); rintro e w1 ⟨rfl, hb⟩; have hx := Ext.trans' hx hb))
    rw [HP.out]
    exact ⟨hx, fun _ => rfl, fun h => absurd h hno.out⟩
  · obtain ⟨D, rfl⟩ : ∃ D : Nat, V = D := ⟨V.toNat, by omega⟩
    have h1 : 1 ≤ D := by omega
    have h2 : D ≤ 4294967296 := by omega
    have cN : Box (∀ w : World, Calls Tryd.prog 22 #[.int .i64 D] w fun e w' => ∃ C, e = .returned (.tuple #[.pointer (some ⟨C, 0, none⟩), .int .i64 0]) ∧ w.heap.size ≤ C ∧ Ctr w' C D z0 ∧ Ext w w') := ⟨fun w => (cnew_ok D w h1 h2).mono fun e w' ⟨h1, h2, h3⟩ => ⟨_, h1, Nat.le_refl _, h2, h3⟩⟩
    clear hV
    go_enter Tryd.func25, Tryd.ntmps25
    go_wp2_with (first
      | (go_at_call 22; (with_reducible refine (cN.out _).mono ?_); rintro e w1 ⟨C, rfl, hCs, hC, hb⟩; have hC := Box.mk hC; have hx1 := Box.mk (Ext.trans' hx hb); have hU1 := Box.mk (Ext.blk hb hU.out); have hCw := hCs; simp only [World.size_alloc] at hCw; clear hb))
    have hC0 : Box (Ctr w1 C D (lk l 0)) := ⟨hC.out.congr fun j hj => by unfold lk; rw [if_neg (Nat.not_lt_zero j)]; rfl⟩
    clear hx hU hC hCs
    go_loopw [7] (fun i wr => ∃ k : Nat, k ≤ 4 ∧ i = .int .i64 k ∧ Box (∀ j, j < k → useNo (lk l j) D (D * j) (l j) = 0) ∧ Box (Ctr wr C D (lk l k)) ∧ Box (wr.heap[w.heap.size]? = some (.cells (Cells4i l) 50 (0, 0))) ∧ Box (Ext w wr)) (fun i _ => 4 - (intOf i).toNat)
    case atStart => exact ⟨0, by omega, rfl, ⟨fun j hj => by omega⟩, hC0, hU1, hx1⟩
    case round =>
      obtain ⟨k, hk, rfl, hal, hC, hU, hE⟩ := hrel
      by_cases hk4 : k < 4
      · have n1 : (0 : Int) ≤ (k : Int) := by omega
        have n2 : (k : Int) < 4 := by omega
        have n2' : decide ((k : Int) < 4) = true := decide_eq_true n2
        obtain ⟨c0, _⟩ := cells4i_at hU.out k hk4
        have q0 : IntKind.u64.wrap (D : Int) = D := by rw [IntKind.wrap_u64]; omega
        have q1 : IntKind.u64.wrap (k : Int) = k := by rw [IntKind.wrap_u64]; omega
        have hDk : D * k ≤ 4294967296 * 4 := Nat.mul_le_mul h2 (by omega)
        have q2 : IntKind.u64.wrap ((D : Int) * (k : Int)) = ((D * k : Nat) : Int) := by rw [← Int.natCast_mul, IntKind.wrap_u64]; omega
        have hdk : D * k / D % 4 = k := by rw [Nat.mul_div_cancel_left _ (by omega)]; omega
        have hnow : D * k < 18446744073709551616 := by omega
        by_cases hz : useNo (lk l k) D (D * k) (l k) = 0
        · have cU : Box _ := ⟨use_ok wr C D (D * k) (l k) (lk l k) hC.out hnow hz⟩
          rw [hdk] at cU
          have hal2 : Box (∀ j, j < k + 1 → useNo (lk l j) D (D * j) (l j) = 0) := ⟨fun j hj => by
            by_cases e : j = k
            · subst e; exact hz
            · exact hal.out j (by omega)⟩
          have hnx : Box (∀ w, Ctr w C D (upd (lk l k) k (lk l k k + l k)) → Ctr w C D (lk l (k + 1))) := ⟨fun w h => h.congr fun j hj => by
            unfold upd lk
            by_cases e : j = k
            · subst e; simp
            · by_cases e2 : j < k
              · simp [e, e2, show j < k + 1 by omega]
              · simp [e, e2, show ¬ j < k + 1 by omega]⟩
          clear hz hdk hnow hDk
          generalize D * k = now at *
          generalize l k = x at *
          go_wp2_with (first
            | (go_at_call 24; (with_reducible refine cU.out.mono ?_); rintro e w2 ⟨rfl, hC2, hT2⟩; have hC2 := Box.mk hC2; have hT2 := Box.mk hT2))
          go_roundw
          case rel => exact ⟨k + 1, by omega, by go_num, hal2, ⟨hnx.out _ hC2.out⟩, ⟨hT2.out.blk hU.out (by omega)⟩, ⟨hT2.out.ext _ hE.out (by omega)⟩⟩
          case measure => simp [intOf]; omega
        · have cU : Box _ := ⟨use_no wr C D (D * k) (l k) (lk l k) hC.out hnow hz⟩
          have hno : Box (¬ mdP (D : Int) l) := ⟨fun ⟨D', h1, _, _, h4⟩ => by
            obtain rfl : D = D' := by omega
            exact hz (h4 k hk4)⟩
          have e0 : (useNo (lk l k) D (D * k) (l k) != 0) = true := by rw [bne_iff_ne]; exact hz
          clear hz hdk hnow hDk
          generalize useNo (lk l k) D (D * k) (l k) = z at *
          generalize D * k = now at *
          generalize l k = x at *
          go_wp2_with (first
            | (go_at_call 24; (with_reducible refine cU.out.mono ?_); rintro e w2 ⟨rfl, hb2⟩; have hb2 := Box.mk hb2))
          rw [HP.out]
          exact ⟨Ext.trans' hE.out hb2.out, fun _ => rfl, fun h => absurd h hno.out⟩
      · obtain rfl : k = 4 := by omega
        have hfin : Box (Ctr wr C D l) := ⟨hC.out.congr fun j hj => by unfold lk; rw [if_pos hj]⟩
        go_wp2
        rw [HP.out]
        exact ⟨hE.out, fun h => absurd ⟨D, rfl, h1, h2, hal.out⟩ h, fun _ => ⟨C, D, rfl, rfl, by omega, hfin.out⟩⟩
end Go.Proofs.YtbnmnkmjokcmfaaDoor
