import Derived.Test.YthlnhemdhlkhfaaDoorDS
import Derived.Test.YthlnhemdhlkhfaaDoorD29
/- The walk of LoadHolds. -/
namespace Go.Proofs.YthlnhemdhlkhfaaDoor
open Go.RowKit

theorem CellsAt.keepSet {w : World} {a : Option Addr} {cs : List Value} (h : CellsAt w a cs) {p : Addr} {x : Value} (hp : w.cell? p = some x) (hx : x ∉ cs) (v : Value) : CellsAt (w.setCell p v) a cs := by
  intro j u hj
  obtain ⟨b, o, ha, hc⟩ := h j u hj
  refine ⟨b, o, ha, ?_⟩
  by_cases e : p = ⟨b, o + j, none⟩
  · subst e
    rw [hp] at hc
    cases hc
    exact absurd (List.mem_of_getElem? hj) hx
  · rw [World.cell?_setCell_other (h := e)]; exact hc
theorem u32s_no (f : Nat → Nat) (n : Nat) (z : Int) : Value.int .i64 z ∉ u32s f n := by
  simp [u32s]
theorem CellsAt.fewer {w : World} {a : Option Addr} {f : Nat → Nat} {n m : Nat} (h : CellsAt w a (u32s f n)) (hm : m ≤ n) : CellsAt w a (u32s f m) := by
  intro j u hj
  have hjm : j < m := by
    have := (List.getElem?_eq_some_iff.1 hj).1
    simpa [u32s] using this
  rw [u32s_at f hjm] at hj
  exact h j u (by rw [u32s_at f (by omega)]; exact hj)
theorem add_zero' (x : Addr) (h : x.spot = none) : x.add (0 * 1) = x := by
  obtain ⟨b, o, s⟩ := x
  cases h
  rfl
theorem textB_size {k a r p s : Nat} (V : Vld k a r p s) : (textB k a r p s).size ≤ 100000 := by
  have h1 := V.s64; have h2 := V.a1; have h3 := V.a2; have h4 := V.r2
  have hp6 : p ≤ 4096 := by rcases V.k6 with h | h | h | h | h | h <;> omega
  have z0 := wordB_size k
  have z1 := digs_size a (by omega)
  have z2 := digs_size r (by omega)
  have z3 := digs_size p (by omega)
  have z4 := digs_size s h1
  have e1 : (⟨#[32, 107, 101, 121, 115, 61]⟩ : ByteArray).size = 6 := rfl
  have e2 : (⟨#[32, 114, 101, 113, 117, 101, 115, 116, 115, 61]⟩ : ByteArray).size = 10 := rfl
  have e3 : (⟨#[32, 112, 97, 114, 116, 61]⟩ : ByteArray).size = 6 := rfl
  have e4 : (⟨#[32, 115, 101, 101, 100, 61]⟩ : ByteArray).size = 6 := rfl
  unfold textB
  simp only [ByteArray.size_append, e1, e2, e3, e4]
  omega
set_option maxRecDepth 100000 in
set_option maxHeartbeats 4000000 in
theorem holds_known (k a r p : Int) (s : Nat) (m : Int) (W : World) (h : vldL k a r p s = false ∨ m < 0 ∨ r < m) (ht : Env W) :
    Calls Tryd.prog 7 #[(.agg #[.int .i64 (k), .int .i64 (a), .int .i64 (r), .int .i64 (p), .int .u64 (s)]), .int .i64 m] W fun e W' => e = .returned (.bool true) ∧ Below W.heap.size W W' := by
  have ck : Box (∀ w, Ext W w → Calls Tryd.prog 10 #[] w fun e w' => e = .returned (.bool true) ∧ Ext w w') := ⟨fun w h => known_any w (ht.ext h)⟩
  have cv : Box _ := ⟨fun w => refValid_any k a r p s w⟩
  have hX : Ext W (W.alloc (.cells #[.int .i64 (k), .int .i64 (a), .int .i64 (r), .int .i64 (p), .int .u64 (s)] 28)) := Ext.alloc (Below.refl _ _) _
  have hB := newblk W (.cells #[.int .i64 (k), .int .i64 (a), .int .i64 (r), .int .i64 (p), .int .u64 (s)] 28)
  obtain ⟨m0, m1, m2, m3, m4⟩ := blk5 hB
  have key : vldL k a r p s = false ∨ (vldL k a r p s = true ∧ decide (m < 0) = true) ∨ (vldL k a r p s = true ∧ decide (m < 0) = false ∧ decide (r < m) = true) := by
    cases hv : vldL k a r p s with
    | false => exact .inl rfl
    | true =>
      rw [hv] at h
      rcases h with h | h | h
      · cases h
      · exact .inr (.inl ⟨rfl, decide_eq_true h⟩)
      · by_cases h2 : m < 0
        · exact .inr (.inl ⟨rfl, decide_eq_true h2⟩)
        · exact .inr (.inr ⟨rfl, decide_eq_false h2, decide_eq_true h⟩)
  clear h ht
  rcases key with hv | ⟨hv, d1⟩ | ⟨hv, d1, d2⟩
  all_goals
    rw [hv] at cv
    clear hv
    go_enter Tryd.func7, Tryd.ntmps7
    go_wp2_with (first
      | (go_at_call 12; (with_reducible refine (cv.out _).mono ?_); rintro e w1 ⟨rfl, hb⟩; (try clear m0 m1 m2 m3 m4); have hX := Ext.trans' hX hb; have hB := Ext.blk hb hB; obtain ⟨m0, m1, m2, m3, m4⟩ := blk5 hB)
      | (go_at_call 10; (with_reducible refine (ck.out _ hX).mono ?_); rintro e w1 ⟨rfl, hb⟩; have hX := Ext.trans' hX hb))
    go_ret
    exact ⟨rfl, hX⟩
end Go.Proofs.YthlnhemdhlkhfaaDoor
