import Derived.Test.YtnblbneehogadaaH12
/- Contracts for known: adds, Take where it errs; events that stay. -/
namespace Go.Proofs.Ytnblbneehogadaa
open Go.RowKit Go.ChangeMaps
theorem By.block {w w' : World} {v : Value} {l : List UInt8} (h : By w v l) (hb : ∀ b, v.ownBlock = some b → w'.heap[b]? = w.heap[b]?) : By w' v l := by
  obtain ⟨a, c, rfl, h2, h3, h4, h5⟩ := h
  refine ⟨a, c, rfl, h2, h3, h4, fun hn => ?_⟩
  obtain ⟨b, o, rfl, hc⟩ := h5 hn
  exact ⟨b, o, rfl, fun i hi => (cell_of_block (hb b rfl) _).trans (hc i hi)⟩
/-- A slice of events stays where others change. -/
theorem Xs.mut {w w' : World} {Q : Nat → Prop} {a : Option Addr} {n c : Nat} {M : List EvX} (h : Xs w (.slice a n c) M) (hM : Mut Q w w') (ha : ∀ b o, a = some ⟨b, o, none⟩ → ¬ Q b) (hu : ∀ y ∈ M, ∀ b, y.u.ownBlock = some b → b < w.heap.size ∧ ¬ Q b) : Xs w' (.slice a n c) M := by
  obtain ⟨a', c', hv, h1, h2, h3, h4⟩ := h
  refine ⟨a', c', hv, h1, h2, fun j u hj => ?_, fun y hy => ⟨(h4 y hy).1, (h4 y hy).2.1, (h4 y hy).2.2.block fun b hb => hM.other b (hu y hy b hb).1 (hu y hy b hb).2⟩⟩
  obtain ⟨b, o, he, hc⟩ := h3 j u hj
  refine ⟨b, o, he, ?_⟩
  simp only [Value.slice.injEq] at hv
  rw [cell_of_block (hM.other b (lt_of_cell hc) (ha b o (hv.1.trans he)))]
  exact hc
set_option maxHeartbeats 1000000 in
theorem htake_no {base : Nat} {w : World} {H : Nat} {mo : Option Nat} {L : List (Int × WtX)} (h : HubOk base w H mo L) {id : Int} (hid : id ∉ L.map (·.1)) (k : Nat) :
    Calls Try.prog 19 #[.pointer (some ⟨H, 0, none⟩), .int .i64 id, .int .i64 (k : Nat)] w fun e w' => e = .returned (.tuple #[.slice none 0 0, .int .i64 9]) ∧ w = w' := by
  have c1 := Box.mk (find_no h hid)
  have k0 : decide ((k : Int) < 0) = false := decide_eq_false (by omega)
  clear h hid
  go_enter Try.func19, Try.ntmps19
  go_wp2_with (first | (go_at_call 39; (with_reducible refine (c1.out).mono ?_); rintro e w' ⟨rfl, rfl⟩))
  go_ret2
  exact ⟨rfl, rfl⟩
set_option maxHeartbeats 1000000 in
theorem htake_neg (H : Nat) (id k : Int) (hk : k < 0) (w : World) :
    Calls Try.prog 19 #[.pointer (some ⟨H, 0, none⟩), .int .i64 id, .int .i64 k] w fun e w' => e = .returned (.tuple #[.slice none 0 0, .int .i64 2]) ∧ w = w' := by
  have k0 : decide (k < 0) = true := decide_eq_true hk
  clear hk
  go_enter Try.func19, Try.ntmps19
  go_wp2
  go_ret2
  exact ⟨rfl, rfl⟩
theorem adds_ok {base : Nat} {w : World} {H : Nat} {mo : Option Nat} {L : List (Int × WtX)} (h : HubOk base w H mo L) (pre : ByteArray) (ka : Option Addr) (kc : Nat) (ks : List Int) (room : Nat) (old : Bool) (hC : CellsAt w ka (ks.map (Value.int .i64))) (hn : ks.length ≤ 9223372036854775807) (hp : pre.size ≤ 9223372036854775807) (hv : validB pre ks (room : Nat) = true) (hL : L.length < 64) (hb : base ≤ w.heap.size)
    (i : Nat) (hi : ((i : Nat) : Int) ∉ L.map (·.1)) (hi2 : ∀ k, k < i → ((k : Nat) : Int) ∈ L.map (·.1)) :
    Calls Try.prog 11 #[.pointer (some ⟨H, 0, none⟩), .agg #[.string pre, .slice ka ks.length kc, .int .i64 (room : Nat), .bool old], .int .i64 (i : Nat), .int .i64 0] w fun e w' => e = .returned (.bool true) ∧ ∃ (mbx B : Nat) (kv : Value), HubOk base w' H (some mbx) (L ++ [(((i : Nat) : Int), newW B pre kv ks room old)]) ∧ w.heap.size ≤ B ∧ (mo = some mbx ∨ w.heap.size ≤ mbx) ∧ Mut (fun q => q = H ∨ mo = some q) w w' := by
  have hx : Ext w (w.alloc (.cells #[.string pre, .slice ka ks.length kc, .int .i64 (room : Nat), .bool old] 24)) := Ext.alloc (Below.refl _ _) _
  have h1 := add_ok (h.ext hx) pre ka kc ks room old (CellsAt.ext hx hC) hn hp hv hL (Nat.le_trans hb hx.size)
  have h2 := adds_of (some ⟨H, 0, none⟩) pre ka ks.length kc (room : Nat) old ((i : Nat) : Int) 0 ((i : Nat) : Int) 0 w (R := fun w' => ∃ (mbx B : Nat) (kv : Value), HubOk base w' H (some mbx) (L ++ [(((i : Nat) : Int), newW B pre kv ks room old)]) ∧ w.heap.size ≤ B ∧ (mo = some mbx ∨ w.heap.size ≤ mbx) ∧ Mut (fun q => q = H ∨ mo = some q) w w') (h1.mono (by
    rintro e w' ⟨i', mbx, B, kv, he, g1, g2, _, g3, g4, g5, g6⟩
    have hii : i' = i := by
      rcases Nat.lt_trichotomy i' i with h | h | h
      · exact absurd (hi2 i' h) g1
      · exact h
      · exact absurd (g2 i h) hi
    subst hii
    refine ⟨he, mbx, B, kv, g3, Nat.le_trans hx.size g4, ?_, Mut.extL hx g6⟩
    rcases g5 with g5 | g5
    · exact Or.inl g5
    · exact Or.inr (Nat.le_trans hx.size g5)))
  refine h2.mono ?_
  rintro e w' ⟨he, hr⟩
  exact ⟨by rw [he]; simp, hr⟩
theorem adds_bad {base : Nat} {w : World} {H : Nat} {mo : Option Nat} {L : List (Int × WtX)} (h : HubOk base w H mo L) (pre : ByteArray) (ka : Option Addr) (kc : Nat) (ks : List Int) (room : Int) (old : Bool) (hC : CellsAt w ka (ks.map (Value.int .i64))) (hn : ks.length ≤ 9223372036854775807) (hp : pre.size ≤ 9223372036854775807) (hv : validB pre ks room = false) :
    Calls Try.prog 11 #[.pointer (some ⟨H, 0, none⟩), .agg #[.string pre, .slice ka ks.length kc, .int .i64 room, .bool old], .int .i64 0, .int .i64 2] w fun e w' => e = .returned (.bool true) ∧ Ext w w' := by
  have hx : Ext w (w.alloc (.cells #[.string pre, .slice ka ks.length kc, .int .i64 room, .bool old] 24)) := Ext.alloc (Below.refl _ _) _
  have h2 := adds_of (some ⟨H, 0, none⟩) pre ka ks.length kc room old 0 2 0 2 w (R := fun w' => Ext w w') ((add_bad (h.ext hx) pre ka kc ks room old (CellsAt.ext hx hC) hn hp hv).mono (by
    rintro e w' ⟨he, hr⟩
    exact ⟨he, Ext.trans' hx hr⟩))
  refine h2.mono ?_
  rintro e w' ⟨he, hr⟩
  exact ⟨by rw [he]; simp, hr⟩
theorem llost_ok {base : Nat} {w : World} {H : Nat} {mo : Option Nat} {L : List (Int × WtX)} (h : HubOk base w H mo L) {j : Nat} {id : Int} {x : WtX} (hj : L[j]? = some (id, x)) (m : Int) (hm : (x.lost : Int) = m) :
    Calls Try.prog 14 #[.pointer (some ⟨H, 0, none⟩), .int .i64 id, .int .i64 m] w fun e w' => e = .returned (.bool true) ∧ w = w' := by
  have h2 := llost_of (some ⟨H, 0, none⟩) id (x.lost : Nat) 0 m w (R := fun w' => w = w') (lost_ok h hj)
  refine h2.mono ?_
  rintro e w' ⟨he, hr⟩
  exact ⟨by rw [he, hm]; simp, hr⟩
end Go.Proofs.Ytnblbneehogadaa
