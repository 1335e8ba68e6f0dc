import Derived.Test.YtbhfpofcebepiaaB28
/- The contract of the reference's Turns. -/
namespace Go.Proofs.Ytbhfpofcebepiaa
open Go.RowKit
theorem own_other {W W' : World} {base s s' n n' : Nat} {e e' : TypeId} {v v' : Value} {xs xs' : List Value} (h : W.ownsRow base e s v n xs) (h' : W.ownsRow base e' s' v' n' xs') (hne : e ≠ e') (hg : W.grownBy W' v'.ownBlock) : W'.ownsRow base e s v n xs := by
  refine ⟨h.1, ?_⟩
  rcases h.2 with ⟨rfl, h0⟩ | ⟨g, cap, cur, rfl, hbg, hgb, rest⟩
  · exact Or.inl ⟨rfl, h0⟩
  · refine Or.inr ⟨g, cap, cur, rfl, hbg, (hg.block g (blk_lt hgb) (fun e9 => ?_)).trans hgb, rest⟩
    rcases h'.2 with ⟨rfl, _⟩ | ⟨g', cap', cur', rfl, _, hgb', _⟩
    · cases e9
    · simp only [Value.ownBlock, Option.some.injEq] at e9
      subst e9
      rw [hgb] at hgb'
      simp only [Option.some.injEq, Obj.cells.injEq] at hgb'
      exact hne hgb'.2.1
theorem own_base {W : World} {base base' s n : Nat} {e : TypeId} {v : Value} {xs : List Value} (h : W.ownsRow base e s v n xs) (hb : base' ≤ base) : W.ownsRow base' e s v n xs := by
  refine ⟨h.1, ?_⟩
  rcases h.2 with h0 | ⟨g, cap, cur, hv, hbg, rest⟩
  · exact Or.inl h0
  · exact Or.inr ⟨g, cap, cur, hv, Nat.le_trans hb hbg, rest⟩
theorem u32L_len (L : List Nat) : (u32L L).length = L.length := by simp [u32L]
/-- Between two rounds. -/
structure RtR (w : World) (M : List TnB) (m : Nat) (O : List Nat) (a5 : Option Addr) (c5 : Nat) (a6 : Option Addr) (c6 : Nat) (W : World) : Prop where
  ext : Ext w W
  len : M.length = m
  out : W.ownsRow w.heap.size 50 3 (.slice a5 m c5) m (rows TnB.cs M)
  keys : W.ownsRow w.heap.size 45 1 (.slice a6 O.length c6) O.length (u32L O)
theorem tn_ne : (50 : TypeId) ≠ 45 := by decide
section
variable {w : World} {M : List TnB} {m : Nat} {O : List Nat} {a5 a6 : Option Addr} {c5 c6 : Nat} {W W' : World}
theorem RtR.of_ext (h : RtR w M m O a5 c5 a6 c6 W) (hx : Ext W W') : RtR w M m O a5 c5 a6 c6 W' := ⟨Ext.trans' h.ext hx, h.len, ownsRow_ext hx h.out, ownsRow_ext hx h.keys⟩
theorem RtR.grow_out {x : TnB} {v : Value} (h : RtR w M m O a5 c5 a6 c6 W) (hg : W.grownBy W' (Value.slice a5 m c5).ownBlock) (hb : Below w.heap.size W W') (ho : W'.ownsRow w.heap.size 50 3 v (m + 1) (rows TnB.cs M ++ x.cs)) : ∃ a c, v = .slice a (m + 1) c ∧ RtR w (M ++ [x]) (m + 1) O a c a6 c6 W' := by
  obtain ⟨a, c, rfl⟩ := slice_form ho
  have e : rows TnB.cs M ++ x.cs = rows TnB.cs (M ++ [x]) := by simp [rows]
  refine ⟨a, c, rfl, Below.trans h.ext hb, by rw [List.length_append, h.len]; rfl, ?_, own_other h.keys h.out (fun e => tn_ne e.symm) hg⟩
  rw [← e]
  exact ho
theorem RtR.grow_keys {x : Nat} {v : Value} (h : RtR w M m O a5 c5 a6 c6 W) (hg : W.grownBy W' (Value.slice a6 O.length c6).ownBlock) (hb : Below w.heap.size W W') (ho : W'.ownsRow w.heap.size 45 1 v (O.length + 1) (u32L O ++ [.int .u32 (x : Nat)])) : ∃ a c, v = .slice a (O.length + 1) c ∧ RtR w M m (O ++ [x]) a5 c5 a c W' := by
  obtain ⟨a, c, rfl⟩ := slice_form ho
  refine ⟨a, c, rfl, Below.trans h.ext hb, h.len, own_other h.out h.keys tn_ne hg, ?_⟩
  rw [List.length_append, u32L_snoc]
  exact ho
theorem RtR.without {x : Nat} {a c : _} (h : RtR w M m O a5 c5 a6 c6 W) (hx : Ext W W') (ho : W'.ownsRow W.heap.size 45 1 (.slice a (woB O x).length c) (woB O x).length (u32L (woB O x))) : RtR w M m (woB O x) a5 c5 a c W' :=
  ⟨Ext.trans' h.ext hx, h.len, ownsRow_ext hx h.out, own_base ho h.ext.size⟩
end
end Go.Proofs.Ytbhfpofcebepiaa
