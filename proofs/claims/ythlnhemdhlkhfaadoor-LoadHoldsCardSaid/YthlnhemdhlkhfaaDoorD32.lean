import Derived.Test.YthlnhemdhlkhfaaDoorD31
/- The walk of LoadCounts. -/
namespace Go.Proofs.YthlnhemdhlkhfaaDoor
open Go.RowKit

theorem wpList_app {P : Program} {ops : Array Oper} {rest : List Oper} {o : Oper} {a : Act} {Q : Exit → Act → World → Prop} {w : World} (hg : o.guard = none) (s x : Operand) (t u : TypeId)
    (ho : o.op = .call { callee := .builtin .append, args := #[s, x], argTypes := #[t, u] }) (v v2 v' : Value) (w' : World) (hs : a.eval s = v) (hx : a.eval x = v2)
    (hrun : (Builtin.append_ #[t, u] o.type #[v, v2]).run P w = .ok v' w') (h : wpList P ops Q rest (a.put o.dst v') w') : wpList P ops Q (o :: rest) a w := by
  refine wpList_plain hg fun K hK' => ?_
  unfold Oper.wp
  simp [execOp, ho, resolve, invoke, builtin, hs, hx, hrun, Result.andThen]
  exact hK' _ _ h
theorem ints_nil (w : World) : Calls Tryd.prog 18 #[.slice none 0 0, .slice none 0 0] w fun e w' => e = .returned (.bool true) ∧ Ext w w' :=
  ints_any _ _ 0 (fun _ => 0) w (Sl.nil w) (Sl.nil w)
/-- The numbers of a trace. -/
def zF (zs : List Int) : Nat → Nat := fun i => (zs.getD i 0).toNat
theorem zF_cells (zs : List Int) (h : ∀ z ∈ zs, (Lit.int .u32 z).wf = true) : u32s (zF zs) zs.length = zs.map (Value.int .u32) := by
  apply List.ext_getElem (by simp [u32s])
  intro i h1 h2
  have hi : i < zs.length := by simpa [u32s] using h1
  have hz := wf_u32 (h _ (List.getElem_mem hi))
  simp [u32s, zF, hi]
  omega
theorem zF_lt (zs : List Int) (h : ∀ z ∈ zs, (Lit.int .u32 z).wf = true) (i : Nat) (hi : i < zs.length) : zF zs i < 4294967296 := by
  have hz := wf_u32 (h _ (List.getElem_mem hi))
  simp [zF, hi]
  omega
set_option maxRecDepth 100000 in
set_option maxHeartbeats 4000000 in
theorem counts_big (a : Option Addr) (n c : Nat) (kk lg : Value) (W : World) (hn : 300 < n) (hm : n ≤ 9223372036854775807) (ht : Env W) :
    Calls Tryd.prog 5 #[.slice a n c, kk, lg] W fun e W' => e = .returned (.bool true) ∧ Below W.heap.size W W' := by
  have ck : Box (∀ w, Ext W w → Calls Tryd.prog 10 #[] w fun e w' => e = .returned (.bool true) ∧ Ext w w') := ⟨fun w h => known_any w (ht.ext h)⟩
  have hx : Ext W W := Below.refl _ _
  have d1 : decide (300 < (n : Int)) = true := decide_eq_true (by omega)
  have d2 : decide (300 < n) = true := decide_eq_true hn
  clear ht
  go_enter Tryd.func5, Tryd.ntmps5
  go_wp2_with (first | (go_at_call 10; (with_reducible refine (ck.out _ hx).mono ?_); rintro e w1 ⟨rfl, hb⟩; have hx := Ext.trans' hx hb))
  go_ret
  exact ⟨rfl, hx⟩
set_option maxHeartbeats 1000000 in
theorem counts_long2 (ad : Option Addr) (n c : Nat) (a : Int) (w : World) (hn : 4096 < n) (hm : n ≤ 100000) : Calls Tryd.prog 16 #[.slice ad n c, .int .i64 a] w fun e w' => e = .returned (.tuple #[.slice none 0 0, .int .i64 5]) ∧ w = w' := by
  have d1 : decide (4096 < (n : Int)) = true := decide_eq_true (by omega)
  go_enter Tryd.func16, Tryd.ntmps16
  go_wp2
  go_ret2
  exact ⟨rfl, rfl⟩
set_option maxHeartbeats 1000000 in
theorem refCounts_long2 (ad : Option Addr) (n c : Nat) (a : Int) (w : World) (hn : 4096 < n) (hm : n ≤ 100000) : Calls Tryd.prog 17 #[.slice ad n c, .int .i64 a] w fun e w' => e = .returned (.tuple #[.slice none 0 0, .int .i64 5]) ∧ w = w' := by
  have d1 : decide (4096 < (n : Int)) = true := decide_eq_true (by omega)
  go_enter Tryd.func17, Tryd.ntmps17
  go_wp2
  go_ret2
  exact ⟨rfl, rfl⟩
set_option maxRecDepth 100000 in
set_option maxHeartbeats 4000000 in
theorem counts_seven (a : Option Addr) (n c : Nat) (zs : List Int) (kk : Int) (W : World) (hl : zs.length = n) (hn : n ≤ 300) (hc : CellsAt W a (zs.map (Value.int .u32))) (ht : Env W) :
    Calls Tryd.prog 5 #[.slice a n c, .int .i64 kk, .int .u8 7] W fun e W' => e = .returned (.bool true) ∧ Below W.heap.size W W' := by
  have ck : Box (∀ w, Ext W w → Calls Tryd.prog 10 #[] w fun e w' => e = .returned (.bool true) ∧ Ext w w') := ⟨fun w h => known_any w (ht.ext h)⟩
  obtain ⟨a1, c1, w1, a2, c2, w2, e1, e2, hx⟩ := long_trace W a n c zs hl hn hc
  have cc : Box _ := ⟨fun w => counts_long2 a2 4097 c2 kk w (by decide) (by decide)⟩
  have cr : Box _ := ⟨fun w => refCounts_long2 a2 4097 c2 kk w (by decide) (by decide)⟩
  have ci : Box _ := ⟨fun w => ints_nil w⟩
  have d1 : decide (300 < (n : Int)) = false := decide_eq_false (by omega)
  have d2 : decide (300 < n) = false := decide_eq_false (by omega)
  have u1 : IntKind.i64.wrap (4097 - (n : Int)) = 4097 - (n : Int) := by rw [IntKind.wrap_i64]; omega
  clear ht hc hl
  go_enter Tryd.func5, Tryd.ntmps5
  go_wp2_with (first
    | (at_builtin; refine wpList_app rfl _ _ _ _ rfl _ _ _ _ rfl rfl e1 ?_)
    | (at_builtin; refine wpList_app rfl _ _ _ _ rfl _ _ _ _ rfl rfl e2 ?_)
    | (go_at_call 16; (with_reducible refine (cc.out _).mono ?_); rintro e w' ⟨rfl, rfl⟩)
    | (go_at_call 17; (with_reducible refine (cr.out _).mono ?_); rintro e w' ⟨rfl, rfl⟩)
    | (go_at_call 18; (with_reducible refine (ci.out _).mono ?_); rintro e w1 ⟨rfl, hb⟩; have hx := Ext.trans' hx hb)
    | (go_at_call 10; (with_reducible refine (ck.out _ hx).mono ?_); rintro e w1 ⟨rfl, hb⟩; have hx := Ext.trans' hx hb))
  go_ret
  exact ⟨rfl, hx⟩
end Go.Proofs.YthlnhemdhlkhfaaDoor
