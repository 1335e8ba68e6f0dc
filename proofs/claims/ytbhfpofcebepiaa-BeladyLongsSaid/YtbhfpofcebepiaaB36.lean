import Derived.Test.YtbhfpofcebepiaaB35
/- Turns that come in; the law BeladyChecks. -/
namespace Go.Proofs.Ytbhfpofcebepiaa
open Go.RowKit Go.Lib
theorem at_of_take {α : Type} {l : List α} {o : Nat} {a : α} (h : (l.drop o).take 1 = [a]) : l[o]? = some a := by
  have := congrArg (fun x => x[0]?) h
  simpa [List.getElem?_take, List.getElem?_drop] using this
theorem list3 {α : Type} {l : List α} (h : l.length = 3) : ∃ a b c, l = [a, b, c] :=
  match l, h with
  | [a, b, c], _ => ⟨a, b, c, rfl⟩
def TnOk (_ : TnB) : Prop := True
theorem tn_of_trod {P : Program} {H : Type} {enc : TypeId × Value → H} {t : TypeId} {f0 f1 f2 : Field} {base : Nat} {W : World} {sp : Nat → Bool} {held : Bool}
    (hs : P.underlying t = some (.struct #[f0, f1, f2])) (o0 : f0.offset = 0) (o1 : f1.offset = 1) (o2 : f2.offset = 2) (k0 : P.cellsOf f0.type = 1) (k1 : P.cellsOf f1.type = 1) (k2 : P.cellsOf f2.type = 1)
    (h0 : P.underlying f0.type = some .bool) (h1 : P.underlying f1.type = some .bool) (h2 : P.underlying f2.type = some (.int .u32))
    (cs : List Value) (n : Nat) (y : DataW H × List MemPlace) (h : DataW.trod enc P W base sp held n t cs = some y) (hl : cs.length = 3) : ∃ x, cs = TnB.cs x ∧ TnOk x := by
  obtain ⟨y0, n0, t0⟩ := fields_at hs h 0 f0 rfl
  obtain ⟨y1, n1, t1⟩ := fields_at hs h 1 f1 rfl
  obtain ⟨y2, n2, t2⟩ := fields_at hs h 2 f2 rfl
  rw [o0, k0] at t0; rw [o1, k1] at t1; rw [o2, k2] at t2
  obtain ⟨x0, e0, _⟩ := DataW.trod_bool h0 t0
  obtain ⟨x1, e1, _⟩ := DataW.trod_bool h1 t1
  obtain ⟨x2, e2, _, w2⟩ := DataW.trod_int h2 t2
  have g0 := at_of_take e0; have g1 := at_of_take e1; have g2 := at_of_take e2
  obtain ⟨c0, c1, c2, rfl⟩ := list3 hl
  simp at g0 g1 g2
  subst g0 g1 g2
  have hz := wf_u32 w2
  obtain ⟨m, rfl⟩ : ∃ m : Nat, x2 = m := ⟨x2.toNat, by omega⟩
  exact ⟨⟨x0, x1, m⟩, rfl, trivial⟩
abbrev TurnsArg (W : World) (v : Value) (L : List TnB) : Prop := RowsArg TnB.cs TnOk W v L
theorem open_turns {P : Program} {H : Type} {enc : TypeId × Value → H} {ts t : TypeId} {f0 f1 f2 : Field} {base : Nat} {W : World} {v : Value} {d : DataW H} {p : List MemPlace}
    (ht : P.underlying ts = some (.slice t)) (hs : P.underlying t = some (.struct #[f0, f1, f2])) (hC : P.cellsOf t = 3) (o0 : f0.offset = 0) (o1 : f1.offset = 1) (o2 : f2.offset = 2) (k0 : P.cellsOf f0.type = 1) (k1 : P.cellsOf f1.type = 1) (k2 : P.cellsOf f2.type = 1)
    (h0 : P.underlying f0.type = some .bool) (h1 : P.underlying f1.type = some .bool) (h2 : P.underlying f2.type = some (.int .u32))
    (ho : Value.okWide P W .any base ts v) (h : DataW.Trod enc P W 0 (fun _ => true) true ts v d p) : ∃ L, TurnsArg W v L :=
  open_rows TnB.cs 3 (fun _ => rfl) TnOk (by decide) ht hC (fun _ _ _ cs n y hh hl => tn_of_trod hs o0 o1 o2 k0 k1 k2 h0 h1 h2 cs n y hh hl) ho h
set_option maxRecDepth 100000 in
set_option maxHeartbeats 4000000 in
theorem checks_core (a b : Option Addr) (c d : Nat) (L : List Nat) (ts : List TnB) (a1 : Int) (W : World) (hC : CellsAt W a (u32L L)) (hD : CellsAt W b (rows TnB.cs ts)) :
    Calls Try.prog 5 #[.slice a L.length c, .int .i64 a1, .slice b ts.length d] W fun e W' => e = .returned (.bool true) ∧ Below W.heap.size W W' := by
  have cK : Box (∀ w, _) := ⟨fun w => known_any w⟩
  by_cases hL : 200 < L.length
  · have d1 : decide ((L.length : Int) > 200) = true := decide_eq_true (by omega)
    have d2 : decide ((200 : Int) < (L.length : Int)) = true := decide_eq_true (by omega)
    have d3 : decide (200 < L.length) = true := decide_eq_true hL
    clear hC hD
    generalize L.length = n at *
    generalize ts.length = m at *
    go_enter Try.func5, Try.ntmps5
    go_wp2_with (first | (go_at_call 9; (with_reducible refine (cK.out _).mono ?_); rintro e w1 ⟨rfl, hx1⟩))
    go_ret
    exact ⟨rfl, hx1⟩
  · have d1 : decide ((L.length : Int) > 200) = false := decide_eq_false (by omega)
    have d2 : decide ((200 : Int) < (L.length : Int)) = false := decide_eq_false (by omega)
    have d3 : decide (200 < L.length) = false := decide_eq_false hL
    by_cases hT : 200 < ts.length
    · have e1 : decide ((ts.length : Int) > 200) = true := decide_eq_true (by omega)
      have e2 : decide ((200 : Int) < (ts.length : Int)) = true := decide_eq_true (by omega)
      have e3 : decide (200 < ts.length) = true := decide_eq_true hT
      clear hC hD
      generalize L.length = n at *
      generalize ts.length = m at *
      go_enter Try.func5, Try.ntmps5
      go_wp2_with (first | (go_at_call 9; (with_reducible refine (cK.out _).mono ?_); rintro e w1 ⟨rfl, hx1⟩))
      go_ret
      exact ⟨rfl, hx1⟩
    · have e1 : decide ((ts.length : Int) > 200) = false := decide_eq_false (by omega)
      have e2 : decide ((200 : Int) < (ts.length : Int)) = false := decide_eq_false (by omega)
      have e3 : decide (200 < ts.length) = false := decide_eq_false hT
      by_cases hs : 1 ≤ a1 ∧ a1 ≤ 1024
      · obtain ⟨k, rfl⟩ : ∃ k : Nat, a1 = (k : Int) := ⟨a1.toNat, by omega⟩
        have h1 : 1 ≤ k := by omega
        have h2 : k ≤ 1024 := by omega
        have ha : allB L.length 4096 k = 0 := by unfold allB; rw [if_neg (by omega), if_neg (by omega)]
        have cZ : Box (∀ w, _) := ⟨fun w => rsize_any (k : Int) w⟩
        rw [show szB (k : Int) = true by unfold szB; simp; omega] at cZ
        by_cases hml : ts.length = L.length
        · have f1 : ((ts.length : Int) != (L.length : Int)) = false := by rw [hml]; simp
          have f2 : (ts.length != L.length) = false := by rw [hml]; simp
          obtain ⟨r, hr⟩ : ∃ r : Bool, r = true ↔ ∀ i, i < L.length → goodB L k ts i = true := by
            by_cases h : ∀ i, i < L.length → goodB L k ts i = true
            · exact ⟨true, fun _ => h, fun _ => rfl⟩
            · exact ⟨false, (fun h9 => by cases h9), fun h9 => absurd h9 h⟩
          have cC := Box.mk (Check_any a b c d L ts k W (by omega) hml h1 h2 hC hD r hr)
          have cR : Box (∀ w, Ext W w → _) := ⟨fun w hx => rcheck_any a b c d L ts k w (by omega) hml h2 (CellsAt.keep hx hC) (CellsAt.keep hx hD) r hr⟩
          have cH : Box (∀ w, Ext W w → _) := ⟨fun w hx => rhits_any b d ts w (by omega) (CellsAt.keep hx hD)⟩
          rw [← hml] at cC
          obtain ⟨z, hz⟩ : ∃ z, z = polH ts ts.length := ⟨_, rfl⟩
          rw [← hz] at cC cH
          have cG : Box (∀ w, _) := ⟨fun w => gives_any (z : Int) 0 (z : Int) w⟩
          rw [show decide ((z : Int) = (z : Int) ∧ (0 : Int) = 0) = true by simp] at cG
          clear hr hz hC hD ha
          rw [hml] at cC cR cH f1 e1 e2 ⊢
          generalize L.length = n at *
          cases r with
          | true =>
            rw [if_pos rfl] at cC
            go_enter Try.func5, Try.ntmps5
            go_wp2_with (first
              | (go_at_call 19; (with_reducible refine (cC.out).mono ?_); rintro e w1 ⟨rfl, hx1⟩)
              | (go_at_call 15; (with_reducible refine (cZ.out _).mono ?_); rintro e w9 ⟨rfl, rfl⟩)
              | (go_at_call 20; (with_reducible refine (cR.out _ hx1).mono ?_); rintro e w2 ⟨rfl, hx2⟩)
              | (go_at_call 18; (with_reducible refine (cH.out _ (Ext.trans' hx1 hx2)).mono ?_); rintro e w9 ⟨rfl, rfl⟩)
              | (go_at_call 21; (with_reducible refine (cG.out _).mono ?_); rintro e w9 ⟨rfl, rfl⟩)
              | (go_at_call 9; (with_reducible refine (cK.out _).mono ?_); rintro e w3 ⟨rfl, hx3⟩))
            go_ret
            exact ⟨rfl, Ext.trans' hx1 (Ext.trans' hx2 hx3)⟩
          | false =>
            rw [if_neg (by decide)] at cC
            go_enter Try.func5, Try.ntmps5
            go_wp2_with (first
              | (go_at_call 19; (with_reducible refine (cC.out).mono ?_); rintro e w1 ⟨rfl, hx1⟩)
              | (go_at_call 15; (with_reducible refine (cZ.out _).mono ?_); rintro e w9 ⟨rfl, rfl⟩)
              | (go_at_call 20; (with_reducible refine (cR.out _ hx1).mono ?_); rintro e w2 ⟨rfl, hx2⟩)
              | (go_at_call 9; (with_reducible refine (cK.out _).mono ?_); rintro e w3 ⟨rfl, hx3⟩))
            go_ret
            exact ⟨rfl, Ext.trans' hx1 (Ext.trans' hx2 hx3)⟩
        · have f1 : ((ts.length : Int) != (L.length : Int)) = true := by rw [bne_iff_ne]; omega
          have f2 : (ts.length != L.length) = true := by rw [bne_iff_ne]; exact hml
          have cC := Box.mk (Check_len a b L.length c ts.length d (k : Int) W ha hml)
          clear hC hD ha hml
          generalize L.length = n at *
          generalize ts.length = m at *
          go_enter Try.func5, Try.ntmps5
          go_wp2_with (first
            | (go_at_call 19; (with_reducible refine (cC.out).mono ?_); rintro e w1 ⟨rfl, rfl⟩)
            | (go_at_call 15; (with_reducible refine (cZ.out _).mono ?_); rintro e w9 ⟨rfl, rfl⟩)
            | (go_at_call 9; (with_reducible refine (cK.out _).mono ?_); rintro e w3 ⟨rfl, hx3⟩))
          go_ret
          exact ⟨rfl, hx3⟩
      · have ha : allB L.length 4096 a1 = 2 := by unfold allB; rw [if_neg (by omega), if_pos (by omega)]
        have cZ : Box (∀ w, _) := ⟨fun w => rsize_any a1 w⟩
        rw [show szB a1 = false by unfold szB; simp; omega] at cZ
        have cC := Box.mk (Check_bad a b L.length c ts.length d a1 W (by rw [ha]; decide))
        rw [ha] at cC
        clear hC hD ha hs
        generalize L.length = n at *
        generalize ts.length = m at *
        go_enter Try.func5, Try.ntmps5
        go_wp2_with (first
          | (go_at_call 19; (with_reducible refine (cC.out).mono ?_); rintro e w1 ⟨rfl, rfl⟩)
          | (go_at_call 15; (with_reducible refine (cZ.out _).mono ?_); rintro e w9 ⟨rfl, rfl⟩)
          | (go_at_call 9; (with_reducible refine (cK.out _).mono ?_); rintro e w3 ⟨rfl, hx3⟩))
        go_ret
        exact ⟨rfl, hx3⟩
theorem lawBeladyChecks_walk (v0 : Value) (a1 : Int) (v2 : Value) (W : World) (h : IntsArg .u32 W v0) (_ : (Lit.int .i64 a1).wf = true) (h2 : ∃ L, TurnsArg W v2 L) :
    Calls Try.prog 5 #[v0, .int .i64 a1, v2] W fun e W' => e = .returned (.bool true) ∧ Below W.heap.size W W' := by
  obtain ⟨a, c, L, rfl, hC⟩ := trace_arg h
  obtain ⟨ts, b, d, rfl, _, _, hD, _⟩ := h2
  exact checks_core a b c d L ts a1 W hC hD
end Go.Proofs.Ytbhfpofcebepiaa
