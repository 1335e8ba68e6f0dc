import Derived.Test.YtbhfpofcebepiaaB7
import Derived.WalkKit
/- The contract of Best's closure: behind the last request, and a state that the memo knows. -/
namespace Go.Proofs.Ytbhfpofcebepiaa
open Go.RowKit Go.ChangeMaps
theorem results_one {fn : Func} {p : Tmp} {ty : TypeId} (h : fn.results = #[.cell p ty]) (tmps : Array Value) (P : Program) (w : World) :
    (results fn tmps).run P w = ((asAddr (tmps.getD p undef)).run P w).andThen fun a w₁ => (loadVar ty a).run P w₁ := by
  simp only [results, h]
  simp [Sem.run_bind, Result.andThen]
set_option maxRecDepth 100000 in
set_option maxHeartbeats 4000000 in
theorem best_end (tr : List Nat) (k : Nat) (D : List Nat) (T K Nn Bc Sz KB NB : Nat) (w : World) (h : BestW tr k D T K Nn Bc Sz KB NB w) (s : Nat) (many : Int) :
    Calls Try.prog 42 #[(.agg #[.int .i64 (tr.length : Nat), .int .u16 (s : Nat)]), .int .i64 many, .pointer (some ⟨T, 0, none⟩), .pointer (some ⟨K, 0, none⟩), .pointer (some ⟨Nn, 0, none⟩), .pointer (some ⟨Bc, 0, none⟩), .pointer (some ⟨Sz, 0, none⟩)] w fun e w' => e = .returned (.int .i64 0) ∧ Ext w w' := by
  have hmf : ∀ (fn : Fn) (first cap : Array Value) (w : World), (Instr.makeFunc fn first cap).run Try.prog w = .ok (.func fn first cap) w := fun _ _ _ _ => rfl
  obtain ⟨a, c, hT, -⟩ := h.trace
  clear h
  obtain ⟨n, hn⟩ : ∃ n, n = tr.length := ⟨_, rfl⟩
  rw [← hn] at hT ⊢
  clear hn
  have hTl := lt_of_cell hT
  go_enter_defers Try.func42, Try.ntmps42
  go_wp2
  have hx : Ext w ((w.alloc (.cells #[.int .i64 (n : Nat), .int .u16 (s : Nat)] 79)).alloc (.cells #[.int .i64 0] 3)) := Ext.alloc (Ext.alloc (Below.refl _ _) _) _
  refine ⟨.int .i64 0, ?_, rfl, hx⟩
  rw [results_one rfl]
  simp [asAddr, Result.andThen, go_sem]
set_option maxRecDepth 100000 in
set_option maxHeartbeats 8000000 in
theorem best_known (tr : List Nat) (k : Nat) (D : List Nat) (T K Nn Bc Sz KB NB : Nat) (w : World) (h : BestW tr k D T K Nn Bc Sz KB NB w) (i s : Nat) (hi : i < tr.length) (many : Int) (es : Array MapEntry) (clock : Nat) (hB : w.heap[KB]? = some (.map es clock)) (hM : MemoOk tr k D es.toList)
    (hin : ∃ e ∈ es.toList, e.key = (.agg #[.int .i64 i, .int .u16 s])) (hone : ∀ e ∈ es.toList, e.key = (.agg #[.int .i64 i, .int .u16 s]) → e.val = .int .i64 (valB tr k D i s : Nat)) :
    Calls Try.prog 42 #[(.agg #[.int .i64 i, .int .u16 s]), .int .i64 many, .pointer (some ⟨T, 0, none⟩), .pointer (some ⟨K, 0, none⟩), .pointer (some ⟨Nn, 0, none⟩), .pointer (some ⟨Bc, 0, none⟩), .pointer (some ⟨Sz, 0, none⟩)] w fun e w' => e = .returned (.int .i64 (valB tr k D i s : Nat)) ∧ Ext w w' := by
  have hmf : ∀ (fn : Fn) (first cap : Array Value) (w : World), (Instr.makeFunc fn first cap).run Try.prog w = .ok (.func fn first cap) w := fun _ _ _ _ => rfl
  obtain ⟨a, c, hT, -⟩ := h.trace
  have hK := h.known
  clear h
  obtain ⟨n, hn⟩ : ∃ n, n = tr.length := ⟨_, rfl⟩
  rw [← hn] at hT hi
  clear hn
  have hTl := lt_of_cell hT
  have hKl := lt_of_cell hK
  have b1 : ((i : Int) == (n : Int)) = false := by rw [beq_eq_false_iff_ne]; omega
  have b2 : (i == n) = false := by rw [beq_eq_false_iff_ne]; omega
  have hx : Ext w ((w.alloc (.cells #[.int .i64 (i : Nat), .int .u16 (s : Nat)] 79)).alloc (.cells #[.int .i64 0] 3)) := Ext.alloc (Ext.alloc (Below.refl _ _) _) _
  have hB2 := (hx.block KB (Array.getElem?_eq_some_iff.1 hB).1).trans hB
  obtain ⟨v, ok, hlk, hyes, hno⟩ := lookSt hB2 hM.keys i s
  have hok : ok = true := by
    cases ok with
    | true => rfl
    | false =>
      obtain ⟨e, he, hek⟩ := hin
      exact absurd hek ((hno rfl).2 e he)
  subst hok
  obtain ⟨e, he, hek, hev⟩ := hyes rfl
  rw [hone e he hek] at hev
  subst hev
  clear hyes hno he hek hone hin hM hB hB2
  replace hx := Box.mk hx
  generalize valB tr k D i s = z at *
  go_enter_defers Try.func42, Try.ntmps42
  go_wp2
  refine ⟨.int .i64 z, ?_, rfl, ?_⟩
  · rw [results_one rfl]
    simp [asAddr, Result.andThen, go_sem]
  · exact Ext.alloc (Ext.alloc (Below.refl _ _) _) _
end Go.Proofs.Ytbhfpofcebepiaa
