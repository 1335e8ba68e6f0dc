import Derived.Test.YthlnhemdhlkhfaaDoorD7
import Derived.MapKept
/- The program's Make. -/
namespace Go.Proofs.YthlnhemdhlkhfaaDoor
open Go.RowKit

theorem kind_map : Tryd.prog.underlying 62 = some (.map 26 61) := by kernel_rfl
theorem kind_key : Tryd.prog.underlying 26 = some (.int .i64) := by kernel_rfl
/-- A new key of the map of kinds. -/
theorem ins_ex {W : World} {B : Nat} {es : Array MapEntry} {c : Nat} (hb : W.heap[B]? = some (.map es c)) (k : Int) (v : Value) (hf : Instr.findNow (.int .i64) (.int .i64 k) es.toList 0 = some none) :
    ∃ W', (Instr.mapUpdate 62 (.map (some B)) (.int .i64 k) v).run Tryd.prog W = .ok () W' ∧ W'.heap[B]? = some (.map (es.push { key := .int .i64 k, val := v, born := c }) (c + 1)) ∧ Below B W W' := by
  refine ⟨{ W with heap := W.heap.setIfInBounds B (.map (es.push { key := .int .i64 k, val := v, born := c }) (c + 1)) }, ?_, (MapKept.heap_set hb).1, rfl, rfl, rfl, by simp, fun j hj => (MapKept.heap_set hb).2 j (by omega)⟩
  simp [Instr.mapUpdate, run_underlying kind_map, MapKept.run_getObj_map hb, MapKept.run_checkKey kind_key (k := .int .i64 k) rfl, MapKept.run_findKey kind_key hf, MapKept.run_setObj_map _ hb, Result.andThen]
def FV (n : Nat) : Value := .func (.func n) #[] #[]
def kindsO : Array MapEntry := #[⟨.int .i64 1, FV 39, 0⟩, ⟨.int .i64 2, FV 40, 1⟩, ⟨.int .i64 3, FV 41, 2⟩, ⟨.int .i64 4, FV 42, 3⟩, ⟨.int .i64 5, FV 43, 4⟩, ⟨.int .i64 6, FV 44, 5⟩]
set_option maxRecDepth 100000 in
set_option maxHeartbeats 400000 in
theorem kinds_any (w : World) : Calls Tryd.prog 27 #[] w fun e w' => e = .returned (.map (some w.heap.size)) ∧ w'.heap[w.heap.size]? = some (.map kindsO 6) ∧ Ext w w' := by
  have hmm := @run_makeMap Tryd.prog
  obtain ⟨W1, e1, h1, b1⟩ := ins_ex (MapKept.heap_alloc w (.map #[] 0)).1 1 (FV 39) rfl
  obtain ⟨W2, e2, h2, b2⟩ := ins_ex h1 2 (FV 40) rfl
  obtain ⟨W3, e3, h3, b3⟩ := ins_ex h2 3 (FV 41) rfl
  obtain ⟨W4, e4, h4, b4⟩ := ins_ex h3 4 (FV 42) rfl
  obtain ⟨W5, e5, h5, b5⟩ := ins_ex h4 5 (FV 43) rfl
  obtain ⟨W6, e6, h6, b6⟩ := ins_ex h5 6 (FV 44) rfl
  have hE : Box (Ext w W6) := ⟨(Below.alloc (Below.refl _ _) (Nat.le_refl _) _).trans (b1.trans (b2.trans (b3.trans (b4.trans (b5.trans b6)))))⟩
  have hO : Box (W6.heap[w.heap.size]? = some (.map kindsO 6)) := ⟨h6⟩
  clear h1 h2 h3 h4 h5 h6 b1 b2 b3 b4 b5 b6
  unfold FV at e1 e2 e3 e4 e5 e6
  go_enter Tryd.func27, Tryd.ntmps27
  go_wp2
  go_ret
  exact ⟨rfl, hO.out, hE.out⟩
end Go.Proofs.YthlnhemdhlkhfaaDoor
