import Derived.Test.YtbnmnkmjokcmfaaDoorS32
/- The walk of SeasonTexts, as one law. -/
namespace Go.Proofs.YtbnmnkmjokcmfaaDoor
open Go.RowKit
set_option maxRecDepth 100000 in
set_option maxHeartbeats 4000000 in
theorem lawSeasonTexts_walk (v : Value) (s : ByteArray) (W : World) (hv : GOne v) (hs : s.size ≤ maxLen) (ht : EnvS W) :
    Calls Tryd.prog 3 #[v, .string s] W fun e W' => e = .returned (.bool true) ∧ Below W.heap.size W W' := by
  obtain ⟨a, b, rfl, _, _⟩ := hv
  unfold maxLen at hs
  by_cases hl : s.size ≤ 60
  · by_cases hx : ∃ p q, gB p q = true ∧ s = ⟨(textG p q).toArray⟩
    · obtain ⟨p, q, hg, rfl⟩ := hx
      have h := gB_iff.1 hg
      obtain ⟨h1, h2, h3⟩ := scan_textG p q h.1 h.2
      have hp := itoa_pos p
      refine stexts_core a b _ W hl ht p q 0 (fun w hw => sparse_text p q hg w (ht.ext hw)) (Or.inl ⟨rfl, h1.symm, h2.symm, ?_, hg, rfl⟩)
      show 0 < (scan 0 (textG p q) ⟨0, 0, 0, 1, 0⟩).at_
      rw [h3]; omega
    · have hno : ∀ p q, gB p q = true → s ≠ ⟨(textG p q).toArray⟩ := fun p q hg e => hx ⟨p, q, hg, e⟩
      exact stexts_core a b s W hl ht 0 0 6 (fun w hw => sparse_not s (by omega) hno w (ht.ext hw)) (Or.inr ⟨rfl, rfl, rfl, hno⟩)
  · have ck : Box (∀ w, Ext W w → Calls Tryd.prog 8 #[] w fun e w' => e = .returned (.bool true) ∧ Ext w w') := ⟨fun w h => known_any w (ht.ext h)⟩
    have d60 : decide ((60 : Int) < (s.size : Int)) = true := decide_eq_true (by omega)
    have d60' : decide (60 < s.size) = true := decide_eq_true (by omega)
    have hx : Ext W (W.alloc (.cells #[.int .i64 a, .int .i64 b] 23)) := Ext.alloc (Below.refl _ _) _
    clear ht hl
    go_enter Tryd.func3, Tryd.ntmps3
    go_wp2_with (first | (go_at_call 8; (with_reducible refine (ck.out _ hx).mono ?_); rintro e w1 ⟨rfl, hb⟩; have hx := Ext.trans' hx hb))
    go_ret
    exact ⟨rfl, hx⟩
end Go.Proofs.YtbnmnkmjokcmfaaDoor
