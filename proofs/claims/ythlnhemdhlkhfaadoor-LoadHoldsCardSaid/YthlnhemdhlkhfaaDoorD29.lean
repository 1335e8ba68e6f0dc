import Derived.Test.YthlnhemdhlkhfaaDoorD28
/- The walk of LoadTexts. -/
namespace Go.Proofs.YthlnhemdhlkhfaaDoor
open Go.RowKit

theorem lawLoadTexts_walk (v : Value) (s : ByteArray) (W : World) (hv : LoadArg v) (hs : s.size ≤ maxLen) (ht : Env W) :
    Calls Tryd.prog 6 #[v, .string s] W fun e W' => e = .returned (.bool true) ∧ Below W.heap.size W W' := by
  by_cases hl : s.size ≤ 100
  · obtain ⟨k, a, r, p, x, rfl, hx⟩ := hv
    by_cases hn : ∃ k a r p x, Vld k a r p x ∧ textL k a r p x = s.data.toList
    · obtain ⟨k2, a2, r2, p2, x2, V2, hn2⟩ := hn
      cases h : vldL k a r p x with
      | false => exact texts_bad_yes k a r p x s W h hl V2 hn2 ht
      | true =>
        obtain ⟨k', a', r', p', rfl, rfl, rfl, rfl, V⟩ := vld_int h hx
        exact texts_ok_yes s W V hl V2 hn2 ht
    · cases h : vldL k a r p x with
      | false => exact texts_bad_no k a r p x s W h hl hn ht
      | true =>
        obtain ⟨k', a', r', p', rfl, rfl, rfl, rfl, V⟩ := vld_int h hx
        exact texts_ok_no s W V hl hn ht
  · exact texts_long v s W hv (by omega) hs ht
end Go.Proofs.YthlnhemdhlkhfaaDoor
