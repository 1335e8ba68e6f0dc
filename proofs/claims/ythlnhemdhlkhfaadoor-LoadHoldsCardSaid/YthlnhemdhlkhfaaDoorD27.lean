import Derived.Test.YthlnhemdhlkhfaaDoorD26
/- The walk of LoadTexts. -/
namespace Go.Proofs.YthlnhemdhlkhfaaDoor
open Go.RowKit

/-- Both Parses answer alike. -/
theorem both {s : ByteArray} {w1 w1' w2 w2' : World} {e1 e2 : Ending} (h1 : PPost s w1 e1 w1') (h2 : RPost s w2 e2 w2') :
    (∃ k a r p x : Nat, e1 = .returned (.tuple #[(.agg #[.int .i64 (k), .int .i64 (a), .int .i64 (r), .int .i64 (p), .int .u64 (x)]), .int .i64 0]) ∧ e2 = .returned (.tuple #[(.agg #[.int .i64 (k), .int .i64 (a), .int .i64 (r), .int .i64 (p), .int .u64 (x)]), .bool true])) ∨
    (e1 = .returned (.tuple #[(.agg #[.int .i64 (0), .int .i64 (0), .int .i64 (0), .int .i64 (0), .int .u64 (0)]), .int .i64 6]) ∧ e2 = .returned (.tuple #[(.agg #[.int .i64 (0), .int .i64 (0), .int .i64 (0), .int .i64 (0), .int .u64 (0)]), .bool false])) := by
  rcases h1.2 with ⟨k, a, r, p, x, V, ht, he⟩ | ⟨he, hn⟩
  · rcases h2.2 with ⟨k', a', r', p', x', V', ht', he'⟩ | ⟨he', hn'⟩
    · obtain ⟨rfl, rfl, rfl, rfl, rfl⟩ := text_inj V V' (ht.trans ht'.symm)
      exact .inl ⟨k, a, r, p, x, he, he'⟩
    · exact absurd ht (hn' _ _ _ _ _ V)
  · rcases h2.2 with ⟨k', a', r', p', x', V', ht', he'⟩ | ⟨he', hn'⟩
    · exact absurd ht' (hn _ _ _ _ _ V')
    · exact .inr ⟨he, he'⟩
theorem parse_yes {s : ByteArray} {k a r p x : Nat} (V : Vld k a r p x) (ht : textL k a r p x = s.data.toList) (w : World) (hs : s.size ≤ 100000) (hw : Env w) : Calls Tryd.prog 21 #[.string s] w fun e w' => e = .returned (.tuple #[(.agg #[.int .i64 (k), .int .i64 (a), .int .i64 (r), .int .i64 (p), .int .u64 (x)]), .int .i64 0]) ∧ Ext w w' := by
  refine (parse_any s w hs hw).mono ?_
  rintro e w' ⟨hb, ⟨k', a', r', p', x', V', ht', he⟩ | ⟨_, h⟩⟩
  · obtain ⟨rfl, rfl, rfl, rfl, rfl⟩ := text_inj V' V (ht'.trans ht.symm)
    exact ⟨he, hb⟩
  · exact absurd ht (h _ _ _ _ _ V)
theorem parse_no {s : ByteArray} (h : ¬ ∃ k a r p x, Vld k a r p x ∧ textL k a r p x = s.data.toList) (w : World) (hs : s.size ≤ 100000) (hw : Env w) : Calls Tryd.prog 21 #[.string s] w fun e w' => e = .returned (.tuple #[(.agg #[.int .i64 (0), .int .i64 (0), .int .i64 (0), .int .i64 (0), .int .u64 (0)]), .int .i64 6]) ∧ Ext w w' := by
  refine (parse_any s w hs hw).mono ?_
  rintro e w' ⟨hb, ⟨k', a', r', p', x', V', ht', he⟩ | ⟨he, _⟩⟩
  · exact absurd ⟨k', a', r', p', x', V', ht'⟩ h
  · exact ⟨he, hb⟩
theorem rparse_yes {s : ByteArray} {k a r p x : Nat} (V : Vld k a r p x) (ht : textL k a r p x = s.data.toList) (w : World) (hs : s.size ≤ 100000) : Calls Tryd.prog 22 #[.string s] w fun e w' => e = .returned (.tuple #[(.agg #[.int .i64 (k), .int .i64 (a), .int .i64 (r), .int .i64 (p), .int .u64 (x)]), .bool true]) ∧ Ext w w' := by
  refine (rparse_any s w hs).mono ?_
  rintro e w' ⟨hb, ⟨k', a', r', p', x', V', ht', he⟩ | ⟨_, h⟩⟩
  · obtain ⟨rfl, rfl, rfl, rfl, rfl⟩ := text_inj V' V (ht'.trans ht.symm)
    exact ⟨he, hb⟩
  · exact absurd ht (h _ _ _ _ _ V)
theorem rparse_no {s : ByteArray} (h : ¬ ∃ k a r p x, Vld k a r p x ∧ textL k a r p x = s.data.toList) (w : World) (hs : s.size ≤ 100000) : Calls Tryd.prog 22 #[.string s] w fun e w' => e = .returned (.tuple #[(.agg #[.int .i64 (0), .int .i64 (0), .int .i64 (0), .int .i64 (0), .int .u64 (0)]), .bool false]) ∧ Ext w w' := by
  refine (rparse_any s w hs).mono ?_
  rintro e w' ⟨hb, ⟨k', a', r', p', x', V', ht', he⟩ | ⟨he, _⟩⟩
  · exact absurd ⟨k', a', r', p', x', V', ht'⟩ h
  · exact ⟨he, hb⟩
end Go.Proofs.YthlnhemdhlkhfaaDoor
