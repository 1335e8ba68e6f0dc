import Derived.Test.YthlnhemdhlkhfaaDoorD21
/- The number behind a word, as the reference reads it. -/
namespace Go.Proofs.YthlnhemdhlkhfaaDoor
open Go.RowKit

/-- The number behind the word wd; no number where s does not begin with it. -/
def aftV (s wd : ByteArray) : Value := if s.size < wd.size ∨ s.extract 0 wd.size ≠ wd then .tuple #[.int .u64 0, .string ⟨#[]⟩, .bool false] else numV (s.extract wd.size s.size)
theorem numV_shape (s : ByteArray) : ∃ (n : Nat) (r : ByteArray) (b : Bool), numV s = .tuple #[.int .u64 n, .string r, .bool b] := by
  unfold numV
  split
  · exact ⟨0, _, _, rfl⟩
  · exact ⟨_, _, _, rfl⟩
set_option maxRecDepth 100000 in
set_option maxHeartbeats 2000000 in
theorem after_any (s wd : ByteArray) (w : World) (hs : s.size ≤ 1000000) (hw : wd.size ≤ 1000000) : Calls Tryd.prog 38 #[.string s, .string wd] w fun e w' => e = .returned (aftV s wd) ∧ Ext w w' := by
  unfold aftV
  by_cases h0 : s.size < wd.size
  · rw [if_pos (Or.inl h0)]
    have d0 : decide ((s.size : Int) < (wd.size : Int)) = true := decide_eq_true (by omega)
    have d0n : decide (s.size < wd.size) = true := decide_eq_true h0
    go_enter Tryd.func38, Tryd.ntmps38
    go_wp2
    go_ret3
    exact ⟨rfl, Below.refl _ _⟩
  · have d0 : decide ((s.size : Int) < (wd.size : Int)) = false := decide_eq_false (by omega)
    have d0n : decide (s.size < wd.size) = false := decide_eq_false h0
    have n0 : (0 : Int) ≤ (wd.size : Int) := by omega
    have n1 : (wd.size : Int) ≤ (s.size : Int) := by omega
    by_cases h1 : s.extract 0 wd.size = wd
    · rw [if_neg (by rintro (h | h); exact h0 h; exact h h1)]
      have e1 : ((s.extract 0 wd.size).toList == wd.toList) = true := by rw [h1]; simp
      have cn : Box _ := ⟨fun w => rnum_any (s.extract wd.size s.size) w (by rw [ByteArray.size_extract]; omega)⟩
      obtain ⟨n, r, b, hv⟩ := numV_shape (s.extract wd.size s.size)
      rw [hv] at cn ⊢
      have hx : Ext w w := Below.refl _ _
      clear hv h0
      go_enter Tryd.func38, Tryd.ntmps38
      go_wp2_with (first | (go_at_call 52; (with_reducible refine (cn.out _).mono ?_); rintro e w1 ⟨rfl, hb⟩; have hx := Ext.trans' hx hb))
      go_ret3
      exact ⟨rfl, hx⟩
    · rw [if_pos (Or.inr h1)]
      have e1 : ((s.extract 0 wd.size).toList == wd.toList) = false := by
        rw [Lib.toList_data, Lib.toList_data]
        exact beq_eq_false_iff_ne.2 (fun e => h1 (by apply ByteArray.ext; apply Array.ext'; exact e))
      go_enter Tryd.func38, Tryd.ntmps38
      go_wp2
      go_ret3
      exact ⟨rfl, Below.refl _ _⟩
end Go.Proofs.YthlnhemdhlkhfaaDoor
