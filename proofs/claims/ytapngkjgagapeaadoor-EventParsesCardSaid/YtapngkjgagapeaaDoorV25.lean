import Derived.Test.YtapngkjgagapeaaDoorV24
/- The walk of EventParses. -/
namespace Go.Proofs.YtapngkjgagapeaaDoor
open Go.RowKit

set_option maxRecDepth 100000 in
set_option maxHeartbeats 4000000 in
theorem lawEventParses_walk (s : ByteArray) (W : World) (hs : s.size ≤ maxLen) (ht : EnvV W) :
    Calls Tryd.prog 3 #[.string s] W fun e W' => e = .returned (.bool true) ∧ Below W.heap.size W W' := by
  have ck : Box (∀ w, Ext W w → Calls Tryd.prog 11 #[] w fun e w' => e = .returned (.bool true) ∧ Ext w w') := ⟨fun w h => known_any w (ht.ext h)⟩
  have hx : Ext W W := Below.refl _ _
  unfold maxLen at hs
  by_cases hl : s.size ≤ 600
  · have d1 : decide (600 < (s.size : Int)) = false := decide_eq_false (by omega)
    have d2 : decide (600 < s.size) = false := decide_eq_false (by omega)
    cases hp : parseV s.data.toList with
    | none =>
      have cr : Box (∀ w, Calls Tryd.prog 12 #[.string s] w fun e w' => e = .returned (.tuple #[.agg #[.int .i64 0, .string ⟨#[]⟩, .slice none 0 0, .int .u64 0, .int .u64 0, .int .u64 0], .bool false]) ∧ Ext w w') := ⟨fun w => by
        have h := rvparse_any s w (by omega)
        rw [hp] at h
        exact h⟩
      have cp : Box (∀ w, Ext W w → Calls Tryd.prog 13 #[.string s, .agg #[.int .i64 0, .string ⟨#[]⟩, .slice none 0 0, .int .u64 0, .int .u64 0, .int .u64 0], .int .i64 6] w fun e w' => e = .returned (.bool true) ∧ Ext w w') := ⟨fun w h => parses_none s w (by omega) (ht.ext h) hp⟩
      clear ht hp
      go_enter Tryd.func3, Tryd.ntmps3
      go_wp2_with (first
        | (go_at_call 12; (with_reducible refine (cr.out _).mono ?_); rintro e w1 ⟨rfl, hb⟩; have hx := Ext.alloc (Ext.trans' hx hb) (.cells #[.int .i64 0, .string ⟨#[]⟩, .slice none 0 0, .int .u64 0, .int .u64 0, .int .u64 0] 28))
        | (go_at_call 13; (with_reducible refine (cp.out _ hx).mono ?_); rintro e w1 ⟨rfl, hb⟩; have hx := Ext.trans' hx hb)
        | (go_at_call 11; (with_reducible refine (ck.out _ hx).mono ?_); rintro e w1 ⟨rfl, hb⟩; have hx := Ext.trans' hx hb))
      go_ret
      exact ⟨rfl, hx⟩
    | some x =>
      have cr : Box (∀ w, Calls Tryd.prog 12 #[.string s] w fun e w' => ∃ a c, e = .returned (.tuple #[.agg #[.int .i64 x.kind, .string (bs x.e.key), .slice a x.e.val.length c, .int .u64 x.e.birth, .int .u64 x.e.dl, .int .u64 x.now], .bool true]) ∧ By w' (.slice a x.e.val.length c) x.e.val ∧ Ext w w') := ⟨fun w => (rvparse_any s w (by omega)).mono fun e w' h => by
        rw [hp] at h
        obtain ⟨v', h1, h2, h3⟩ := h
        obtain ⟨a, c, rfl, _⟩ := h2.size
        exact ⟨a, c, h1, h2, h3⟩⟩
      have cp : Box (∀ a c w, Ext W w → By w (.slice a x.e.val.length c) x.e.val → Calls Tryd.prog 13 #[.string s, .agg #[.int .i64 x.kind, .string (bs x.e.key), .slice a x.e.val.length c, .int .u64 x.e.birth, .int .u64 x.e.dl, .int .u64 x.now], .int .i64 0] w fun e w' => e = .returned (.bool true) ∧ Ext w w') := ⟨fun a c w h hv => parses_some s w (by omega) (ht.ext h) x hp a c hv⟩
      clear ht hp
      go_enter Tryd.func3, Tryd.ntmps3
      go_wp2_with (first
        | (go_at_call 12; (with_reducible refine (cr.out _).mono ?_); rintro e w1 ⟨a, c, rfl, hv, hb⟩; have hx := Ext.alloc (Ext.trans' hx hb) (.cells #[.int .i64 x.kind, .string (bs x.e.key), .slice a x.e.val.length c, .int .u64 x.e.birth, .int .u64 x.e.dl, .int .u64 x.now] 28); have hv := By.ext (Ext.alloc (Below.refl _ _) (.cells #[.int .i64 x.kind, .string (bs x.e.key), .slice a x.e.val.length c, .int .u64 x.e.birth, .int .u64 x.e.dl, .int .u64 x.now] 28)) hv)
        | (go_at_call 13; (with_reducible refine (cp.out _ _ _ hx hv).mono ?_); rintro e w1 ⟨rfl, hb⟩; have hx := Ext.trans' hx hb)
        | (go_at_call 11; (with_reducible refine (ck.out _ hx).mono ?_); rintro e w1 ⟨rfl, hb⟩; have hx := Ext.trans' hx hb))
      go_ret
      exact ⟨rfl, hx⟩
  · have d1 : decide (600 < (s.size : Int)) = true := decide_eq_true (by omega)
    have d2 : decide (600 < s.size) = true := decide_eq_true (by omega)
    clear ht
    go_enter Tryd.func3, Tryd.ntmps3
    go_wp2_with (first | (go_at_call 11; (with_reducible refine (ck.out _ hx).mono ?_); rintro e w1 ⟨rfl, hb⟩; have hx := Ext.trans' hx hb))
    go_ret
    exact ⟨rfl, hx⟩
end Go.Proofs.YtapngkjgagapeaaDoor
