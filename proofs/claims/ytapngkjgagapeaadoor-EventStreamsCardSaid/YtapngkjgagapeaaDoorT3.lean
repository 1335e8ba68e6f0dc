import Derived.Test.YtapngkjgagapeaaDoorT2
import Derived.Test.YtapngkjgagapeaaDoorTF
/- Contracts of tick's Text and Parse. -/
namespace Go.Proofs.YtapngkjgagapeaaDoor
open Go.RowKit

set_option maxHeartbeats 400000 in
theorem text_any (n : Nat) (w : World) (hn : n < 18446744073709551616) (ht : Tabs w) :
    Calls Tryd.prog 66 #[.int .u64 n] w fun e w' => e = .returned (.string (txt n)) ∧ Ext w w' := by
  by_cases h : n = never
  · subst h
    rw [txt_never]
    unfold never
    clear ht
    go_enter Tryd.func66, Tryd.ntmps66
    go_wp2
    go_ret
    exact ⟨rfl, Below.refl _ _⟩
  · have c1 : Box _ := ⟨fun (_ : Unit) => formatUint_any n w hn ht⟩
    rw [txt_digs n h]
    have h' : ((n : Int) == 18446744073709551615) = false := by unfold never at h; rw [beq_eq_false_iff_ne]; omega
    generalize digs n = x at *
    clear h ht
    go_enter Tryd.func66, Tryd.ntmps66
    go_wp2_with (first | (go_at_call 75; (with_reducible refine (c1.out ()).mono ?_); rintro e w' ⟨rfl, hb⟩))
    go_ret
    exact ⟨rfl, hb⟩

/-- The error of Parse. -/
def pE (o : Option Nat) : Int := if o.isSome then 0 else 6

set_option maxHeartbeats 1000000 in
theorem parse_any (s : ByteArray) (w : World) (hs : s.size ≤ 281474976710656) (hw : Env w) :
    Calls Tryd.prog 62 #[.string s] w fun e w' => e = .returned (.tuple #[.int .u64 (pV (parseT s.data.toList)), .int .i64 (pE (parseT s.data.toList))]) ∧ Ext w w' := by
  by_cases h : s.data.toList = neverL
  · rw [h, parseT_never, str_of s _ h]
    clear hw hs h
    show Calls Tryd.prog 62 #[.string ⟨#[110, 101, 118, 101, 114]⟩] w fun e w' => e = .returned (.tuple #[.int .u64 18446744073709551615, .int .i64 0]) ∧ Ext w w'
    go_enter Tryd.func62, Tryd.ntmps62
    go_wp2
    go_ret2
    exact ⟨rfl, Below.refl _ _⟩
  · have e1 := ne_test s _ h
    unfold neverL at e1
    have h3 : Lib.parseUintB 64 s.data.toList = noNum ∨ Lib.parseUintB 64 s.data.toList = .range ∨ ∃ u, Lib.parseUintB 64 s.data.toList = .ok u := by
      cases Lib.parseUintB 64 s.data.toList
      · exact Or.inr (Or.inr ⟨_, rfl⟩)
      · exact Or.inl rfl
      · exact Or.inr (Or.inl rfl)
    rcases h3 with hp | hp | ⟨u, hp⟩
    ·
      have c1 : Box _ := ⟨fun (_ : Unit) => pu_bad s hs hp w hw⟩
      have hn : Box (parseT s.data.toList = none) := ⟨parseT_bad _ h hp⟩
      clear h hp hw hs
      go_enter Tryd.func62, Tryd.ntmps62
      go_wp2_with (first | (go_at_call 70; (with_reducible refine (c1.out ()).mono ?_); rintro e w' ⟨N, rfl, hb⟩))
      go_ret2
      exact ⟨by rw [hn.out]; rfl, hb⟩
    ·
      have c1 : Box _ := ⟨fun (_ : Unit) => pu_range s hs hp w hw⟩
      have hn : Box (parseT s.data.toList = none) := ⟨parseT_range _ h hp⟩
      clear h hp hw hs
      go_enter Tryd.func62, Tryd.ntmps62
      go_wp2_with (first | (go_at_call 70; (with_reducible refine (c1.out ()).mono ?_); rintro e w' ⟨N, rfl, hb⟩))
      go_ret2
      exact ⟨by rw [hn.out]; rfl, hb⟩
    ·
      have hu := uintB_le _ _ hp
      have c1 : Box _ := ⟨fun (_ : Unit) => pu_ok s u hs hp w⟩
      have c2 : Box (∀ w', Ext w w' → _) := ⟨fun w' hb => text_any u w' (by unfold never at hu; omega) (hw.tabs.ext hb)⟩
      have hx : Ext w w := Below.refl _ _
      by_cases ht : txtL u = s.data.toList
      · have hn : Box (parseT s.data.toList = some u) := ⟨parseT_ok _ _ h hp ht⟩
        have e3 : Box (txt u = s) := ⟨str_ext ht⟩
        rw [e3.out] at c2
        have HU := Box.mk hu
        clear h hp hw hs ht hu
        go_enter Tryd.func62, Tryd.ntmps62
        go_wp2_with (first | (go_at_call 70; (with_reducible refine (c1.out ()).mono ?_); rintro e w1 ⟨rfl, hb⟩; have hx := Ext.trans' hx hb) | (go_at_call 66; (with_reducible refine (c2.out _ hx).mono ?_); rintro e w1 ⟨rfl, hb⟩; have hx := Ext.trans' hx hb))
        go_ret2
        exact ⟨by rw [hn.out]; rfl, hx⟩
      · have hn : Box (parseT s.data.toList = none) := ⟨parseT_no _ _ h hp ht⟩
        have e3 : ((txt u).toList == s.toList) = false := by rw [Lib.toList_data, Lib.toList_data]; exact beq_eq_false_iff_ne.2 ht
        generalize txt u = x at *
        clear h hp hw hs ht hu
        go_enter Tryd.func62, Tryd.ntmps62
        go_wp2_with (first | (go_at_call 70; (with_reducible refine (c1.out ()).mono ?_); rintro e w1 ⟨rfl, hb⟩; have hx := Ext.trans' hx hb) | (go_at_call 66; (with_reducible refine (c2.out _ hx).mono ?_); rintro e w1 ⟨rfl, hb⟩; have hx := Ext.trans' hx hb))
        go_ret2
        exact ⟨by rw [hn.out]; rfl, hx⟩
end Go.Proofs.YtapngkjgagapeaaDoor
