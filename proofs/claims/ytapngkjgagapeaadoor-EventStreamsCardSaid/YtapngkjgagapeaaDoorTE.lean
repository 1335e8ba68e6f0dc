import Derived.Test.YtapngkjgagapeaaDoorLib
import Derived.Test.YtapngkjgagapeaaDoorTM
import Derived.Test.YtapngkjgagapeaaDoorShelf
import Derived.Lib.LaidTab
import Derived.Lib.SmallJoins
/- What the listed variables hold, in a world that only grows; the contracts of strconv.ParseUint at base 10 and 64 bits. -/
namespace Go.Proofs.YtapngkjgagapeaaDoor
open Go.RowKit

theorem var_ext {w w' : World} {n : String} {cs : Array Value} (h : w.var? Tryd.prog n = some cs) (hb : Ext w w') : w'.var? Tryd.prog n = some cs := by
  unfold World.var? at h ⊢
  cases hg : Tryd.prog.globalNamed n with
  | none => simp [hg] at h
  | some g =>
    simp only [hg, Option.bind_some] at h ⊢
    have hlt : g < w.heap.size := by
      rcases Nat.lt_or_ge g w.heap.size with h' | h'
      · exact h'
      · simp [Array.getElem?_eq_none h'] at h
    rw [hb.block g hlt]; exact h
def Tabs (w : World) : Prop := Lib.TabIs Tryd.prog w "internal/strconv.uint64pow10" .u64 Lib.pow10Tab
theorem Tabs.ext {w w' : World} (h : Tabs w) (hb : Ext w w') : Tabs w' := var_ext h hb
structure Env (w : World) : Prop where
  tabs : Tabs w
  syn : ∃ tp p, w.var? Tryd.prog "strconv.ErrSyntax" = some #[.iface tp p]
  rng : ∃ tp p, w.var? Tryd.prog "strconv.ErrRange" = some #[.iface tp p]
theorem Env.ext {w w' : World} (h : Env w) (hb : Ext w w') : Env w' :=
  ⟨h.tabs.ext hb, let ⟨a, b, c⟩ := h.syn; ⟨a, b, var_ext c hb⟩, let ⟨a, b, c⟩ := h.rng; ⟨a, b, var_ext c hb⟩⟩

theorem pu_ok (s : ByteArray) (u : Nat) (hs : s.size ≤ 281474976710656) (h : Lib.parseUintB 64 s.data.toList = .ok u) (w : World) :
    Calls Tryd.prog 70 #[.string s, .int .i64 10, .int .i64 64] w fun e w' => e = .returned (.tuple #[.int .u64 u, .nilIface]) ∧ Ext w w' := by
  refine (Tryd.strconv_ParseUint_10_at64_ok s (by omega) u h w).mono ?_
  rintro e w' ⟨rfl, hw⟩
  refine ⟨rfl, ?_⟩
  rcases hw with rfl | rfl
  · exact Below.refl _ _
  · exact Joins.below_bytesWorld _ _ _ _ (Nat.le_refl _)
theorem pu_bad (s : ByteArray) (hs : s.size ≤ 281474976710656) (h : Lib.parseUintB 64 s.data.toList = noNum) (w : World) (hw : Env w) :
    Calls Tryd.prog 70 #[.string s, .int .i64 10, .int .i64 64] w fun e w' => ∃ N, e = .returned (.tuple #[.int .u64 0, .iface 136 (.pointer (some ⟨N, 0, none⟩))]) ∧ Ext w w' := by
  obtain ⟨tp, p, hv⟩ := hw.syn
  refine (Tryd.strconv_ParseUint_10_at64_syntax_var s hs h tp p w hv).mono ?_
  rintro e w' ⟨N, rfl, _, _, hb⟩
  exact ⟨N, rfl, hb⟩
theorem pu_range (s : ByteArray) (hs : s.size ≤ 281474976710656) (h : Lib.parseUintB 64 s.data.toList = .range) (w : World) (hw : Env w) :
    Calls Tryd.prog 70 #[.string s, .int .i64 10, .int .i64 64] w fun e w' => ∃ N, e = .returned (.tuple #[.int .u64 18446744073709551615, .iface 136 (.pointer (some ⟨N, 0, none⟩))]) ∧ Ext w w' := by
  obtain ⟨tp, p, hv⟩ := hw.rng
  refine (Tryd.strconv_ParseUint_10_at64_range_var s hs h tp p w hv).mono ?_
  rintro e w' ⟨N, rfl, _, _, hb⟩
  exact ⟨N, rfl, hb⟩
end Go.Proofs.YtapngkjgagapeaaDoor
