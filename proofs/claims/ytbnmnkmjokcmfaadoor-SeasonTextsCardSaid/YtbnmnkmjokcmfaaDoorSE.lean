import Derived.Test.YtbnmnkmjokcmfaaDoorLib
import Derived.Test.YtbnmnkmjokcmfaaDoorShelf
import Derived.Test.YtbnmnkmjokcmfaaDoorTI
import Derived.Test.YtbnmnkmjokcmfaaDoorS0
import Derived.Lib.LaidTab
import Derived.Lib.SmallJoins
import Derived.Lib.AtoiAllCases
import Derived.Lib.ItoaMem
import Derived.Lib.AppendIntMem
import Derived.Lib.TrimUEq
/- What the listed variables hold, for season; contracts of strconv.Atoi and Itoa at every number. -/
namespace Go.Proofs.YtbnmnkmjokcmfaaDoor
open Go.RowKit
theorem var_ext {w w' : World} {n : String} {cs : Array Value} (h : w.var? Tryd.prog n = some cs) (hb : Ext w w') : w'.var? Tryd.prog n = some cs := by
  unfold World.var? at h ⊢
  cases hg : Tryd.prog.globalNamed n with
  | none => simp [hg] at h
  | some g =>
    simp only [hg, Option.bind_some] at h ⊢
    have hlt : g < w.heap.size := by
      rcases Nat.lt_or_ge g w.heap.size with h' | h'
      · exact h'
      · simp [Array.getElem?_eq_none h'] at h
    rw [hb.block g hlt]; exact h
def Tabs (w : World) : Prop := Lib.TabIs Tryd.prog w "internal/strconv.uint64pow10" .u64 Lib.pow10Tab
theorem Tabs.ext {w w' : World} (h : Tabs w) (hb : Ext w w') : Tabs w' := var_ext h hb
def U8T (w : World) : Prop := Lib.Utf8Tabs 4 5 w
theorem U8T.ext {w w' : World} (h : U8T w) (hb : Ext w w') : U8T w' :=
  ⟨fun c hc => Ext.cell hb (h.1 c hc), fun i hi => ⟨Ext.cell hb (h.2 i hi).1, Ext.cell hb (h.2 i hi).2⟩⟩
structure EnvS (w : World) : Prop where
  tabs : Tabs w
  syn : ∃ tp p, w.var? Tryd.prog "strconv.ErrSyntax" = some #[.iface tp p]
  rng : ∃ tp p, w.var? Tryd.prog "strconv.ErrRange" = some #[.iface tp p]
  u8 : U8T w
theorem EnvS.ext {w w' : World} (h : EnvS w) (hb : Ext w w') : EnvS w' :=
  ⟨h.tabs.ext hb, let ⟨a, b, c⟩ := h.syn; ⟨a, b, var_ext c hb⟩, let ⟨a, b, c⟩ := h.rng; ⟨a, b, var_ext c hb⟩, h.u8.ext hb⟩
theorem gitoa_any (n : Int) (w : World) (h0 : -9223372036854775808 ≤ n) (h1 : n ≤ 9223372036854775807) (h : Tabs w) : Calls Tryd.prog 37 #[.int .i64 n] w fun e w' => e = .returned (.string ⟨(Lib.itoa n).toArray⟩) ∧ Ext w w' := by
  refine (Tryd.strconv_Itoa n h0 h1 w h).mono ?_
  rintro e w' ⟨rfl, k, os, rfl⟩
  exact ⟨rfl, Lib.below_grow _ _ (Nat.le_refl _) _ _⟩
theorem gatoi_ok (s : ByteArray) (v : Int) (hs : s.size ≤ 281474976710656) (h : Lib.atoiAll s.data.toList = .ok v) (w : World) :
    Calls Tryd.prog 40 #[.string s] w fun e w' => e = .returned (.tuple #[.int .i64 v, .nilIface]) ∧ Ext w w' := by
  refine (Tryd.strconv_Atoi_ok s (by omega) v h w).mono ?_
  rintro e w' ⟨rfl, hw⟩
  refine ⟨rfl, ?_⟩
  rcases hw with rfl | ⟨t, rfl⟩
  · exact Below.refl _ _
  · exact Joins.below_bytesWorld _ _ _ _ (Nat.le_refl _)
theorem gatoi_no (s : ByteArray) (hs : s.size ≤ 281474976710656) (h0 : ∀ v, Lib.atoiAll s.data.toList ≠ .ok v) (w : World) (hw : EnvS w) :
    Calls Tryd.prog 40 #[.string s] w fun e w' => ∃ v t N, e = .returned (.tuple #[.int .i64 v, .iface t (.pointer (some ⟨N, 0, none⟩))]) ∧ Ext w w' := by
  by_cases h : Lib.atoiAll s.data.toList = .range
  · obtain ⟨tp, p, hv⟩ := hw.rng
    refine (Tryd.strconv_Atoi_range_var s hs h tp p w hv).mono ?_
    rintro e w' ⟨N, rfl, _, _, hb⟩
    exact ⟨_, _, _, rfl, hb⟩
  · obtain ⟨tp, p, hv⟩ := hw.syn
    have h : Lib.atoiAll s.data.toList = noInt := by
      unfold noInt
      cases hx : Lib.atoiAll s.data.toList with
      | ok v => exact absurd hx (h0 v)
      | range => exact absurd hx h
      | _ => rfl
    refine (Tryd.strconv_Atoi_syntax_var s hs h tp p w hv).mono ?_
    rintro e w' ⟨N, rfl, _, _, hb⟩
    exact ⟨_, _, _, rfl, hb⟩
/-- the last index of a sign, or -1 -/
def lastS : List UInt8 → Int
  | [] => -1
  | c :: r => if 0 ≤ lastS r then lastS r + 1 else if c = 43 ∨ c = 45 then 0 else -1
end Go.Proofs.YtbnmnkmjokcmfaaDoor
