import Derived.Test.YtpojemlnhbdfmaaDoorTE
import Derived.Test.YtpojemlnhbdfmaaDoorCU
import Derived.Test.YtpojemlnhbdfmaaDoorGM
import Derived.Shelf.Unicode.IsSpaceAny
import Derived.Lib.Space
import Derived.Lib.ItoaMem
import Derived.Lib.AppendIntMem
/- What the listed variables hold, for configurations; contracts of strconv.Atoi, ParseUint and FormatUint, Itoa at every number. -/
namespace Go.Proofs.YtpojemlnhbdfmaaDoor
open Go.RowKit

structure EnvG (w : World) : Prop where
  env : Env w
  words : w.var? Tryd.prog "cubbyhole/config.words" = some #[.string ⟨#[99, 111, 117, 110, 116]⟩, .string ⟨#[98, 121, 116, 101, 115]⟩, .string ⟨#[112, 114, 111, 116, 101, 99, 116, 101, 100]⟩]
  spaces : Lib.TabIs Tryd.prog w "strings.asciiSpace" .u8 Lib.asciiSpaceTab
  white : Lib.WhiteTab 2 w
theorem EnvG.ext {w w' : World} (h : EnvG w) (hb : Ext w w') : EnvG w' := ⟨h.env.ext hb, var_ext h.words hb, var_ext h.spaces hb, WhiteTab_below h.white hb⟩
theorem gWords : Tryd.prog.globalNamed "cubbyhole/config.words" = some 0 := by kernel_rfl
theorem EnvG.word {w : World} (h : EnvG w) : w.cell? ⟨0, 0, none⟩ = some (.string ⟨#[99, 111, 117, 110, 116]⟩) ∧ w.cell? ⟨0, 1, none⟩ = some (.string ⟨#[98, 121, 116, 101, 115]⟩) ∧ w.cell? ⟨0, 2, none⟩ = some (.string ⟨#[112, 114, 111, 116, 101, 99, 116, 101, 100]⟩) :=
  ⟨(World.var?_cell gWords h.words 0).trans rfl, (World.var?_cell gWords h.words 1).trans rfl, (World.var?_cell gWords h.words 2).trans rfl⟩

/-- What Atoi's error is: nil, or some error. -/
def SomeErr (v : Value) : Prop := v = .nilIface ∨ ∃ t N, v = .iface t (.pointer (some ⟨N, 0, none⟩))
theorem gatoi_any (s : ByteArray) (hs : s.size ≤ 281474976710656) (w : World) (hw : Env w) :
    Calls Tryd.prog 33 #[.string s] w fun e w' => ∃ v, e = .returned (.tuple #[.int .i64 (atoiV s.data.toList), v]) ∧ Ext w w' := by
  unfold atoiV
  split
  · rename_i v h
    refine (Tryd.strconv_Atoi_ok s (by omega) v h w).mono ?_
    rintro e w' ⟨rfl, hw⟩
    refine ⟨_, rfl, ?_⟩
    rcases hw with rfl | ⟨t, rfl⟩
    · exact Below.refl _ _
    · exact Joins.below_bytesWorld _ _ _ _ (Nat.le_refl _)
  · rename_i h
    obtain ⟨tp, p, hv⟩ := hw.rng
    refine (Tryd.strconv_Atoi_range_var s hs h tp p w hv).mono ?_
    rintro e w' ⟨N, rfl, _, _, hb⟩
    exact ⟨_, rfl, hb⟩
  · rename_i h1 h2
    obtain ⟨tp, p, hv⟩ := hw.syn
    have h : Lib.atoiAll s.data.toList = Lib.atoiAll [] := by
      cases hx : Lib.atoiAll s.data.toList with
      | ok v => exact absurd hx (h1 v)
      | range => exact absurd hx h2
      | _ => rfl
    refine (Tryd.strconv_Atoi_syntax_var s hs h tp p w hv).mono ?_
    rintro e w' ⟨N, rfl, _, _, hb⟩
    exact ⟨_, rfl, hb⟩
theorem guint_any (s : ByteArray) (hs : s.size ≤ 281474976710656) (w : World) (hw : Env w) :
    Calls Tryd.prog 34 #[.string s, .int .i64 10, .int .i64 64] w fun e w' => ∃ v, e = .returned (.tuple #[.int .u64 (uintV s.data.toList), v]) ∧ Ext w w' := by
  unfold uintV
  split
  · rename_i v h
    refine (pu_ok s v hs h w).mono ?_
    rintro e w' ⟨rfl, hb⟩
    exact ⟨_, rfl, hb⟩
  · rename_i h
    refine (pu_range s hs h w hw).mono ?_
    rintro e w' ⟨N, rfl, hb⟩
    exact ⟨_, rfl, hb⟩
  · rename_i h1 h2
    have h : Lib.parseUintB 64 s.data.toList = noNum := by
      cases hx : Lib.parseUintB 64 s.data.toList with
      | ok v => exact absurd hx (h1 v)
      | range => exact absurd hx h2
      | _ => rfl
    refine (pu_bad s hs h w hw).mono ?_
    rintro e w' ⟨N, rfl, hb⟩
    exact ⟨_, rfl, hb⟩
theorem gitoa_any (n : Int) (w : World) (h0 : -9223372036854775808 ≤ n) (h1 : n ≤ 9223372036854775807) (h : Tabs w) : Calls Tryd.prog 36 #[.int .i64 n] w fun e w' => e = .returned (.string ⟨(itoaL n).toArray⟩) ∧ Ext w w' := by
  refine (Tryd.strconv_Itoa n h0 h1 w h).mono ?_
  rintro e w' ⟨rfl, k, os, rfl⟩
  exact ⟨rfl, Lib.below_grow _ _ (Nat.le_refl _) _ _⟩
end Go.Proofs.YtpojemlnhbdfmaaDoor
