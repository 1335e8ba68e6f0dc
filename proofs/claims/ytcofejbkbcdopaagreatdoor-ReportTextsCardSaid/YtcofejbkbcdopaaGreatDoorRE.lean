
import Derived.Test.YtcofejbkbcdopaaGreatDoorLib
import Derived.Test.YtcofejbkbcdopaaGreatDoorShelf
import Derived.Test.YtcofejbkbcdopaaGreatDoorTI
import Derived.Test.YtcofejbkbcdopaaGreatDoorRM
import Derived.Test.YtcofejbkbcdopaaGreatDoorST
import Derived.Lib.LaidTab
import Derived.Lib.SmallJoins
import Derived.Lib.AtoiAllCases
import Derived.Lib.ItoaMem
import Derived.Lib.AppendIntMem
import Derived.Deep.RegionHeld3
import Derived.Deep.RegionWith
/- What the listed variables hold, for reports; contracts of strconv.Itoa at numbers from 0 on and of strconv.Atoi at every string. -/
namespace Go.Proofs.YtcofejbkbcdopaaGreatDoor
open Go.RowKit
theorem var_ext {w w' : World} {n : String} {cs : Array Value} (h : w.var? Tryz.prog n = some cs) (hb : Ext w w') : w'.var? Tryz.prog n = some cs := by
  unfold World.var? at h ⊢
  cases hg : Tryz.prog.globalNamed n with
  | none => simp [hg] at h
  | some g =>
    simp only [hg, Option.bind_some] at h ⊢
    have hlt : g < w.heap.size := by
      rcases Nat.lt_or_ge g w.heap.size with h' | h'
      · exact h'
      · simp [Array.getElem?_eq_none h'] at h
    rw [hb.block g hlt]; exact h
def Tabs (w : World) : Prop := Lib.TabIs Tryz.prog w "internal/strconv.uint64pow10" .u64 Lib.pow10Tab
theorem Tabs.ext {w w' : World} (h : Tabs w) (hb : Ext w w') : Tabs w' := var_ext h hb
structure Env (w : World) : Prop where
  tabs : Tabs w
  syn : ∃ tp p, w.var? Tryz.prog "strconv.ErrSyntax" = some #[.iface tp p]
  rng : ∃ tp p, w.var? Tryz.prog "strconv.ErrRange" = some #[.iface tp p]
theorem Env.ext {w w' : World} (h : Env w) (hb : Ext w w') : Env w' :=
  ⟨h.tabs.ext hb, let ⟨a, b, c⟩ := h.syn; ⟨a, b, var_ext c hb⟩, let ⟨a, b, c⟩ := h.rng; ⟨a, b, var_ext c hb⟩⟩
/-- The words of the kinds of events. -/
def wordV : Nat → List UInt8
  | 1 => [101, 120, 112, 105, 114, 101, 100]
  | 2 => [101, 118, 105, 99, 116, 101, 100]
  | 3 => [114, 101, 112, 108, 97, 99, 101, 100]
  | 4 => [100, 101, 108, 101, 116, 101, 100]
  | 5 => [99, 108, 101, 97, 114, 101, 100]
  | _ => []
def wordS (k : Nat) : ByteArray := ⟨(wordV k).toArray⟩
structure EnvV (w : World) : Prop where
  env : Env w
  words : w.var? Tryz.prog "cubbyhole/event.words" = some #[.string (wordS 0), .string (wordS 1), .string (wordS 2), .string (wordS 3), .string (wordS 4), .string (wordS 5)]
theorem gWords : Tryz.prog.globalNamed "cubbyhole/event.words" = some 0 := by kernel_rfl
theorem EnvV.ext {w w' : World} (h : EnvV w) (hb : Ext w w') : EnvV w' := ⟨h.env.ext hb, var_ext h.words hb⟩
theorem EnvV.word {w : World} (h : EnvV w) (k : Nat) (hk : k < 6) : w.cell? ⟨0, k, none⟩ = some (.string (wordS k)) := by
  have h0 := World.var?_cell gWords h.words k
  rw [h0]
  obtain rfl | rfl | rfl | rfl | rfl | rfl : k = 0 ∨ k = 1 ∨ k = 2 ∨ k = 3 ∨ k = 4 ∨ k = 5 := by omega
  all_goals rfl
theorem newblk (w : World) (o : Obj) : (w.alloc o).heap[w.heap.size]? = some o := by
  unfold World.alloc; simp
theorem Ext.blk {W w1 : World} (hb : Ext W w1) {B : Nat} {o : Obj} (h : W.heap[B]? = some o) : w1.heap[B]? = some o :=
  (hb.block B (Array.getElem?_eq_some_iff.1 h).1).trans h
theorem blk_lt {w : World} {B : Nat} {o : Obj} (h : w.heap[B]? = some o) : B < w.heap.size := (Array.getElem?_eq_some_iff.1 h).1
theorem ownsRow_ext {w w' : World} (hb : Ext w w') {base : Nat} {e : TypeId} {size : Nat} {v : Value} {n : Nat} {xs : List Value} (h : w.ownsRow base e size v n xs) : w'.ownsRow base e size v n xs := by
  refine h.kept (row := none) ⟨hb.os, hb.tape, hb.output, hb.size, fun k hk _ => hb.block k hk⟩ ?_
  cases v.ownBlock with
  | none => exact Or.inl rfl
  | some k => exact Or.inr (by simp)
theorem Ext.drew1 {a w : World} (h : Ext a w) : Ext a w.drew := Ext.drewN h 1
theorem ritoa_any (n : Nat) (h : n ≤ 9223372036854775807) (w : World) (ht : Tabs w) : Calls Tryz.prog 20 #[.int .i64 n] w fun e w' => e = .returned (.string (digs n)) ∧ Ext w w' := by
  refine (Tryz.strconv_Itoa n (by omega) (by omega) w ht).mono ?_
  rintro e w' ⟨rfl, k, os, rfl⟩
  refine ⟨?_, Lib.below_grow _ _ (Nat.le_refl _) _ _⟩
  first
    | rfl
    | (congr 2; unfold digs; congr 1; unfold Lib.itoa; rw [if_neg (by omega)]; rfl)
    | (congr 2; unfold digs Lib.itoa; simp)
theorem ratoi_ok (s : ByteArray) (v : Int) (hs : s.size ≤ 281474976710656) (h : Lib.atoiAll s.data.toList = .ok v) (w : World) :
    Calls Tryz.prog 36 #[.string s] w fun e w' => e = .returned (.tuple #[.int .i64 v, .nilIface]) ∧ Ext w w' := by
  refine (Tryz.strconv_Atoi_ok s (by omega) v h w).mono ?_
  rintro e w' ⟨rfl, hw⟩
  refine ⟨rfl, ?_⟩
  rcases hw with rfl | ⟨t, rfl⟩
  · exact Below.refl _ _
  · exact Joins.below_bytesWorld _ _ _ _ (Nat.le_refl _)
theorem ratoi_no (s : ByteArray) (hs : s.size ≤ 281474976710656) (h0 : ∀ v, Lib.atoiAll s.data.toList ≠ .ok v) (w : World) (hw : Env w) :
    Calls Tryz.prog 36 #[.string s] w fun e w' => ∃ v t N, e = .returned (.tuple #[.int .i64 v, .iface t (.pointer (some ⟨N, 0, none⟩))]) ∧ Ext w w' := by
  by_cases h : Lib.atoiAll s.data.toList = .range
  · obtain ⟨tp, p, hv⟩ := hw.rng
    refine (Tryz.strconv_Atoi_range_var s hs h tp p w hv).mono ?_
    rintro e w' ⟨N, rfl, _, _, hb⟩
    exact ⟨_, _, _, rfl, hb⟩
  · obtain ⟨tp, p, hv⟩ := hw.syn
    have h : Lib.atoiAll s.data.toList = noInt := by
      unfold noInt
      cases hx : Lib.atoiAll s.data.toList with
      | ok v => exact absurd hx (h0 v)
      | range => exact absurd hx h
      | _ => rfl
    refine (Tryz.strconv_Atoi_syntax_var s hs h tp p w hv).mono ?_
    rintro e w' ⟨N, rfl, _, _, hb⟩
    exact ⟨_, _, _, rfl, hb⟩
theorem tdiv_nat (a b : Nat) : (a : Int).tdiv (b : Int) = ((a / b : Nat) : Int) := by
  rw [Int.tdiv_eq_ediv_of_nonneg (by omega)]; exact (Int.natCast_ediv _ _).symm
theorem tmod_nat (a b : Nat) : (a : Int).tmod (b : Int) = ((a % b : Nat) : Int) := by
  rw [Int.tmod_eq_emod_of_nonneg (by omega)]; exact (Int.natCast_emod _ _).symm
/- The report's ratio. -/
def hasB (a b : Int) : Bool := decide (0 ≤ a) && decide (a ≤ b) && decide (b ≤ 1073741824)
theorem hasB_iff (a b : Int) : hasB a b = true ↔ 0 ≤ a ∧ a ≤ b ∧ b ≤ 1073741824 := by
  unfold hasB; simp [Bool.and_eq_true, and_assoc]
set_option maxHeartbeats 1000000 in
theorem has_any (a b : Int) (w : World) : Calls Tryz.prog 45 #[.int .i64 a, .int .i64 b] w fun e w' => e = .returned (.bool (hasB a b)) ∧ w = w' := by
  unfold hasB
  have key : (decide (0 ≤ a) = false) ∨ (decide (0 ≤ a) = true ∧ decide (a ≤ b) = false) ∨ (decide (0 ≤ a) = true ∧ decide (a ≤ b) = true) := by
    cases decide (0 ≤ a) <;> cases decide (a ≤ b) <;> simp
  rcases key with d1 | ⟨d1, d2⟩ | ⟨d1, d2⟩
  all_goals
    go_enter Tryz.func45, Tryz.ntmps45
    go_wp2
    go_ret
    exact ⟨ret_bool (by simp [*]), rfl⟩
set_option maxHeartbeats 1000000 in
theorem divisor_any (k : Nat) : ∀ (a b : Nat) (w : World), b ≤ k → a ≤ 1073741824 → b ≤ 1073741824 → Calls Tryz.prog 46 #[.int .i64 a, .int .i64 b] w fun e w' => e = .returned (.int .i64 (Nat.gcd b a : Nat)) ∧ w = w' := by
  induction k with
  | zero =>
    intro a b w hk ha hb
    obtain rfl : b = 0 := by omega
    rw [Nat.gcd_zero_left]
    go_enter Tryz.func46, Tryz.ntmps46
    go_wp2
    go_ret
    exact ⟨rfl, rfl⟩
  | succ k ih =>
    intro a b w hk ha hb
    by_cases h0 : b = 0
    · subst h0
      rw [Nat.gcd_zero_left]
      go_enter Tryz.func46, Tryz.ntmps46
      go_wp2
      go_ret
      exact ⟨rfl, rfl⟩
    · have hm : a % b < b := Nat.mod_lt _ (by omega)
      have c1 := Box.mk (fun w => ih b (a % b) w (by omega) hb (by omega))
      rw [show Nat.gcd b a = Nat.gcd (a % b) b from Nat.gcd_rec b a]
      have d1 : ((b : Int) == 0) = false := by rw [beq_eq_false_iff_ne]; omega
      have e1 : (a : Int).tmod (b : Int) = ((a % b : Nat) : Int) := by rw [Int.tmod_eq_emod_of_nonneg (by omega)]; exact (Int.natCast_emod _ _).symm
      have e2 : (a : Int) % (b : Int) = ((a % b : Nat) : Int) := (Int.natCast_emod _ _).symm
      have h00 : ¬ (b : Int) = 0 := by omega
      generalize hz : a % b = z at *
      clear ih
      go_enter Tryz.func46, Tryz.ntmps46
      go_wp2_with (go_at_call 46; (with_reducible refine (c1.out _).mono ?_); rintro e w' ⟨rfl, rfl⟩)
      go_ret
      exact ⟨rfl, rfl⟩
end Go.Proofs.YtcofejbkbcdopaaGreatDoor
