import Derived.Test.YtapngkjgagapeaaDoorE13
import Derived.Test.YtapngkjgagapeaaDoorVM
import Derived.Deep.RegionHeld3
/- Contracts of the small functions of package event and of its reference. -/
namespace Go.Proofs.YtapngkjgagapeaaDoor
open Go.RowKit

theorem gWords : Tryd.prog.globalNamed "cubbyhole/event.words" = some 0 := by kernel_rfl
def wordS (k : Nat) : ByteArray := ⟨(wordV k).toArray⟩
structure EnvV (w : World) : Prop where
  env : Env w
  words : w.var? Tryd.prog "cubbyhole/event.words" = some #[.string (wordS 0), .string (wordS 1), .string (wordS 2), .string (wordS 3), .string (wordS 4), .string (wordS 5)]
theorem EnvV.ext {w w' : World} (h : EnvV w) (hb : Ext w w') : EnvV w' := ⟨h.env.ext hb, var_ext h.words hb⟩
theorem EnvV.word {w : World} (h : EnvV w) (k : Nat) (hk : k < 6) : w.cell? ⟨0, k, none⟩ = some (.string (wordS k)) := by
  have h0 := World.var?_cell gWords h.words k
  rw [h0]
  obtain rfl | rfl | rfl | rfl | rfl | rfl : k = 0 ∨ k = 1 ∨ k = 2 ∨ k = 3 ∨ k = 4 ∨ k = 5 := by omega
  all_goals rfl
theorem blk6 {w : World} {B : Nat} {c0 c1 c2 c3 c4 c5 : Value} {T : TypeId} (h : w.heap[B]? = some (.cells #[c0, c1, c2, c3, c4, c5] T (0, 0))) :
    w.cell? ⟨B, 0, none⟩ = some c0 ∧ w.cell? ⟨B, 1, none⟩ = some c1 ∧ w.cell? ⟨B, 2, none⟩ = some c2 ∧ w.cell? ⟨B, 3, none⟩ = some c3 ∧ w.cell? ⟨B, 4, none⟩ = some c4 ∧ w.cell? ⟨B, 5, none⟩ = some c5 :=
  ⟨by rw [Lib.cell_of_heap h]; rfl, by rw [Lib.cell_of_heap h]; rfl, by rw [Lib.cell_of_heap h]; rfl, by rw [Lib.cell_of_heap h]; rfl, by rw [Lib.cell_of_heap h]; rfl, by rw [Lib.cell_of_heap h]; rfl⟩

def kB (k : Int) : Bool := decide (1 ≤ k) && decide (k < 6)
set_option maxHeartbeats 1000000 in
theorem kind_any (k : Int) (w : World) : Calls Tryd.prog 41 #[.int .i64 k] w fun e w' => e = .returned (.bool (kB k)) ∧ w = w' := by
  unfold kB
  by_cases h : 1 ≤ k
  · have d1 : decide (1 ≤ k) = true := decide_eq_true h
    clear h
    go_enter Tryd.func41, Tryd.ntmps41
    go_wp2
    go_ret
    exact ⟨ret_bool (by simp [d1]), rfl⟩
  · have d1 : decide (1 ≤ k) = false := decide_eq_false h
    clear h
    go_enter Tryd.func41, Tryd.ntmps41
    go_wp2
    go_ret
    exact ⟨ret_bool (by simp [d1]), rfl⟩
theorem quietV {P : Program} {f : FuncId} {args : Array Value} {w : World} {n : Nat} {v : Value} (h : Calls P f args (w.drewN n) fun e w' => e = .returned v ∧ w.drewN n = w') :
    Calls P f args (w.drewN n) fun e w'' => e = .returned v ∧ ∃ m, w'' = w.drewN m :=
  h.mono fun _ _ ⟨he, hm⟩ => ⟨he, n, hm.symm⟩
set_option maxHeartbeats 1000000 in
theorem of_any (k : Int) (s : ByteArray) (a : Option Addr) (n c b d t : Nat) (w : World) :
    Calls Tryd.prog 43 #[(.agg #[.int .i64 (k), .string s, .slice a (n) c, .int .u64 (b), .int .u64 (d), .int .u64 (t)])] w fun e w' => e = .returned (.agg #[.string s, .slice a n c, .int .u64 d, .int .u64 b]) ∧ Ext w w' := by
  go_enter Tryd.func43, Tryd.ntmps43
  go_wp2
  refine bodyPost_ret (v := .agg #[.string s, .slice a n c, .int .u64 d, .int .u64 b]) ?_ rfl ⟨rfl, ?_⟩
  · simp [results, Tryd.results43, go_sem]
  · exact Ext.alloc (Ext.alloc (Below.refl _ _) _) _
set_option maxHeartbeats 1000000 in
theorem rof_any (k : Int) (s : ByteArray) (a : Option Addr) (n c b d t : Nat) (w : World) :
    Calls Tryd.prog 53 #[(.agg #[.int .i64 (k), .string s, .slice a (n) c, .int .u64 (b), .int .u64 (d), .int .u64 (t)])] w fun e w' => e = .returned (.agg #[.string s, .slice a n c, .int .u64 d, .int .u64 b]) ∧ Ext w w' := by
  go_enter Tryd.func53, Tryd.ntmps53
  go_wp2
  refine bodyPost_ret (v := .agg #[.string s, .slice a n c, .int .u64 d, .int .u64 b]) ?_ rfl ⟨rfl, ?_⟩
  · simp [results, Tryd.results53, go_sem]
  · exact Ext.alloc (Ext.alloc (Below.refl _ _) _) _
set_option maxHeartbeats 1000000 in
theorem rdue_any (d n : Nat) (w : World) (hd : d < 18446744073709551616) (hn : n < 18446744073709551616) :
    Calls Tryd.prog 54 #[.int .u64 d, .int .u64 n] w fun e w' => e = .returned (.bool (dueB d n)) ∧ w = w' := by
  unfold dueB never
  by_cases h : d = 18446744073709551615
  · subst h
    go_enter Tryd.func54, Tryd.ntmps54
    go_wp2
    go_ret
    exact ⟨ret_bool (by simp), rfl⟩
  · have h1 : ((d : Int) != 18446744073709551615) = true := by rw [bne_iff_ne]; omega
    go_enter Tryd.func54, Tryd.ntmps54
    go_wp2
    go_ret
    exact ⟨ret_bool (by simp [h]), rfl⟩
theorem takeD {P : Program} {ops : Array Oper} {Q : Exit → Act → World → Prop} {md : Region.Mode} {S : World → Prop} {i : Nat} {oi : Oper} {d : Option Tmp} {v : Value} {fuel : Nat} {listed : Array Bool} {a : Act} {w : World} (hi : ops[i]? = some oi) (hd : oi.dst = d)
    (hs : Region.noSelect ops = true) (hf : Region.free md ops listed i = true) (hr : (Region.ready md ops listed).contains i = true)
    (hQ : ∀ c a w, Q (.panic c) (a.put d v) w → Q (.panic c) a w) (hy : YieldsIf P ops S oi v a) (hS : S w)
    (h : wpAnyH P md ops Q S fuel (listed.setIfInBounds i true) (a.put d v) w) : wpAnyH P md ops Q S (fuel + 1) listed a w := by
  subst hd
  exact wpAnyH_take hi hs hf hr hQ hy hS h
end Go.Proofs.YtapngkjgagapeaaDoor
