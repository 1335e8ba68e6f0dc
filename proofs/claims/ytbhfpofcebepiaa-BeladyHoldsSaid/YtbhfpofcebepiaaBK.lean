import Derived.Test.YtbhfpofcebepiaaBL
import Derived.RegionIn
import Derived.Test.YtbhfpofcebepiaaProg
/- The iterator over a slice from its end. -/
namespace Go.Proofs.Ytbhfpofcebepiaa
open Go.RowKit Go.Shelf
attribute [local go_sem] Oper.semAt_some
set_option maxRecDepth 100000 in
set_option maxHeartbeats 4000000 in
theorem back_iter (n b c : Nat) (a : Option Addr) (L : List Nat) (hn : 1 ≤ n) (hL : L.length ≤ 1000000) : IterB Fence.wide n Try.prog 44 #[.pointer (some ⟨b, 0, none⟩)] b a c L := by
  intro lp J W hc hY h0
  refine callsIn_of_wp Try.func44 rfl trivial ?_ rfl
  simp only [Try.ntmps44, List.size_toArray, List.length_cons, List.length_nil, Nat.reduceAdd, Nat.reduceSub, Array.replicate_succ, Array.replicate_zero, List.push_toArray, List.append_toArray, List.nil_append, List.cons_append]
  obtain ⟨m0, -⟩ := hc _ _ h0
  have w0 : IntKind.i64.wrap ((L.length : Int) - 1) = (L.length : Int) - 1 := by rw [IntKind.wrap_i64]; omega
  have H0 := Box.mk h0
  clear h0
  gi_wp2
  gi_loopw [3] (fun i wr => ∃ t : Nat, t ≤ L.length ∧ i = .int .i64 ((t : Int) - 1) ∧ Box (J t wr)) (fun i _ => (intOf i + 1).toNat)
  case atStart => exact ⟨L.length, Nat.le_refl _, rfl, H0⟩
  case round =>
    obtain ⟨t, ht, rfl, hJ⟩ := hrel
    obtain ⟨m1, hC⟩ := hc _ _ hJ.out
    by_cases h1 : t = 0
    · subst h1
      have d0 : decide (((0 : Nat) : Int) - 1 ≥ 0) = false := by decide
      clear hC
      gi_wp2
      go_end0
      exact ⟨⟨_, rfl⟩, hJ.out⟩
    · obtain ⟨u, rfl⟩ : ∃ u, t = u + 1 := ⟨t - 1, by omega⟩
      have hu : u < L.length := by omega
      have e1 : (((u + 1 : Nat) : Int) - 1) = (u : Int) := by omega
      obtain ⟨b1, o1, rfl, hcell⟩ := hC u _ (u32L_at hu)
      rw [keyB_get L u hu] at hcell
      obtain ⟨fn, tmps, assign, body, hy, hR⟩ := hY u _ hu hJ.out
      rw [e1]
      have d0 : decide (0 ≤ (u : Int)) = true := by simp
      have d1 : (0 : Int) ≤ (u : Int) := by omega
      have d2 : (u : Int) < (L.length : Int) := by omega
      have w1 : IntKind.i64.wrap ((u : Int) - 1) = (u : Int) - 1 := by rw [IntKind.wrap_i64]; omega
      gi_wp2
      refine hR.mono ?_
      rintro e W3 ⟨rfl, hJ3⟩
      have hJ4 := Box.mk hJ3
      clear hJ3
      gi_wp2
      go_roundw
      case rel => exact ⟨u, by omega, rfl, hJ4⟩
      case measure => simp [intOf]
end Go.Proofs.Ytbhfpofcebepiaa
