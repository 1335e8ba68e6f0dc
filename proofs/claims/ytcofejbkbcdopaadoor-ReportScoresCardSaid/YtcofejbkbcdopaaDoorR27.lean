import Derived.Test.YtcofejbkbcdopaaDoorR26
import Derived.Test.YtcofejbkbcdopaaDoorRN
import Derived.BigRegion
/- The law's scan of a line, step by step. -/
namespace Go.Proofs.YtcofejbkbcdopaaDoor
open Go.RowKit
def nq3 (st : S3) (j : Nat) : Nat := if j = 0 then st.n0 else if j = 1 then st.n1 else st.n2
def C3 (n : Nat → Nat) : Array Value := #[.int .i64 (n 0), .int .i64 (n 1), .int .i64 (n 2)]
def up3 (n : Nat → Nat) (p x : Nat) (j : Nat) : Nat := if j = p then x else n j
theorem C3_set (n : Nat → Nat) (p x : Nat) (hp : p < 3) : (C3 n).setIfInBounds p (.int .i64 x) = C3 (up3 n p x) := by
  obtain rfl | rfl | rfl : p = 0 ∨ p = 1 ∨ p = 2 := by omega
  all_goals rfl
theorem C3_congr {n m : Nat → Nat} (h : ∀ j, j < 3 → n j = m j) : C3 n = C3 m := by
  unfold C3
  rw [h 0 (by omega), h 1 (by omega), h 2 (by omega)]
def S3Ok (st : S3) : Prop := (st.dig = true → 1 ≤ st.at_) ∧ ∀ j, j < 3 → nq3 st j ≤ 10995116277769
theorem step_non {st : S3} {c : UInt8} (h : c.toNat < 48 ∨ 57 < c.toNat) : st.step c = { st with dig := false } := by
  unfold S3.step; rw [if_pos h]
def pS (st : S3) : Nat := if st.dig then st.at_ - 1 else st.at_
theorem step_dg {st : S3} {c : UInt8} (h : 48 ≤ c.toNat ∧ c.toNat ≤ 57) (ok : S3Ok st) : (st.step c).at_ = pS st + 1 ∧ (st.step c).dig = true ∧ ∀ j, j < 3 → nq3 (st.step c) j = if j = pS st then cap40 (nq3 st j) c.toNat else nq3 st j := by
  rw [step_dig h]
  have e : (if st.dig then st.at_ else st.at_ + 1) = pS st + 1 := by
    unfold pS
    have := ok.1
    cases hd : st.dig with
    | true => rw [hd] at this; simp; have := this rfl; omega
    | false => simp
  rw [e]
  generalize pS st = p
  unfold S3.add
  by_cases h1 : p + 1 = 1
  · rw [if_pos h1]
    obtain rfl : p = 0 := by omega
    refine ⟨rfl, rfl, fun j hj => ?_⟩
    obtain rfl | rfl | rfl : j = 0 ∨ j = 1 ∨ j = 2 := by omega
    all_goals rfl
  rw [if_neg h1]
  by_cases h2 : p + 1 = 2
  · rw [if_pos h2]
    obtain rfl : p = 1 := by omega
    refine ⟨rfl, rfl, fun j hj => ?_⟩
    obtain rfl | rfl | rfl : j = 0 ∨ j = 1 ∨ j = 2 := by omega
    all_goals rfl
  rw [if_neg h2]
  by_cases h3 : p + 1 = 3
  · rw [if_pos h3]
    obtain rfl : p = 2 := by omega
    refine ⟨rfl, rfl, fun j hj => ?_⟩
    obtain rfl | rfl | rfl : j = 0 ∨ j = 1 ∨ j = 2 := by omega
    all_goals rfl
  rw [if_neg h3]
  refine ⟨rfl, rfl, fun j hj => ?_⟩
  rw [if_neg (by omega)]
  rfl
theorem cap_le {n c : Nat} (h : n ≤ 10995116277769) (hc : c ≤ 57) : cap40 n c ≤ 10995116277769 := by
  unfold cap40
  split <;> omega
theorem step_ok {st : S3} (c : UInt8) (ok : S3Ok st) : S3Ok (st.step c) := by
  by_cases h : c.toNat < 48 ∨ 57 < c.toNat
  · rw [step_non h]
    exact ⟨fun e => (by cases e), ok.2⟩
  · obtain ⟨a, _, n⟩ := step_dg (c := c) (by omega) ok
    refine ⟨fun _ => by omega, fun j hj => ?_⟩
    rw [n j hj]
    split
    · exact cap_le (ok.2 j hj) (by omega)
    · exact ok.2 j hj
def st0 : S3 := ⟨0, false, 0, 0, 0⟩
theorem st0_ok : S3Ok st0 := ⟨fun e => (by cases e), fun j hj => by unfold nq3 st0; simp⟩
theorem scan3_take (l : List UInt8) (k : Nat) (hk : k < l.length) : scan3 (l.take (k + 1)) st0 = (scan3 (l.take k) st0).step (l.getD k 0) := by
  have e : l.take (k + 1) = l.take k ++ [l.getD k 0] := by
    rw [List.getD_eq_getElem?_getD, List.getElem?_eq_getElem hk, List.take_succ_eq_append_getElem hk]
    rfl
  rw [e, scan3_app]
  rfl
theorem get_getD (s : ByteArray) (j : Nat) (h : j < s.size) : s[j]'h = s.data.toList.getD j 0 := by
  have h2 : j < s.data.toList.length := h
  rw [List.getD_eq_getElem?_getD, List.getElem?_eq_getElem h2]
  rfl
theorem c3_cell {w : World} {N : Nat} {n : Nat → Nat} (h : w.heap[N]? = some (.cells (C3 n) 61 (0, 0))) (j : Nat) (hj : j < 3) : w.cell? ⟨N, j, none⟩ = some (.int .i64 (n j : Nat)) := by
  rw [Lib.cell_of_heap h]
  obtain rfl | rfl | rfl : j = 0 ∨ j = 1 ∨ j = 2 := by omega
  all_goals rfl
/-- What the law reads of a line. -/
def rdV (o : Option Sc) : Value := match o with
  | some x => .tuple #[.agg #[.int .i64 x.k, .int .i64 x.size, .int .i64 x.b, .int .i64 x.a], .bool true]
  | none => .tuple #[.agg #[.int .i64 0, .int .i64 0, .int .i64 0, .int .i64 0], .bool false]
end Go.Proofs.YtcofejbkbcdopaaDoor
