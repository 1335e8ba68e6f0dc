import Derived.Test.YtnblbneehogadaaWP
/- The plain laws of a ring: what waits in it, one more, one less, a bigger one. -/
namespace Go.Proofs.Ytnblbneehogadaa
section
variable {α : Type}
/-- What waits in a ring: m elements from f on. -/
def ringW (R : List α) (d : α) (f m : Nat) : List α := (List.range m).map fun i => R.getD ((f + i) % R.length) d
theorem ringW_len (R : List α) (d : α) (f m : Nat) : (ringW R d f m).length = m := by simp [ringW]
theorem ringW_zero (R : List α) (d : α) (f : Nat) : ringW R d f 0 = [] := rfl
theorem getD_set_same (R : List α) (d v : α) (i : Nat) (h : i < R.length) : (R.set i v).getD i d = v := by
  rw [List.getD_eq_getElem?_getD, List.getElem?_set_self h]; rfl
theorem getD_set_ne (R : List α) (d v : α) (i j : Nat) (h : i ≠ j) : (R.set i v).getD j d = R.getD j d := by
  rw [List.getD_eq_getElem?_getD, List.getD_eq_getElem?_getD, List.getElem?_set_ne h]
theorem ringW_put (R : List α) (d v : α) (f m : Nat) (hm : m < R.length) : ringW (R.set ((f + m) % R.length) v) d f (m + 1) = ringW R d f m ++ [v] := by
  unfold ringW
  rw [List.range_succ, List.map_append, List.length_set]
  have hl : (f + m) % R.length < R.length := Nat.mod_lt _ (by omega)
  congr 1
  · apply List.map_congr_left
    intro i hi
    rw [List.mem_range] at hi
    exact getD_set_ne R d v _ _ (ring_ne (by omega) (by omega) (by omega))
  · show [(R.set ((f + m) % R.length) v).getD ((f + m) % R.length) d] = [v]
    rw [getD_set_same R d v _ hl]
theorem ringW_take (R : List α) (d z : α) (f m : Nat) (h0 : 0 < m) (hm : m ≤ R.length) (hf : f < R.length) : ringW R d f m = R.getD f d :: ringW (R.set f z) d ((f + 1) % R.length) (m - 1) := by
  obtain ⟨k, rfl⟩ : ∃ k, m = k + 1 := ⟨m - 1, by omega⟩
  unfold ringW
  rw [List.range_succ_eq_map, List.map_cons, List.map_map, List.length_set]
  congr 1
  · rw [Nat.add_zero, Nat.mod_eq_of_lt hf]
  · show List.map _ (List.range k) = _
    apply List.map_congr_left
    intro i hi
    rw [List.mem_range] at hi
    show R.getD ((f + (i + 1)) % R.length) d = _
    rw [ring_next]
    have hne : f ≠ (f + (i + 1)) % R.length := by
      have h1 := ring_ne (n := R.length) (f := f) (i := 0) (j := i + 1) (by omega) (by omega) (by omega)
      rw [Nat.add_zero, Nat.mod_eq_of_lt hf] at h1
      exact h1
    rw [getD_set_ne R d z _ _ hne]
theorem ringW_grow (R R' : List α) (d : α) (f m : Nat) (hm : m ≤ R'.length) (h : ∀ i, i < m → R'.getD i d = R.getD ((f + i) % R.length) d) : ringW R' d 0 m = ringW R d f m := by
  unfold ringW
  apply List.map_congr_left
  intro i hi
  rw [List.mem_range] at hi
  rw [Nat.zero_add, Nat.mod_eq_of_lt (by omega)]
  exact h i hi
/-- What waits are elements of the ring. -/
theorem ringW_mem (R : List α) (d : α) (f m : Nat) (hR : 0 < R.length) : ∀ x ∈ ringW R d f m, x ∈ R := by
  intro x hx
  obtain ⟨i, _, rfl⟩ := List.mem_map.1 hx
  have hl : (f + i) % R.length < R.length := Nat.mod_lt _ hR
  rw [List.getD_eq_getElem?_getD, List.getElem?_eq_getElem hl]
  exact List.getElem_mem hl
end
end Go.Proofs.Ytnblbneehogadaa
