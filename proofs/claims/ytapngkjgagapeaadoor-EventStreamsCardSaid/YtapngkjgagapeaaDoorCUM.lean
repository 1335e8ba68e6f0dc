import Derived.Lib.IndexMore
import Derived.Lib.ParseIntB
/- What stands before and behind a byte: the plain laws. -/
namespace Go.Proofs.YtapngkjgagapeaaDoor

/-- What stands before and behind the first byte x. -/
def cA (x : UInt8) (l : List UInt8) : List UInt8 := l.takeWhile (· != x)
def cZ (x : UInt8) (l : List UInt8) : List UInt8 := (l.dropWhile (· != x)).tail
def cF (x : UInt8) (l : List UInt8) : Bool := l.any (· == x)
theorem cA_at (x : UInt8) (p r : List UInt8) (h : ∀ c ∈ p, c ≠ x) : cA x (p ++ x :: r) = p := by
  unfold cA
  rw [List.takeWhile_append_of_pos (fun c hc => by simpa using h c hc), List.takeWhile_cons_of_neg (by simp), List.append_nil]
theorem cZ_at (x : UInt8) (p r : List UInt8) (h : ∀ c ∈ p, c ≠ x) : cZ x (p ++ x :: r) = r := by
  unfold cZ
  rw [List.dropWhile_append_of_pos (fun c hc => by simpa using h c hc), List.dropWhile_cons_of_neg (by simp), List.tail_cons]
theorem cF_at (x : UInt8) (p r : List UInt8) : cF x (p ++ x :: r) = true := by unfold cF; simp
theorem cA_all (x : UInt8) (p : List UInt8) (h : ∀ c ∈ p, c ≠ x) : cA x p = p := by
  have := List.takeWhile_append_of_pos (p := (· != x)) (l₁ := p) (l₂ := []) (fun c hc => by simpa using h c hc)
  simpa [cA] using this
theorem cZ_all (x : UInt8) (p : List UInt8) (h : ∀ c ∈ p, c ≠ x) : cZ x p = [] := by
  have := List.dropWhile_append_of_pos (p := (· != x)) (l₁ := p) (l₂ := []) (fun c hc => by simpa using h c hc)
  have h2 : p.dropWhile (· != x) = [] := by simpa using this
  unfold cZ; rw [h2]; rfl
theorem cF_all (x : UInt8) (p : List UInt8) (h : ∀ c ∈ p, c ≠ x) : cF x p = false := by
  unfold cF; rw [List.any_eq_false]; intro c hc; simpa using h c hc
theorem cZ_len (x : UInt8) (l : List UInt8) : (cZ x l).length ≤ l.length := by
  unfold cZ
  have := (List.dropWhile_sublist (· != x) (l := l)).length_le
  rw [List.length_tail]; omega
theorem cA_len (x : UInt8) (l : List UInt8) : (cA x l).length ≤ l.length := (List.takeWhile_sublist (· != x) (l := l)).length_le
theorem ccut_none (x : UInt8) (l : List UInt8) (h : ∀ k : Nat, l[k]? ≠ some x) : cA x l = l ∧ cZ x l = [] ∧ cF x l = false := by
  have hn : ∀ c ∈ l, c ≠ x := fun c hc e => by
    obtain ⟨i, hi, he⟩ := List.getElem_of_mem hc
    exact h i (by rw [List.getElem?_eq_getElem hi, he, e])
  exact ⟨cA_all x l hn, cZ_all x l hn, cF_all x l hn⟩
theorem ccut_some (x : UInt8) (l : List UInt8) (o : Nat) (h : l[o]? = some x) (hk : ∀ k : Nat, k < o → l[k]? ≠ some x) : cA x l = l.take o ∧ cZ x l = l.drop (o + 1) ∧ cF x l = true := by
  have ho : o < l.length := (List.getElem?_eq_some_iff.1 h).1
  have e0 : l[o] = x := (List.getElem?_eq_some_iff.1 h).2
  have e : l = l.take o ++ x :: l.drop (o + 1) := by
    rw [← e0, ← List.drop_eq_getElem_cons ho, List.take_append_drop]
  have hn : ∀ c ∈ l.take o, c ≠ x := fun c hc e1 => by
    obtain ⟨i, hi, he⟩ := List.getElem_of_mem hc
    have hi2 : i < o := by simp at hi; omega
    rw [List.getElem_take] at he
    exact hk i hi2 (by rw [List.getElem?_eq_getElem (by omega), he, e1])
  have a := cA_at x (l.take o) (l.drop (o + 1)) hn
  have z := cZ_at x (l.take o) (l.drop (o + 1)) hn
  have f := cF_at x (l.take o) (l.drop (o + 1))
  rw [← e] at a z f
  exact ⟨a, z, f⟩

end Go.Proofs.YtapngkjgagapeaaDoor
