/- The plain laws of a watcher: what waits, a ring of places, and what is taken is found again in order. -/
namespace Go.Proofs.Ytnblbneehogadaa
section
variable {α : Type}
/-- A watcher: what waits and how many are lost. -/
structure WtB (α : Type) where
  wait : List α
  lost : Nat
/-- An event that fits is put behind those that wait; room, and whether the oldest one leaves. -/
def WtB.put (room : Nat) (oldest : Bool) (w : WtB α) (v : α) : WtB α :=
  if room ≤ w.wait.length then (if oldest then ⟨w.wait.tail ++ [v], w.lost + 1⟩ else ⟨w.wait, w.lost + 1⟩) else ⟨w.wait ++ [v], w.lost⟩
/-- Was it put behind those that wait. -/
def WtB.took (room : Nat) (oldest : Bool) (w : WtB α) : Bool := decide (w.wait.length < room) || oldest
def WtB.puts (room : Nat) (oldest : Bool) (w : WtB α) (l : List α) : WtB α := l.foldl (WtB.put room oldest) w
def WtB.take (w : WtB α) (n : Nat) : WtB α := ⟨w.wait.drop n, w.lost⟩
theorem WtB.put_len {room : Nat} {oldest : Bool} {w : WtB α} (h1 : 1 ≤ room) (h : w.wait.length ≤ room) (v : α) : (w.put room oldest v).wait.length ≤ room := by
  unfold WtB.put
  split
  · split
    · simp; omega
    · exact h
  · simp; omega
theorem WtB.puts_len {room : Nat} {oldest : Bool} (h1 : 1 ≤ room) (l : List α) : ∀ {w : WtB α}, w.wait.length ≤ room → (w.puts room oldest l).wait.length ≤ room := by
  induction l with
  | nil => intro w h; exact h
  | cons v l ih => intro w h; exact ih (WtB.put_len h1 h v)
/-- Behind some events: all that fit; taken of them so far; from: up to where they are accounted for. -/
structure RunB (all : List α) (w : WtB α) (taken fr : Nat) : Prop where
  le : fr ≤ all.length
  sub : w.wait.Sublist (all.drop fr)
  sum : taken + w.wait.length + w.lost = all.length
theorem RunB.start : RunB ([] : List α) ⟨[], 0⟩ 0 0 := ⟨Nat.le_refl _, List.Sublist.slnil, rfl⟩
theorem RunB.put {all : List α} {w : WtB α} {taken fr room : Nat} {oldest : Bool} (h : RunB all w taken fr) (h1 : 1 ≤ room) (v : α) : RunB (all ++ [v]) (w.put room oldest v) taken fr := by
  have hd : (all ++ [v]).drop fr = all.drop fr ++ [v] := List.drop_append_of_le_length h.le
  have hsub2 : (w.wait ++ [v]).Sublist ((all ++ [v]).drop fr) := by rw [hd]; exact h.sub.append (List.Sublist.refl _)
  have hs := h.sum
  unfold WtB.put
  split
  · rename_i hr
    split
    · refine ⟨by have := h.le; simp; omega, ?_, ?_⟩
      · rw [hd]
        exact ((List.tail_sublist w.wait).trans h.sub).append (List.Sublist.refl _)
      · simp; omega
    · refine ⟨by have := h.le; simp; omega, ?_, by simp; omega⟩
      rw [hd]
      exact h.sub.trans (List.sublist_append_left _ _)
  · exact ⟨by have := h.le; simp; omega, hsub2, by simp; omega⟩
theorem RunB.puts {room : Nat} {oldest : Bool} (h1 : 1 ≤ room) (l : List α) : ∀ {all : List α} {w : WtB α} {taken fr : Nat}, RunB all w taken fr → RunB (all ++ l) (w.puts room oldest l) taken fr := by
  induction l with
  | nil => intro all w taken fr h; rw [List.append_nil]; exact h
  | cons v l ih =>
    intro all w taken fr h
    have := ih (h.put h1 (oldest := oldest) v)
    rw [List.append_assoc] at this
    exact this
/-- Looking for an event from a place on: the place behind it, or none. -/
def seekB [DecidableEq α] (x : α) : List α → Nat → Option Nat
  | [], _ => none
  | a :: l, k => if a = x then some (k + 1) else seekB x l (k + 1)
theorem seekB_some [DecidableEq α] (x : α) (r : List α) : ∀ (l : List α) (k : Nat), (x :: r).Sublist l → ∃ j, seekB x l k = some (k + j) ∧ j ≤ l.length ∧ 1 ≤ j ∧ r.Sublist (l.drop j) := by
  intro l
  induction l with
  | nil => intro k h; cases h
  | cons a l ih =>
    intro k h
    unfold seekB
    by_cases e : a = x
    · rw [if_pos e]
      refine ⟨1, rfl, by simp, Nat.le_refl _, ?_⟩
      show r.Sublist l
      subst e
      exact List.cons_sublist_cons.1 h
    · rw [if_neg e]
      have h2 : (x :: r).Sublist l := by
        cases h with
        | cons _ h => exact h
        | cons_cons _ h => exact absurd rfl e
      obtain ⟨j, h3, h4, h5, h6⟩ := ih (k + 1) h2
      exact ⟨j + 1, by rw [h3]; congr 1; omega, by simp; omega, by omega, h6⟩
/-- One event that is taken is found. -/
theorem RunB.one [DecidableEq α] {all : List α} {x : α} {r : List α} {lost taken fr : Nat} (h : RunB all ⟨x :: r, lost⟩ taken fr) : ∃ fr', seekB x (all.drop fr) fr = some fr' ∧ RunB all ⟨r, lost⟩ (taken + 1) fr' := by
  obtain ⟨j, h1, h2, _, h4⟩ := seekB_some x r (all.drop fr) fr h.sub
  rw [List.length_drop] at h2
  rw [List.drop_drop] at h4
  refine ⟨fr + j, h1, by have := h.le; omega, h4, ?_⟩
  have := h.sum
  simp at this ⊢
  omega
end
/- a ring of n places -/
theorem ring_ne {n f i j : Nat} (hi : i < n) (hj : j < n) (h : i ≠ j) : (f + i) % n ≠ (f + j) % n := by
  intro e
  have h1 := Nat.div_add_mod (f + i) n
  have h2 := Nat.div_add_mod (f + j) n
  rw [e] at h1
  generalize hp : (f + i) / n = p at *
  generalize hq : (f + j) / n = q at *
  have : p = q := by
    rcases Nat.lt_trichotomy p q with h3 | h3 | h3
    · have := Nat.mul_le_mul_left n (show p + 1 ≤ q from h3)
      rw [Nat.mul_add, Nat.mul_one] at this
      omega
    · exact h3
    · have := Nat.mul_le_mul_left n (show q + 1 ≤ p from h3)
      rw [Nat.mul_add, Nat.mul_one] at this
      omega
  subst this
  omega
theorem ring_next {n f i : Nat} : ((f + 1) % n + i) % n = (f + (i + 1)) % n := by
  rw [Nat.mod_add_mod]
  congr 1
  omega
end Go.Proofs.Ytnblbneehogadaa
