import Derived.Test.YtcofejbkbcdopaaGreatDoorRS
/- The plain law of a text that is read line by line. -/
namespace Go.Proofs.YtcofejbkbcdopaaGreatDoor
theorem linesL_close (l : List UInt8) (m : Nat) (hm : l.length ≤ m) (hl : l ≠ []) (q r : List UInt8) (hq : ∀ c ∈ q, c ≠ 10) (h : l = q ++ 10 :: r ∨ (l = q ∧ r = [])) :
    ∃ t, linesL m l = t :: linesL (m - 1) r ∧ r.length ≤ m - 1 ∧ t = l.take (l.length - r.length) := by
  obtain ⟨k, rfl⟩ : ∃ k, m = k + 1 := ⟨m - 1, by cases l with | nil => exact absurd rfl hl | cons a l => simp at hm; omega⟩
  rcases h with rfl | ⟨rfl, rfl⟩
  · refine ⟨q ++ [10], ?_, by simp at hm ⊢; omega, ?_⟩
    · show (if q ++ 10 :: r = [] then [] else if cF 10 (q ++ 10 :: r) then (cA 10 (q ++ 10 :: r) ++ [10]) :: linesL k (cZ 10 (q ++ 10 :: r)) else [q ++ 10 :: r]) = _
      rw [if_neg hl, cF_at, cA_at 10 q r hq, cZ_at 10 q r hq, if_pos rfl]
      rfl
    · have : (q ++ 10 :: r).length - r.length = q.length + 1 := by simp; omega
      rw [this]
      simp [List.take_append]
      exact (List.take_of_length_le (by omega)).symm
  · refine ⟨l, ?_, by simp, by simp⟩
    show (if l = [] then [] else if cF 10 l then (cA 10 l ++ [10]) :: linesL k (cZ 10 l) else [l]) = _
    rw [if_neg hl, cF_all 10 l hq, if_neg Bool.false_ne_true]
    cases k <;> rfl
/-- The state of the law's loop over a text: where it is, where the line began, what was read. -/
structure LinI (l : List UInt8) (i fr : Nat) (acc : List Sc) : Prop where
  fi : fr ≤ i
  il : i ≤ l.length
  no : ∀ j c, fr ≤ j → j < i → l[j]? = some c → c ≠ 10
  fin : i = l.length → fr = l.length
  al : acc.length ≤ fr
  rd : ∃ m, (l.drop fr).length ≤ m ∧ rdS [] (linesL l.length l) = rdS acc (linesL m (l.drop fr))
theorem LinI.init (l : List UInt8) : LinI l 0 0 [] := ⟨Nat.le_refl _, Nat.zero_le _, fun j c h1 h2 => absurd h2 (by omega), fun h => h, Nat.zero_le _, ⟨l.length, by simp, by simp⟩⟩
theorem LinI.go {l : List UInt8} {i fr : Nat} {acc : List Sc} (h : LinI l i fr acc) (c : UInt8) (hi : i + 1 < l.length) (hc : l[i]? = some c) (hn : c ≠ 10) : LinI l (i + 1) fr acc :=
  ⟨by have := h.fi; omega, by omega, fun j d h1 h2 hd => by
    by_cases e : j = i
    · subst e; rw [hc] at hd; cases hd; exact hn
    · exact h.no j d h1 (by omega) hd, fun e => absurd e (by omega), h.al, h.rd⟩
/-- A line ends: what is read of it. -/
theorem LinI.line {l : List UInt8} {i fr : Nat} {acc : List Sc} (h : LinI l i fr acc) (c : UInt8) (hi : i < l.length) (hc : l[i]? = some c) (hn : c = 10 ∨ i + 1 = l.length) :
    ∃ m, (l.drop (i + 1)).length ≤ m ∧ rdS [] (linesL l.length l) = rdS acc ((l.drop fr).take (i + 1 - fr) :: linesL m (l.drop (i + 1))) := by
  obtain ⟨m, hm, hr⟩ := h.rd
  have hfi := h.fi
  have hdl : (l.drop fr).length = l.length - fr := List.length_drop
  have hne : l.drop fr ≠ [] := fun e => by rw [e] at hdl; simp at hdl; omega
  have hq : ∀ x ∈ (l.drop fr).take (i - fr), x ≠ 10 := fun x hx => by
    obtain ⟨j, hj, e⟩ := List.getElem_of_mem hx
    rw [List.length_take] at hj
    rw [List.getElem_take, List.getElem_drop] at e
    exact h.no (fr + j) x (by omega) (by omega) (by rw [← e]; exact List.getElem?_eq_getElem _)
  have hsp : l.drop fr = (l.drop fr).take (i - fr) ++ c :: l.drop (i + 1) := by
    have e1 : l.drop fr = (l.drop fr).take (i - fr) ++ (l.drop fr).drop (i - fr) := (List.take_append_drop _ _).symm
    have e2 : (l.drop fr).drop (i - fr) = l.drop i := by rw [List.drop_drop]; congr 1; omega
    have e3 : l.drop i = c :: l.drop (i + 1) := by
      rw [List.drop_eq_getElem_cons hi]
      congr 1
      rw [List.getElem?_eq_getElem hi] at hc
      exact Option.some.inj hc
    rw [e2, e3] at e1
    exact e1
  have hrl : (l.drop (i + 1)).length = l.length - (i + 1) := List.length_drop
  by_cases h10 : c = 10
  · subst h10
    obtain ⟨t, h1, h2, h3⟩ := linesL_close (l.drop fr) m hm hne ((l.drop fr).take (i - fr)) (l.drop (i + 1)) hq (Or.inl hsp)
    refine ⟨m - 1, h2, ?_⟩
    rw [hr, h1, h3, hdl, hrl]
    congr 3
    omega
  · have hend : i + 1 = l.length := hn.resolve_left h10
    have hq2 : ∀ x ∈ l.drop fr, x ≠ 10 := fun x hx => by
      rw [hsp] at hx
      rcases List.mem_append.1 hx with h' | h'
      · exact hq x h'
      · have e0 : l.drop (i + 1) = [] := by rw [hend]; simp
        rw [e0] at h'
        simp at h'
        subst h'; exact h10
    have e0 : l.drop (i + 1) = [] := by rw [hend]; simp
    obtain ⟨t, h1, h2, h3⟩ := linesL_close (l.drop fr) m hm hne (l.drop fr) [] hq2 (Or.inr ⟨rfl, rfl⟩)
    refine ⟨m - 1, by rw [e0]; exact h2, ?_⟩
    rw [hr, h1, h3, hdl, e0]
    congr 3
    simp
    omega
theorem LinI.some_ {l : List UInt8} {i fr : Nat} {acc : List Sc} (h : LinI l i fr acc) (c : UInt8) (hi : i < l.length) (hc : l[i]? = some c) (hn : c = 10 ∨ i + 1 = l.length) (hl : l.length ≤ 400) (x : Sc) (hx : readL ((l.drop fr).take (i + 1 - fr)) = some x) :
    LinI l (i + 1) (i + 1) (acc ++ [x]) := by
  obtain ⟨m, hm, hr⟩ := h.line c hi hc hn
  have ha := h.al
  have hf := h.fi
  refine ⟨Nat.le_refl _, hi, fun j d h1 h2 => absurd h2 (by omega), fun e => e, by simp; omega, ⟨m, hm, ?_⟩⟩
  rw [hr]
  show (if acc.length = 1000 then ([], 1001, 6) else match readL ((l.drop fr).take (i + 1 - fr)) with | none => ([], acc.length + 1, 6) | some x => rdS (acc ++ [x]) (linesL m (l.drop (i + 1)))) = _
  rw [if_neg (by omega), hx]
theorem LinI.none_ {l : List UInt8} {i fr : Nat} {acc : List Sc} (h : LinI l i fr acc) (c : UInt8) (hi : i < l.length) (hc : l[i]? = some c) (hn : c = 10 ∨ i + 1 = l.length) (hl : l.length ≤ 400) (hx : readL ((l.drop fr).take (i + 1 - fr)) = none) :
    rdS [] (linesL l.length l) = ([], acc.length + 1, 6) := by
  obtain ⟨m, hm, hr⟩ := h.line c hi hc hn
  have ha := h.al
  have hf := h.fi
  rw [hr]
  show (if acc.length = 1000 then ([], 1001, 6) else match readL ((l.drop fr).take (i + 1 - fr)) with | none => ([], acc.length + 1, 6) | some x => rdS (acc ++ [x]) (linesL m (l.drop (i + 1)))) = _
  rw [if_neg (by omega), hx]
theorem LinI.done {l : List UInt8} {fr : Nat} {acc : List Sc} (h : LinI l l.length fr acc) : rdS [] (linesL l.length l) = (acc, 0, 0) := by
  obtain ⟨m, hm, hr⟩ := h.rd
  rw [hr, h.fin rfl]
  have : l.drop l.length = [] := by simp
  rw [this]
  have e : linesL m [] = [] := by cases m <;> rfl
  rw [e]
  rfl
theorem txt_replicate (x : Sc) (n : Nat) : txtS (List.replicate (n + 1) x) = txtS (List.replicate n x) ++ x.line := by
  rw [List.replicate_succ']
  simp [txtS, List.flatMap_append]
end Go.Proofs.YtcofejbkbcdopaaGreatDoor
