import Derived.Test.YtcofejbkbcdopaaGreatDoorRM
/- The plain law of ReportTexts: when a text is the text of a count, by the numbers that the law scans of it. -/
namespace Go.Proofs.YtcofejbkbcdopaaGreatDoor
theorem stepS_le (c : UInt8) (st : List Nat) (h : ∀ x ∈ st, x ≤ 5764607523034234889) : ∀ x ∈ stepS c st, x ≤ 5764607523034234889 := by
  intro x hx
  unfold stepS at hx
  split at hx
  · rcases List.mem_cons.1 hx with rfl | hx
    · omega
    · exact h x hx
  · split at hx
    · rename_i hd
      cases st with
      | nil => cases hx
      | cons y t =>
        simp only at hx
        split at hx
        · rename_i hy
          rcases List.mem_cons.1 hx with rfl | hx
          · have := hd.2
            omega
          · exact h x (by simp [hx])
        · exact h x hx
    · exact h x hx
theorem scanR_le (l : List UInt8) : ∀ st, (∀ x ∈ st, x ≤ 5764607523034234889) → ∀ x ∈ scanR l st, x ≤ 5764607523034234889 := by
  induction l with
  | nil => intro st h; exact h
  | cons c l ih => intro st h; exact ih _ (stepS_le c st h)
def numsR (l : List UInt8) : List Nat := (scanR l []).reverse
def numF (l : List UInt8) (i : Nat) : Nat := (numsR l).getD i 0
theorem numsR_len (l : List UInt8) : (numsR l).length = l.count 10 := by
  unfold numsR
  rw [List.length_reverse, scanR_len]; simp
theorem numF_le (l : List UInt8) (i : Nat) : numF l i ≤ 5764607523034234889 := by
  unfold numF
  rw [List.getD_eq_getElem?_getD]
  cases h : (numsR l)[i]? with
  | none => simp
  | some x =>
    have := List.mem_of_getElem? h
    unfold numsR at this
    exact scanR_le l [] (by simp) x (by simpa using this)
/-- The text is that of the count that is read of it. -/
def fitR (l : List UInt8) : Prop := okR (readR l) ∧ txtR (natF (readR l)) = l
theorem fit_count {l : List UInt8} (h : fitR l) : l.count 10 = 13 := by
  have := count_txt (natF (readR l)) 12
  rw [show txtK (natF (readR l)) 12 = l from h.2] at this
  exact this
theorem fit_of_num {l : List UInt8} (h : txtR (numF l) = l) : (∀ i, i < 12 → readR l i = numF l i) ∧ fitR l := by
  have h1 : ∀ i, i < 12 → readR l i = numF l i := fun i hi => by
    have := readR_txt (numF l) i hi (by have := numF_le l i; omega)
    rw [h] at this; exact this
  refine ⟨h1, fun i hi => by rw [h1 i hi]; omega, ?_⟩
  rw [show txtR (natF (readR l)) = txtR (numF l) from txtK_congr (fun i hi => by unfold natF; rw [h1 i hi]; simp)]
  exact h
theorem num_of_fit {l : List UInt8} (h : fitR l) (hb : ∀ i, i < 12 → natF (readR l) i < 576460752303423488) : txtR (numF l) = l := by
  have e := scan_txt (natF (readR l)) 12 hb
  rw [show txtK (natF (readR l)) 12 = l from h.2] at e
  have e2 : numsR l = (List.range 12).map (natF (readR l)) ++ [0] := by
    unfold numsR; rw [e]; simp
  rw [show txtR (numF l) = txtR (natF (readR l)) from txtK_congr (fun i hi => by
    unfold numF
    rw [e2, List.getD_eq_getElem?_getD, List.getElem?_append_left (by simp; exact hi)]
    simp [hi])]
  exact h.2
theorem fit_txt (f : Nat → Int) (h0 : okR f) (h : ∀ i, i < 12 → f i ≤ 9223372036854775807) : (∀ i, i < 12 → readR (txtR (natF f)) i = f i) ∧ fitR (txtR (natF f)) := by
  have h1 : ∀ i, i < 12 → readR (txtR (natF f)) i = f i := fun i hi => by
    have a := h0 i hi
    have b := h i hi
    rw [readR_txt (natF f) i hi (by unfold natF; omega)]
    unfold natF; omega
  refine ⟨h1, fun i hi => by rw [h1 i hi]; exact h0 i hi, ?_⟩
  exact txtK_congr (fun i hi => by show (readR (txtR (natF f)) i).toNat = (f i).toNat; rw [h1 i hi])
theorem txtR_inj {f g : Nat → Int} (hf : okR f) (hg : okR g) (bf : ∀ i, i < 12 → f i ≤ 9223372036854775807) (bg : ∀ i, i < 12 → g i ≤ 9223372036854775807) (h : txtR (natF f) = txtR (natF g)) : ∀ i, i < 12 → f i = g i := fun i hi => by
  rw [← (fit_txt f hf bf).1 i hi, ← (fit_txt g hg bg).1 i hi, h]
/- one step of the scan, on the numbers in order -/
theorem nums_lf (l : List UInt8) : numsR (l ++ [10]) = numsR l ++ [0] := by
  unfold numsR
  rw [scanR_app]
  show (stepS 10 (scanR l [])).reverse = _
  simp [stepS]
theorem nums_other (l : List UInt8) (c : UInt8) (h1 : c ≠ 10) (h2 : c.toNat < 48 ∨ 57 < c.toNat) : numsR (l ++ [c]) = numsR l := by
  unfold numsR
  rw [scanR_app, scanR_word [c] (by simpa using ⟨h1, h2⟩)]
theorem nums_none (l : List UInt8) (c : UInt8) (h1 : c ≠ 10) (h : numsR l = []) : numsR (l ++ [c]) = [] := by
  have hl := numsR_len (l ++ [c])
  rw [List.count_append, ← numsR_len l, h] at hl
  have : [c].count 10 = 0 := count_no 10 [c] (by simpa using h1)
  rw [this] at hl
  simpa using hl
theorem nums_digit (l : List UInt8) (c : UInt8) (a : Nat) (t : List Nat) (hc : 48 ≤ c.toNat ∧ c.toNat ≤ 57) (h : numsR l = t ++ [a]) : numsR (l ++ [c]) = t ++ [if a < 576460752303423488 then 10 * a + (c.toNat - 48) else a] := by
  unfold numsR at h ⊢
  have e : scanR l [] = a :: t.reverse := by
    have := congrArg List.reverse h
    simpa using this
  rw [scanR_app, e]
  show (stepS c (a :: t.reverse)).reverse = _
  unfold stepS
  rw [if_neg (fun e1 => by rw [e1] at hc; exact absurd hc.1 (by decide)), if_pos hc]
  show (if a < 576460752303423488 then _ else _ : List Nat).reverse = _
  split <;> simp
end Go.Proofs.YtcofejbkbcdopaaGreatDoor
