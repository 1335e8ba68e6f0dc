import Derived.Test.YthlnhemdhlkhfaaDoorD32
/- Plain laws of counts: their sum; those of a scan and of a loop; and the keys of a workload with fewer requests. -/
namespace Go.Proofs.YthlnhemdhlkhfaaDoor

def sumN (g : Nat → Nat) : Nat → Nat
  | 0 => 0
  | j + 1 => sumN g j + g j
theorem sumN_zero (j : Nat) : sumN (fun _ => 0) j = 0 := by
  induction j with
  | zero => rfl
  | succ j ih => show sumN _ j + 0 = 0; omega
theorem sumN_add (g h : Nat → Nat) (a : Nat) : sumN (fun j => g j + h j) a = sumN g a + sumN h a := by
  induction a with
  | zero => rfl
  | succ a ih => show sumN _ a + (g a + h a) = (sumN g a + g a) + (sumN h a + h a); omega
theorem sumN_one (q a : Nat) : sumN (fun j => if q = j then 1 else 0) a = if q < a then 1 else 0 := by
  induction a with
  | zero => rfl
  | succ a ih =>
    show sumN _ a + (if q = a then 1 else 0) = _
    rw [ih]
    by_cases h : q < a
    · rw [if_pos h, if_neg (by omega), if_pos (by omega)]
    · rw [if_neg h]
      by_cases e : q = a
      · rw [if_pos e, if_pos (by omega)]
      · rw [if_neg e, if_neg (by omega)]
theorem sumN_mono (g : Nat → Nat) {i a : Nat} (h : i ≤ a) : sumN g i ≤ sumN g a := by
  induction a with
  | zero => obtain rfl : i = 0 := by omega
            exact Nat.le_refl _
  | succ a ih =>
    by_cases e : i = a + 1
    · subst e; exact Nat.le_refl _
    · exact Nat.le_trans (ih (by omega)) (Nat.le_add_right _ _)
theorem sum_cnt (f : Nat → Nat) (a : Nat) : ∀ n, (∀ i, i < n → f i < a) → sumN (cnt f n) a = n
  | 0, _ => sumN_zero a
  | n + 1, h => by
    have e : cnt f (n + 1) = fun j => cnt f n j + (if f n = j then 1 else 0) := rfl
    rw [e, sumN_add, sum_cnt f a n (fun i hi => h i (by omega)), sumN_one, if_pos (h n (by omega))]
theorem cnt_scan (a r p s : Nat) : ∀ n j, cnt (keyL 2 a r p s) n j = if j < n then 1 else 0
  | 0, j => rfl
  | n + 1, j => by
    show cnt _ n j + (if n = j then 1 else 0) = _
    rw [cnt_scan a r p s n j]
    by_cases h : j < n
    · rw [if_pos h, if_neg (by omega), if_pos (by omega)]
    · rw [if_neg h]
      by_cases e : n = j
      · rw [if_pos e, if_pos (by omega)]
      · rw [if_neg e, if_neg (by omega)]
theorem cnt_scan_le (a r p s n j : Nat) : cnt (keyL 2 a r p s) n j ≤ 1 := by
  rw [cnt_scan]; split <;> omega
theorem succ_div' (m a : Nat) (h : 0 < a) : (m + 1) / a = m / a + if (m + 1) % a = 0 then 1 else 0 := by
  rw [Nat.succ_div]
  by_cases e : (m + 1) % a = 0
  · rw [if_pos e, if_pos (Nat.dvd_of_mod_eq_zero e)]
  · rw [if_neg e, if_neg (fun d => e (Nat.mod_eq_zero_of_dvd d))]
theorem mod_back (t a j : Nat) (h : j < a) : (t + a - j) % a = 0 ↔ t % a = j := by
  have hd := Nat.div_add_mod t a
  have hm := Nat.mod_lt t (show 0 < a by omega)
  have e : t + a - j = a * (t / a) + (t % a + a - j) := by omega
  rw [e, Nat.mul_add_mod]
  constructor
  · intro h0
    by_cases hlt : t % a < j
    · rw [Nat.mod_eq_of_lt (by omega)] at h0; omega
    · have e2 : t % a + a - j = (t % a - j) + a := by omega
      rw [e2, Nat.add_mod_right, Nat.mod_eq_of_lt (by omega)] at h0
      omega
  · intro h0
    rw [h0, show j + a - j = a by omega, Nat.mod_self]
theorem cnt_loop (a r p s : Nat) (j : Nat) (hj : j < a) : ∀ n, cnt (keyL 1 a r p s) n j = (n + a - 1 - j) / a
  | 0 => by
    show 0 = _
    rw [Nat.div_eq_of_lt (by omega)]
  | n + 1 => by
    show cnt _ n j + (if n % a = j then 1 else 0) = _
    rw [cnt_loop a r p s j hj n, show n + 1 + a - 1 - j = (n + a - 1 - j) + 1 by omega, succ_div' _ a (by omega), show n + a - 1 - j + 1 = n + a - j by omega]
    by_cases h : n % a = j
    · rw [if_pos h, if_pos ((mod_back n a j hj).2 h)]
    · rw [if_neg h, if_neg (fun e => h ((mod_back n a j hj).1 e))]
theorem loop_le (a r p s n j : Nat) (h : j + 1 < a) : cnt (keyL 1 a r p s) n (j + 1) ≤ cnt (keyL 1 a r p s) n j := by
  rw [cnt_loop _ _ _ _ _ h, cnt_loop _ _ _ _ _ (by omega)]
  exact Nat.div_le_div_right (by omega)
theorem loop_ge (a r p s n j : Nat) (h : j < a) : cnt (keyL 1 a r p s) n 0 ≤ cnt (keyL 1 a r p s) n j + 1 := by
  rw [cnt_loop _ _ _ _ _ h, cnt_loop _ _ _ _ _ (by omega), ← Nat.add_div_right _ (by omega)]
  exact Nat.div_le_div_right (by omega)
theorem keyL_fewer (k a r m p s i : Nat) (h : k ≠ 5) : keyL k a m p s i = keyL k a r p s i := by
  unfold keyL
  simp [h]
theorem Vld.fewer {k a r p s : Nat} (V : Vld k a r p s) (m : Nat) (hm : m ≤ r) (h : k ≠ 5) : Vld k a m p s := by
  have h4 := V.r2
  refine ⟨V.s64, V.a1, V.a2, by omega, ?_⟩
  rcases V.k6 with h | h | h | h | h | h
  · exact .inl h
  · exact .inr (.inl ⟨h.1, h.2.1, h.2.2.1, by omega⟩)
  · exact .inr (.inr (.inl h))
  · exact .inr (.inr (.inr (.inl h)))
  · omega
  · exact .inr (.inr (.inr (.inr (.inr h))))
theorem u32s_fewer {f g : Nat → Nat} (m : Nat) (h : ∀ i, f i = g i) : u32s f m = u32s g m := by
  rw [show f = g from funext h]
end Go.Proofs.YthlnhemdhlkhfaaDoor
