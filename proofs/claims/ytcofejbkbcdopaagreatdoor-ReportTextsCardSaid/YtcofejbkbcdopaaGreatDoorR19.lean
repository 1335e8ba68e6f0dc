import Derived.Test.YtcofejbkbcdopaaGreatDoorRN
import Derived.Test.YtcofejbkbcdopaaGreatDoorR16
import Derived.BigRegion
/- What a run counts: one result more, by stages; the contract of OfRun. -/
namespace Go.Proofs.YtcofejbkbcdopaaGreatDoor
open Go.RowKit
def stA (f : Nat → Int) (x : Res) : Nat → Int := upR (upR (upR f 0 (f 0 + 1)) 10 (gt x.len (f 10))) 11 (gt x.cost (f 11))
theorem ev_full (h : Nat → Int) (E : List Ev6) : E.take E.length = E := List.take_of_length_le (Nat.le_refl _)
theorem cases12 {p : Nat → Prop} (h0 : p 0) (h1 : p 1) (h2 : p 2) (h3 : p 3) (h4 : p 4) (h5 : ∀ i, 5 ≤ i → i ≤ 9 → p i) (h10 : p 10) (h11 : p 11) : ∀ i, i < 12 → p i := by
  intro i hi
  by_cases a : 5 ≤ i ∧ i ≤ 9
  · exact h5 i a.1 a.2
  · obtain rfl | rfl | rfl | rfl | rfl | rfl | rfl : i = 0 ∨ i = 1 ∨ i = 2 ∨ i = 3 ∨ i = 4 ∨ i = 10 ∨ i = 11 := by omega
    all_goals assumption
theorem stB_err (f : Nat → Int) (x : Res) (he : x.e ≠ 0) : ∀ i, i < 12 → upR (evR (stA f x) x.el) 1 (evR (stA f x) x.el 1 + 1) i = stepR f x i := by
  apply cases12
  all_goals first
    | (intro i h5 h9
       simp [upR, evR, stA, stepR, h5, h9, show ¬ i = 0 by omega, show ¬ i = 1 by omega, show ¬ i = 2 by omega, show ¬ i = 3 by omega, show ¬ i = 4 by omega, show ¬ i = 10 by omega, show ¬ i = 11 by omega]; done)
    | (simp [upR, evR, stA, stepR, he]; done)
theorem stB_hit (f : Nat → Int) (x : Res) (he : x.e = 0) (hk : x.read = true) (hh : x.hit = true) (hp : x.put = false) : ∀ i, i < 12 → upR (upR (evR (stA f x) x.el) 2 (evR (stA f x) x.el 2 + 1)) 3 (evR (stA f x) x.el 3 + 1) i = stepR f x i := by
  apply cases12
  all_goals first
    | (intro i h5 h9
       simp [upR, evR, stA, stepR, h5, h9, show ¬ i = 0 by omega, show ¬ i = 1 by omega, show ¬ i = 2 by omega, show ¬ i = 3 by omega, show ¬ i = 4 by omega, show ¬ i = 10 by omega, show ¬ i = 11 by omega]; done)
    | (simp [upR, evR, stA, stepR, he, hk, hh, hp]; done)
theorem stB_miss (f : Nat → Int) (x : Res) (he : x.e = 0) (hk : x.read = true) (hh : x.hit = false) (hp : x.put = false) : ∀ i, i < 12 → upR (evR (stA f x) x.el) 2 (evR (stA f x) x.el 2 + 1) i = stepR f x i := by
  apply cases12
  all_goals first
    | (intro i h5 h9
       simp [upR, evR, stA, stepR, h5, h9, show ¬ i = 0 by omega, show ¬ i = 1 by omega, show ¬ i = 2 by omega, show ¬ i = 3 by omega, show ¬ i = 4 by omega, show ¬ i = 10 by omega, show ¬ i = 11 by omega]; done)
    | (simp [upR, evR, stA, stepR, he, hk, hh, hp]; done)
theorem stB_put (f : Nat → Int) (x : Res) (he : x.e = 0) (hk : x.read = false) (hp : x.put = true) : ∀ i, i < 12 → upR (evR (stA f x) x.el) 4 (evR (stA f x) x.el 4 + 1) i = stepR f x i := by
  apply cases12
  all_goals first
    | (intro i h5 h9
       simp [upR, evR, stA, stepR, h5, h9, show ¬ i = 0 by omega, show ¬ i = 1 by omega, show ¬ i = 2 by omega, show ¬ i = 3 by omega, show ¬ i = 4 by omega, show ¬ i = 10 by omega, show ¬ i = 11 by omega]; done)
    | (simp [upR, evR, stA, stepR, he, hk, hp]; done)
theorem stB_no (f : Nat → Int) (x : Res) (he : x.e = 0) (hk : x.read = false) (hp : x.put = false) : ∀ i, i < 12 → evR (stA f x) x.el i = stepR f x i := by
  apply cases12
  all_goals first
    | (intro i h5 h9
       simp [upR, evR, stA, stepR, h5, h9, show ¬ i = 0 by omega, show ¬ i = 1 by omega, show ¬ i = 2 by omega, show ¬ i = 3 by omega, show ¬ i = 4 by omega, show ¬ i = 10 by omega, show ¬ i = 11 by omega]; done)
    | (simp [upR, evR, stA, stepR, he, hk, hp]; done)
theorem stA_bd (f : Nat → Int) (x : Res) (M : Int) (h : ∀ i, i < 10 → 0 ≤ f i ∧ f i ≤ M) : ∀ i, i < 10 → 0 ≤ stA f x i ∧ stA f x i ≤ M + 1 := by
  intro i hi
  have := h i hi
  unfold stA upR
  repeat' split
  all_goals (try subst_vars)
  all_goals omega
theorem evR_bd (h : Nat → Int) (E : List Ev6) (M : Int) (hh : ∀ i, i < 10 → 0 ≤ h i ∧ h i ≤ M) (hE : E.length ≤ 20) : ∀ i, i < 10 → 0 ≤ evR h E i ∧ evR h E i ≤ M + 20 := by
  intro i hi
  have := hh i hi
  have := nK_le ((i : Int) - 4) E
  unfold evR
  split <;> omega
theorem Ev6.cs_len (x : Ev6) : x.cs.length = 6 := rfl
theorem Res.cs_len (x : Res) : x.cs.length = 21 := rfl
end Go.Proofs.YtcofejbkbcdopaaGreatDoor
