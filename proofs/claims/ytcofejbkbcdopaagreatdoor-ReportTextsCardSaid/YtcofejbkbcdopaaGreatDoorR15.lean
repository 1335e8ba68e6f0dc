import Derived.Test.YtcofejbkbcdopaaGreatDoorR14
/- The law's examples: known. -/
namespace Go.Proofs.YtcofejbkbcdopaaGreatDoor
open Go.RowKit
/-- A numeral, reckoned. -/
def ddF : Nat → Nat → List UInt8
  | 0, _ => []
  | f + 1, n => if n < 10 then [UInt8.ofNat (48 + n)] else ddF f (n / 10) ++ [UInt8.ofNat (48 + n % 10)]
theorem dd_F (f : Nat) : ∀ n, n < 10 ^ f → 0 < f → dd n = ddF f n := by
  induction f with
  | zero => intro n _ h; omega
  | succ f ih =>
    intro n h _
    unfold ddF
    by_cases h10 : n < 10
    · rw [if_pos h10]; unfold dd; rw [Lib.decDigits, dif_pos h10]
    · rw [if_neg h10]
      unfold dd
      rw [dd_ten n (by omega)]
      have h2 : n / 10 < 10 ^ f := by rw [Nat.pow_succ] at h; omega
      have hf : 0 < f := by
        rcases Nat.eq_zero_or_pos f with h0 | h0
        · subst h0; simp at h; omega
        · exact h0
      have h3 := ih (n / 10) h2 hf
      unfold dd at h3
      rw [h3]
      have h4 : Lib.decDigits (n % 10) = [UInt8.ofNat (48 + n % 10)] := by rw [Lib.decDigits, dif_pos (by omega)]
      rw [h4]
theorem dn (n : Nat) (h : n < 1000) : dd n = ddF 3 n := dd_F 3 n h (by decide)
theorem ratio_c {a b : Nat} {x y : Nat} (h0 : a ≠ 0) (hx : a / Nat.gcd a b = x) (hy : b / Nat.gcd a b = y) (h1 : x < 1000) (h2 : y < 1000) : ratioL a b = ddF 3 x ++ 47 :: ddF 3 y := by
  unfold ratioL; rw [if_neg h0, hx, hy, dn x h1, dn y h2]
theorem percent_c {a b : Nat} {n : Nat} (h : perN a b = n) (hn : n < 100000) : percentL a b = ddF 3 (n / 100) ++ 46 :: (ddF 3 (n / 10 % 10) ++ (ddF 3 (n % 10) ++ [37])) := by
  unfold percentL; rw [h, dn _ (by omega), dn _ (by omega), dn _ (by omega)]
theorem q26 : ratioL 2 6 = [49, 47, 51] ∧ percentL 2 6 = [51, 51, 46, 51, 51, 37] := ⟨(ratio_c (x := 1) (y := 3) (by decide) (by decide) (by decide) (by decide) (by decide)).trans (by decide), (percent_c (n := 3333) (by decide) (by decide)).trans (by decide)⟩
theorem q00 : ratioL 0 0 = [48, 47, 49] ∧ percentL 0 0 = [48, 46, 48, 48, 37] := ⟨rfl, (percent_c (n := 0) (by decide) (by decide)).trans (by decide)⟩
theorem q77 : ratioL 7 7 = [49, 47, 49] ∧ percentL 7 7 = [49, 48, 48, 46, 48, 48, 37] := ⟨(ratio_c (x := 1) (y := 1) (by decide) (by decide) (by decide) (by decide) (by decide)).trans (by decide), (percent_c (n := 10000) (by decide) (by decide)).trans (by decide)⟩
theorem q16 : ratioL 1 6 = [49, 47, 54] ∧ percentL 1 6 = [49, 54, 46, 54, 55, 37] := ⟨(ratio_c (x := 1) (y := 6) (by decide) (by decide) (by decide) (by decide) (by decide)).trans (by decide), (percent_c (n := 1667) (by decide) (by decide)).trans (by decide)⟩
theorem q18 : ratioL 1 8 = [49, 47, 56] ∧ percentL 1 8 = [49, 50, 46, 53, 48, 37] := ⟨(ratio_c (x := 1) (y := 8) (by decide) (by decide) (by decide) (by decide) (by decide)).trans (by decide), (percent_c (n := 1250) (by decide) (by decide)).trans (by decide)⟩
theorem q55 : ratioL 5 5 = [49, 47, 49] ∧ percentL 5 5 = [49, 48, 48, 46, 48, 48, 37] := ⟨(ratio_c (x := 1) (y := 1) (by decide) (by decide) (by decide) (by decide) (by decide)).trans (by decide), (percent_c (n := 10000) (by decide) (by decide)).trans (by decide)⟩
theorem says_c {a b : Nat} {r p : List UInt8} (h : ratioL a b = r ∧ percentL a b = p) (h1 : a ≤ b) (h2 : b ≤ 1073741824) (w : World) (ht : Tabs w) :
    Calls Tryz.prog 15 #[.int .i64 a, .int .i64 b, .string ⟨r.toArray⟩, .string ⟨p.toArray⟩] w fun e w' => e = .returned (.bool true) ∧ Ext w w' :=
  says_ok a b h1 h2 w ht _ _ (by rw [h.1]) (by rw [h.2])
/-- The line of the example. -/
theorem one_line : (⟨1, 2, 1, 6⟩ : Sc).line = [108, 114, 117, 32, 97, 116, 32, 50, 58, 32, 49, 32, 111, 102, 32, 54, 44, 32, 49, 47, 54, 32, 49, 54, 46, 54, 55, 37, 10] := by
  unfold Sc.line Sc.endL
  dsimp only
  rw [q16.1, q16.2, dn 2 (by decide), dn 1 (by decide), dn 6 (by decide)]
  decide
theorem scores_one (W : World) (ht : Tabs W) : Calls Tryz.prog 11 #[.slice (some ⟨W.heap.size, 0, none⟩) 1 1] (W.alloc (.cells #[.int .i64 1, .int .i64 2, .int .i64 6, .int .i64 1] 50)) fun e w' =>
    e = .returned (.tuple #[.string ⟨#[108, 114, 117, 32, 97, 116, 32, 50, 58, 32, 49, 32, 111, 102, 32, 54, 44, 32, 49, 47, 54, 32, 49, 54, 46, 54, 55, 37, 10]⟩, .int .i64 0]) ∧ Ext W w' := by
  have hx : Ext W (W.alloc (.cells #[.int .i64 1, .int .i64 2, .int .i64 6, .int .i64 1] 50)) := Ext.alloc (Below.refl _ _) _
  have hS := Sl.new W [.int .i64 1, .int .i64 2, .int .i64 6, .int .i64 1] 50 W.heap.size 1 1 rfl (by decide) (Nat.le_refl _)
  obtain ⟨a, c, he, -, -, hC⟩ := hS
  cases he
  refine (scores_any (some ⟨W.heap.size, 0, none⟩) 1 [⟨1, 2, 6, 1⟩] _ (by decide) hC (ht.ext hx)).mono ?_
  rintro e w' ⟨rfl, hb⟩
  refine ⟨?_, Ext.trans' hx hb⟩
  have h1 : allS [⟨1, 2, 6, 1⟩] = true := by decide
  have h2 : txtS (scs [⟨1, 2, 6, 1⟩]) = (⟨1, 2, 1, 6⟩ : Sc).line := by simp [scs, txtS, SI.sc]
  rw [if_neg (by decide), h1, if_pos rfl, h2, one_line]
theorem chk_one : chkL 3 5 = [114, 101, 115, 117, 108, 116, 32, 51, 58, 32, 98, 117, 100, 103, 101, 116, 10] := by
  unfold chkL
  rw [dn 3 (by decide)]
  decide
def zL : Nat → List UInt8
  | 0 => headR ++ [10]
  | k + 1 => zL k ++ ([45, 32] ++ (wR k ++ [32, 48]) ++ [10])
theorem zL_eq (k : Nat) : txtK (natF fun _ => 0) k = zL k := by
  induction k with
  | zero => rfl
  | succ k ih =>
    show txtK (natF fun _ => 0) k ++ (lineR k (natF (fun _ => 0) k) ++ [10]) = _
    rw [ih, show natF (fun _ => 0) k = 0 from rfl]
    unfold lineR
    rw [dn 0 (by decide)]
    rfl
theorem run_zero (w : World) (hw : EnvV w) : Calls Tryz.prog 6 #[.agg #[.int .i64 0, .int .i64 0, .int .i64 0, .int .i64 0, .int .i64 0, .int .i64 0, .int .i64 0, .int .i64 0, .int .i64 0, .int .i64 0, .int .i64 0, .int .i64 0]] w fun e w' => e = .returned (.tuple #[.string ⟨(zL 12).toArray⟩, .int .i64 0]) ∧ Ext w w' := by
  refine (run_any (fun _ => 0) (fun _ _ => by decide) w hw).mono ?_
  rintro e w' ⟨⟨_, rfl⟩ | ⟨h, _⟩, hb⟩
  · refine ⟨?_, hb⟩
    unfold txtR
    rw [zL_eq]
  · exact absurd (fun _ _ => Int.le_refl 0) h
theorem readL_x : readL [120] = none := by
  cases h : readL [120] with
  | none => rfl
  | some x =>
    obtain ⟨_, h2⟩ := readL_some h
    obtain ⟨q, h3, _⟩ := line_plain x
    rw [h3] at h2
    have := congrArg List.getLast? h2
    simp at this
theorem read_x (w : World) (hw : Env w) : Calls Tryz.prog 12 #[.string ⟨#[120]⟩] w fun e w' => (∃ a c, e = .returned (.tuple #[.slice a 0 c, .int .i64 1, .int .i64 6])) ∧ Ext w w' := by
  refine (readscores_any ⟨#[120]⟩ w (by decide) hw).mono ?_
  have e : rdS [] (linesL (⟨#[120]⟩ : ByteArray).size (⟨#[120]⟩ : ByteArray).data.toList) = ([], 1, 6) := by
    show rdS [] (linesL 1 [120]) = _
    have : linesL 1 [120] = [[120]] := by decide
    rw [this]
    exact rdS_none (by decide) readL_x []
  rw [e]
  rintro e w' ⟨a, c, rfl, _, hb⟩
  exact ⟨⟨a, c, rfl⟩, hb⟩
end Go.Proofs.YtcofejbkbcdopaaGreatDoor
