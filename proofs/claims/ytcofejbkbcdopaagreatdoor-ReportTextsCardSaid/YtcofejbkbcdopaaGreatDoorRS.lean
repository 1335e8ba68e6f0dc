import Derived.Test.YtcofejbkbcdopaaGreatDoorRM
import Derived.Test.YtcofejbkbcdopaaGreatDoorCUM
import Derived.Lib.FieldsP
/- The plain texts of scores: the line of a score, the score with a line, the scores with a text. -/
namespace Go.Proofs.YtcofejbkbcdopaaGreatDoor


def wordsSL : List (List UInt8) := [[], [108, 114, 117], [115, 101, 103, 109, 101, 110, 116], [97, 114, 99], [108, 102, 117], [115, 101, 99, 111, 110, 100], [116, 119, 111, 113], [116, 105, 110, 121], [98, 101, 115, 116]]
def kW (k : Nat) : List UInt8 := wordsSL.getD k []
theorem kW_cases (k : Nat) (h1 : 1 ≤ k) (h8 : k ≤ 8) : k = 1 ∨ k = 2 ∨ k = 3 ∨ k = 4 ∨ k = 5 ∨ k = 6 ∨ k = 7 ∨ k = 8 := by omega
theorem kW_plain (k : Nat) : ∀ c ∈ kW k, 57 < c.toNat ∧ c.toNat < 128 ∧ c ≠ 58 := by
  intro c hc
  unfold kW at hc
  rw [List.getD_eq_getElem?_getD] at hc
  cases hi : wordsSL[k]? with
  | none => rw [hi] at hc; simp at hc
  | some l =>
    rw [hi] at hc
    have h : wordsSL.all (fun l => l.all (fun c => decide (57 < c.toNat ∧ c.toNat < 128 ∧ c ≠ 58))) = true := by decide
    have := List.all_eq_true.1 (List.all_eq_true.1 h l (List.mem_of_getElem? hi)) c hc
    simpa using this
theorem kW_len (k : Nat) : (kW k).length ≤ 7 := by
  unfold kW
  rw [List.getD_eq_getElem?_getD]
  cases hi : wordsSL[k]? with
  | none => simp
  | some l =>
    have h : wordsSL.all (fun l => decide (l.length ≤ 7)) = true := by decide
    have := List.all_eq_true.1 h l (List.mem_of_getElem? hi)
    simpa using this
theorem kW_ne (k : Nat) (h1 : 1 ≤ k) (h8 : k ≤ 8) : kW k ≠ [] := by
  obtain rfl | rfl | rfl | rfl | rfl | rfl | rfl | rfl := kW_cases k h1 h8 <;> decide
theorem kW_inj {k j : Nat} (h1 : 1 ≤ k) (h8 : k ≤ 8) (g1 : 1 ≤ j) (g8 : j ≤ 8) (h : kW k = kW j) : k = j := by
  obtain rfl | rfl | rfl | rfl | rfl | rfl | rfl | rfl := kW_cases k h1 h8
  all_goals
    obtain rfl | rfl | rfl | rfl | rfl | rfl | rfl | rfl := kW_cases j g1 g8
    all_goals first | rfl | (exact absurd h (by decide))

def ratioL (a b : Nat) : List UInt8 := if a = 0 then [48, 47, 49] else dd (a / Nat.gcd a b) ++ 47 :: dd (b / Nat.gcd a b)
def perN (a b : Nat) : Nat := if b = 0 then 0 else (20000 * a + b) / (2 * b)
def percentL (a b : Nat) : List UInt8 := dd (perN a b / 100) ++ 46 :: (dd (perN a b / 10 % 10) ++ (dd (perN a b % 10) ++ [37]))
theorem perN_law (a b : Nat) (hb : 0 < b) : perN a b = 10000 * a / b + (if b ≤ 2 * (10000 * a % b) then 1 else 0) := by
  unfold perN
  rw [if_neg (by omega)]
  have h := Nat.div_add_mod (10000 * a) b
  have hr := Nat.mod_lt (10000 * a) hb
  generalize 10000 * a / b = q at *
  generalize 10000 * a % b = r at *
  have e : 20000 * a + b = (2 * r + b) + 2 * b * q := by
    have : 2 * b * q = 2 * (b * q) := by rw [Nat.mul_assoc]
    omega
  rw [e, Nat.add_mul_div_left _ _ (by omega)]
  split
  · rename_i h1
    have : (2 * r + b) / (2 * b) = 1 := by
      rw [Nat.div_eq_iff (by omega)]; omega
    omega
  · rename_i h1
    have : (2 * r + b) / (2 * b) = 0 := Nat.div_eq_of_lt (by omega)
    omega
theorem perN_le (a b : Nat) (h : a ≤ b) : perN a b ≤ 10000 := by
  unfold perN
  split
  · omega
  · rename_i hb
    have : (20000 * a + b) / (2 * b) < 10001 := by
      rw [Nat.div_lt_iff_lt_mul (by omega)]; omega
    omega
/-- A score. -/
structure Sc where
  k : Nat
  size : Nat
  a : Nat
  b : Nat
  deriving DecidableEq
def Sc.ok (x : Sc) : Prop := 1 ≤ x.k ∧ x.k ≤ 8 ∧ 1 ≤ x.size ∧ x.size ≤ 1024 ∧ x.a ≤ x.b ∧ x.b ≤ 1073741824
instance (x : Sc) : Decidable x.ok := by unfold Sc.ok; infer_instance
/-- what stands behind the second number -/
def Sc.endL (x : Sc) : List UInt8 := 44 :: 32 :: (ratioL x.a x.b ++ 32 :: (percentL x.a x.b ++ [10]))
def Sc.line (x : Sc) : List UInt8 := kW x.k ++ 32 :: (97 :: 116 :: 32 :: (dd x.size ++ 58 :: 32 :: (dd x.a ++ 32 :: (111 :: 102 :: 32 :: (dd x.b ++ x.endL)))))
theorem dd_plain (n : Nat) : ∀ c ∈ dd n, 48 ≤ c.toNat ∧ c.toNat ≤ 57 := dd_digit n
theorem ratioL_plain (a b : Nat) : ∀ c ∈ ratioL a b, 47 ≤ c.toNat ∧ c.toNat ≤ 57 := by
  intro c hc
  unfold ratioL at hc
  split at hc
  · simp at hc; rcases hc with rfl | rfl | rfl <;> decide
  · rcases List.mem_append.1 hc with h | h
    · have := dd_plain _ c h; omega
    · rcases List.mem_cons.1 h with rfl | h
      · decide
      · have := dd_plain _ c h; omega
theorem percentL_plain (a b : Nat) : ∀ c ∈ percentL a b, c = 46 ∨ c = 37 ∨ (48 ≤ c.toNat ∧ c.toNat ≤ 57) := by
  intro c hc
  unfold percentL at hc
  simp only [List.mem_append, List.mem_cons, List.not_mem_nil, or_false] at hc
  rcases hc with h | rfl | h | h | rfl
  · exact Or.inr (Or.inr (dd_plain _ c h))
  · exact Or.inl rfl
  · exact Or.inr (Or.inr (dd_plain _ c h))
  · exact Or.inr (Or.inr (dd_plain _ c h))
  · exact Or.inr (Or.inl rfl)
theorem endL_plain (x : Sc) : ∃ q, x.endL = q ++ [10] ∧ ∀ c ∈ q, c.toNat < 128 ∧ c ≠ 10 := by
  refine ⟨44 :: 32 :: (ratioL x.a x.b ++ 32 :: percentL x.a x.b), by simp [Sc.endL], fun c hc => ?_⟩
  simp only [List.mem_cons, List.mem_append] at hc
  rcases hc with rfl | rfl | h | rfl | h
  · decide
  · decide
  · have := ratioL_plain _ _ c h
    exact ⟨by omega, fun e => by rw [e] at this; exact absurd this.1 (by decide)⟩
  · decide
  · rcases percentL_plain _ _ c h with rfl | rfl | h
    · decide
    · decide
    · exact ⟨by omega, fun e => by rw [e] at h; exact absurd h.1 (by decide)⟩
/-- a line is a line: bytes below 128, one line feed, at its end -/
theorem line_plain (x : Sc) : ∃ q, x.line = q ++ [10] ∧ ∀ c ∈ q, c.toNat < 128 ∧ c ≠ 10 := by
  obtain ⟨q, h1, h2⟩ := endL_plain x
  refine ⟨kW x.k ++ 32 :: (97 :: 116 :: 32 :: (dd x.size ++ 58 :: 32 :: (dd x.a ++ 32 :: (111 :: 102 :: 32 :: (dd x.b ++ q))))), by simp [Sc.line, h1], fun c hc => ?_⟩
  have hd : ∀ n, c ∈ dd n → c.toNat < 128 ∧ c ≠ 10 := fun n h => by
    have := dd_plain n c h
    exact ⟨by omega, fun e => by rw [e] at this; exact absurd this.1 (by decide)⟩
  simp only [List.mem_cons, List.mem_append] at hc
  rcases hc with h | rfl | rfl | rfl | rfl | h | rfl | rfl | h | rfl | rfl | rfl | rfl | h | h
  · have := kW_plain _ c h
    exact ⟨this.2.1, fun e => by rw [e] at this; exact absurd this.1 (by decide)⟩
  all_goals first | exact hd _ h | exact h2 c h | decide
theorem ratioL_len (a b : Nat) (h : a ≤ b) (hb : b ≤ 1073741824) : (ratioL a b).length ≤ 21 := by
  unfold ratioL
  split
  · decide
  · have h1 := dd_len 9 (a / Nat.gcd a b) (by have := Nat.div_le_self a (Nat.gcd a b); omega)
    have h2 := dd_len 9 (b / Nat.gcd a b) (by have := Nat.div_le_self b (Nat.gcd a b); omega)
    simp [dd]; omega
theorem percentL_len (a b : Nat) (h : a ≤ b) : (percentL a b).length ≤ 7 := by
  have h0 := perN_le a b h
  unfold percentL
  generalize perN a b = n at *
  have h1 := dd_len 2 (n / 100) (by omega)
  have h2 := dd_len 0 (n / 10 % 10) (by omega)
  have h3 := dd_len 0 (n % 10) (by omega)
  simp [dd]; omega
theorem line_len (x : Sc) (h : x.ok) : x.line.length ≤ 73 := by
  obtain ⟨h1, h2, h3, h4, h5, h6⟩ := h
  have e1 := kW_len x.k
  have e2 := dd_len 3 x.size (by omega)
  have e3 := dd_len 9 x.a (by omega)
  have e4 := dd_len 9 x.b (by omega)
  have e5 := ratioL_len x.a x.b h5 h6
  have e6 := percentL_len x.a x.b h5
  simp [Sc.line, Sc.endL, dd]; omega

/- the fields of a line -/
def sepB (c : UInt8) : Bool := c == 32 || c == 58 || c == 44
def fldGo (cur : List UInt8) : List UInt8 → List (List UInt8)
  | [] => if cur = [] then [] else [cur]
  | c :: l => if sepB c then (if cur = [] then fldGo [] l else cur :: fldGo [] l) else fldGo (cur ++ [c]) l
theorem fld_word (r : List UInt8) (c : UInt8) (hc : sepB c = true) : ∀ (w cur : List UInt8), (∀ x ∈ w, sepB x = false) → cur ++ w ≠ [] → fldGo cur (w ++ c :: r) = (cur ++ w) :: fldGo [] r
  | [], cur, _, hn => by
    show (if sepB c then (if cur = [] then _ else _) else _) = _
    rw [if_pos hc, if_neg (by simpa using hn), List.append_nil]
  | x :: w, cur, h, _ => by
    show (if sepB x then _ else fldGo (cur ++ [x]) (w ++ c :: r)) = _
    rw [if_neg (by rw [h x (by simp)]; decide), fld_word r c hc w (cur ++ [x]) (fun y hy => h y (by simp [hy])) (by simp)]
    simp
theorem fld_sep (r : List UInt8) (c : UInt8) (hc : sepB c = true) : fldGo [] (c :: r) = fldGo [] r := by
  show (if sepB c then (if ([] : List UInt8) = [] then _ else _) else _) = _
  rw [if_pos hc, if_pos rfl]
theorem fld_len (l : List UInt8) : ∀ cur, (cur ≠ [] ∨ ∃ c ∈ l, sepB c = false) → 1 ≤ (fldGo cur l).length := by
  induction l with
  | nil =>
    intro cur h
    rcases h with h | ⟨c, hc, _⟩
    · show 1 ≤ (if cur = [] then [] else [cur]).length
      rw [if_neg h]; exact Nat.le_refl _
    · simp at hc
  | cons c l ih =>
    intro cur h
    show 1 ≤ (if sepB c then (if cur = [] then fldGo [] l else cur :: fldGo [] l) else fldGo (cur ++ [c]) l).length
    split
    · rename_i hc
      split
      · rename_i he
        refine ih [] (Or.inr ?_)
        rcases h with h | ⟨d, hd, hs⟩
        · exact absurd he h
        · rcases List.mem_cons.1 hd with rfl | hd
          · rw [hc] at hs; cases hs
          · exact ⟨d, hd, hs⟩
      · simp
    · exact ih _ (Or.inl (by simp))
theorem sep_word (k : Nat) : ∀ c ∈ kW k, sepB c = false := fun c hc => by
  have h := kW_plain k c hc
  simp only [sepB, Bool.or_eq_false_iff, beq_eq_false_iff_ne]
  refine ⟨⟨fun e => ?_, h.2.2⟩, fun e => ?_⟩ <;> (rw [e] at h; exact absurd h.1 (by decide))
theorem sep_dd (n : Nat) : ∀ c ∈ dd n, sepB c = false := fun c hc => by
  have h := dd_plain n c hc
  simp only [sepB, Bool.or_eq_false_iff, beq_eq_false_iff_ne]
  refine ⟨⟨fun e => ?_, fun e => ?_⟩, fun e => ?_⟩ <;> (rw [e] at h; exact absurd h (by decide))
theorem dd_ne (n : Nat) : dd n ≠ [] := dd_ne_nil n
/-- What the program reads of a line's fields. -/
theorem fld_line (x : Sc) (h : x.ok) : ∃ q, fldGo [] x.line = kW x.k :: [97, 116] :: dd x.size :: dd x.a :: [111, 102] :: dd x.b :: q := by
  refine ⟨fldGo [] (32 :: (ratioL x.a x.b ++ 32 :: (percentL x.a x.b ++ [10]))), ?_⟩
  unfold Sc.line
  rw [fld_word _ 32 (by decide) _ [] (sep_word _) (by simpa using kW_ne x.k h.1 h.2.1)]
  rw [show (97 :: 116 :: 32 :: (dd x.size ++ 58 :: 32 :: (dd x.a ++ 32 :: (111 :: 102 :: 32 :: (dd x.b ++ x.endL)))) : List UInt8) = [97, 116] ++ 32 :: (dd x.size ++ 58 :: 32 :: (dd x.a ++ 32 :: (111 :: 102 :: 32 :: (dd x.b ++ x.endL)))) from rfl]
  rw [fld_word _ 32 (by decide) [97, 116] [] (by decide) (by decide)]
  rw [fld_word _ 58 (by decide) _ [] (sep_dd _) (by simpa using dd_ne _), fld_sep _ 32 (by decide)]
  rw [fld_word _ 32 (by decide) _ [] (sep_dd _) (by simpa using dd_ne _)]
  rw [show (111 :: 102 :: 32 :: (dd x.b ++ x.endL) : List UInt8) = [111, 102] ++ 32 :: (dd x.b ++ x.endL) from rfl]
  rw [fld_word _ 32 (by decide) [111, 102] [] (by decide) (by decide)]
  unfold Sc.endL
  rw [fld_word _ 44 (by decide) _ [] (sep_dd _) (by simpa using dd_ne _)]
  rfl

/- The score with a line: the one of which it is the line. -/
theorem line_a (x : Sc) : x.line = kW x.k ++ 32 :: (97 :: 116 :: 32 :: (dd x.size ++ 58 :: 32 :: (dd x.a ++ 32 :: (111 :: 102 :: 32 :: (dd x.b ++ x.endL))))) := rfl
/-- the numbers of a law's scan of a line: where it is, whether a digit was before, three numbers -/
structure S3 where
  at_ : Nat
  dig : Bool
  n0 : Nat
  n1 : Nat
  n2 : Nat
def cap40 (n c : Nat) : Nat := if n < 1099511627776 then 10 * n + (c - 48) else n
def S3.add (s : S3) (at' : Nat) (c : Nat) : S3 :=
  if at' = 1 then { at_ := at', dig := true, n0 := cap40 s.n0 c, n1 := s.n1, n2 := s.n2 }
  else if at' = 2 then { at_ := at', dig := true, n0 := s.n0, n1 := cap40 s.n1 c, n2 := s.n2 }
  else if at' = 3 then { at_ := at', dig := true, n0 := s.n0, n1 := s.n1, n2 := cap40 s.n2 c }
  else { at_ := at', dig := true, n0 := s.n0, n1 := s.n1, n2 := s.n2 }
/-- one byte; at_ is one more than the law's number -/
def S3.step (s : S3) (c : UInt8) : S3 :=
  if c.toNat < 48 ∨ 57 < c.toNat then { s with dig := false }
  else s.add (if s.dig then s.at_ else s.at_ + 1) c.toNat
def scan3 (l : List UInt8) (s : S3) : S3 := l.foldl S3.step s
theorem scan3_app (p q : List UInt8) (s : S3) : scan3 (p ++ q) s = scan3 q (scan3 p s) := List.foldl_append
theorem scan3_word (p : List UInt8) : ∀ (s : S3), (∀ c ∈ p, c.toNat < 48 ∨ 57 < c.toNat) → p ≠ [] → scan3 p s = { s with dig := false } := by
  induction p with
  | nil => intro s _ h; exact absurd rfl h
  | cons c p ih =>
    intro s h _
    show scan3 p (s.step c) = _
    have e : s.step c = { s with dig := false } := by unfold S3.step; rw [if_pos (h c (by simp))]
    rw [e]
    cases p with
    | nil => rfl
    | cons d p => exact ih _ (fun x hx => h x (by simp [hx])) (by simp)
theorem step_dig {s : S3} {c : UInt8} (h : 48 ≤ c.toNat ∧ c.toNat ≤ 57) : s.step c = s.add (if s.dig then s.at_ else s.at_ + 1) c.toNat := by
  unfold S3.step; rw [if_neg (by omega)]
theorem cap_dd (n : Nat) (m : Nat) (hm : m < 10) (hn : n * 10 + m ≤ 1073741824) : cap40 n (48 + m) = n * 10 + m := by
  unfold cap40; rw [if_pos (by omega)]; omega
theorem scan3_d0 (n : Nat) : n ≤ 1073741824 → ∀ b c : Nat, scan3 (dd n) ⟨0, false, 0, b, c⟩ = ⟨1, true, n, b, c⟩ := by
  induction n using Nat.strongRecOn with
  | _ n ih =>
    intro hn b c
    by_cases h10 : n < 10
    · unfold dd
      rw [Lib.decDigits, dif_pos h10]
      show S3.step _ (UInt8.ofNat (48 + n)) = _
      have e : (UInt8.ofNat (48 + n)).toNat = 48 + n := by rw [UInt8.toNat_ofNat']; omega
      rw [step_dig (by omega), e]
      show (⟨1, true, cap40 0 (48 + n), b, c⟩ : S3) = _
      rw [cap_dd 0 n h10 (by omega)]; congr 1; omega
    · have h1 := ih (n / 10) (by omega) (by omega) b c
      unfold dd at h1 ⊢
      rw [dd_ten n (by omega), scan3_app, h1, Lib.decDigits, dif_pos (show n % 10 < 10 by omega)]
      show S3.step _ (UInt8.ofNat (48 + n % 10)) = _
      have e : (UInt8.ofNat (48 + n % 10)).toNat = 48 + n % 10 := by rw [UInt8.toNat_ofNat']; omega
      rw [step_dig (by omega), e]
      show (⟨1, true, cap40 (n / 10) (48 + n % 10), b, c⟩ : S3) = _
      rw [cap_dd (n / 10) (n % 10) (by omega) (by omega)]; congr 1; omega
theorem scan3_d1 (n : Nat) : n ≤ 1073741824 → ∀ b c : Nat, scan3 (dd n) ⟨1, false, b, 0, c⟩ = ⟨2, true, b, n, c⟩ := by
  induction n using Nat.strongRecOn with
  | _ n ih =>
    intro hn b c
    by_cases h10 : n < 10
    · unfold dd
      rw [Lib.decDigits, dif_pos h10]
      show S3.step _ (UInt8.ofNat (48 + n)) = _
      have e : (UInt8.ofNat (48 + n)).toNat = 48 + n := by rw [UInt8.toNat_ofNat']; omega
      rw [step_dig (by omega), e]
      show (⟨2, true, b, cap40 0 (48 + n), c⟩ : S3) = _
      rw [cap_dd 0 n h10 (by omega)]; congr 1; omega
    · have h1 := ih (n / 10) (by omega) (by omega) b c
      unfold dd at h1 ⊢
      rw [dd_ten n (by omega), scan3_app, h1, Lib.decDigits, dif_pos (show n % 10 < 10 by omega)]
      show S3.step _ (UInt8.ofNat (48 + n % 10)) = _
      have e : (UInt8.ofNat (48 + n % 10)).toNat = 48 + n % 10 := by rw [UInt8.toNat_ofNat']; omega
      rw [step_dig (by omega), e]
      show (⟨2, true, b, cap40 (n / 10) (48 + n % 10), c⟩ : S3) = _
      rw [cap_dd (n / 10) (n % 10) (by omega) (by omega)]; congr 1; omega
theorem scan3_d2 (n : Nat) : n ≤ 1073741824 → ∀ b c : Nat, scan3 (dd n) ⟨2, false, b, c, 0⟩ = ⟨3, true, b, c, n⟩ := by
  induction n using Nat.strongRecOn with
  | _ n ih =>
    intro hn b c
    by_cases h10 : n < 10
    · unfold dd
      rw [Lib.decDigits, dif_pos h10]
      show S3.step _ (UInt8.ofNat (48 + n)) = _
      have e : (UInt8.ofNat (48 + n)).toNat = 48 + n := by rw [UInt8.toNat_ofNat']; omega
      rw [step_dig (by omega), e]
      show (⟨3, true, b, c, cap40 0 (48 + n)⟩ : S3) = _
      rw [cap_dd 0 n h10 (by omega)]; congr 1; omega
    · have h1 := ih (n / 10) (by omega) (by omega) b c
      unfold dd at h1 ⊢
      rw [dd_ten n (by omega), scan3_app, h1, Lib.decDigits, dif_pos (show n % 10 < 10 by omega)]
      show S3.step _ (UInt8.ofNat (48 + n % 10)) = _
      have e : (UInt8.ofNat (48 + n % 10)).toNat = 48 + n % 10 := by rw [UInt8.toNat_ofNat']; omega
      rw [step_dig (by omega), e]
      show (⟨3, true, b, c, cap40 (n / 10) (48 + n % 10)⟩ : S3) = _
      rw [cap_dd (n / 10) (n % 10) (by omega) (by omega)]; congr 1; omega
/-- Behind three numbers nothing changes any more. -/
theorem scan3_end (q : List UInt8) : ∀ s : S3, 3 ≤ s.at_ → (s.at_ = 3 → s.dig = false) → (scan3 q s).n0 = s.n0 ∧ (scan3 q s).n1 = s.n1 ∧ (scan3 q s).n2 = s.n2 := by
  induction q with
  | nil => intro s _ _; exact ⟨rfl, rfl, rfl⟩
  | cons c q ih =>
    intro s h1 h2
    show (scan3 q (s.step c)).n0 = _ ∧ (scan3 q (s.step c)).n1 = _ ∧ (scan3 q (s.step c)).n2 = _
    by_cases hc : c.toNat < 48 ∨ 57 < c.toNat
    · have e : s.step c = { s with dig := false } := by unfold S3.step; rw [if_pos hc]
      rw [e]
      exact ih { s with dig := false } h1 (fun _ => rfl)
    · have h4 : 4 ≤ (if s.dig then s.at_ else s.at_ + 1) := by
        cases hd : s.dig
        · simp; omega
        · simp
          rcases Nat.lt_or_ge 3 s.at_ with h | h
          · omega
          · have := h2 (by omega); rw [hd] at this; cases this
      have e : s.step c = ⟨if s.dig then s.at_ else s.at_ + 1, true, s.n0, s.n1, s.n2⟩ := by
        unfold S3.step S3.add
        rw [if_neg hc, if_neg (by omega), if_neg (by omega), if_neg (by omega)]
      rw [e]
      exact ih ⟨if s.dig then s.at_ else s.at_ + 1, true, s.n0, s.n1, s.n2⟩ (Nat.le_of_lt h4) (fun h => by have : (if s.dig then s.at_ else s.at_ + 1) = 3 := h; omega)
theorem scan3_line (x : Sc) (h : x.ok) : ∃ at_ d, scan3 x.line ⟨0, false, 0, 0, 0⟩ = ⟨at_, d, x.size, x.a, x.b⟩ := by
  obtain ⟨h1, h2, h3, h4, h5, h6⟩ := h
  have e : x.line = (kW x.k ++ [32, 97, 116, 32]) ++ (dd x.size ++ ([58, 32] ++ (dd x.a ++ ([32, 111, 102, 32] ++ (dd x.b ++ ([44, 32] ++ (ratioL x.a x.b ++ 32 :: (percentL x.a x.b ++ [10])))))))) := by
    simp [Sc.line, Sc.endL]
  rw [e, scan3_app, scan3_word (kW x.k ++ [32, 97, 116, 32]) _ (fun c hc => by
    rcases List.mem_append.1 hc with h | h
    · exact Or.inr (kW_plain _ c h).1
    · exact (show ∀ c ∈ ([32, 97, 116, 32] : List UInt8), c.toNat < 48 ∨ 57 < c.toNat by decide) c h) (by simp)]
  rw [scan3_app]
  rw [show ({ (⟨0, false, 0, 0, 0⟩ : S3) with dig := false } : S3) = ⟨0, false, 0, 0, 0⟩ from rfl, scan3_d0 x.size (by omega) 0 0]
  rw [scan3_app, scan3_word [58, 32] _ (by decide) (by simp), scan3_app]
  rw [show ({ (⟨1, true, x.size, 0, 0⟩ : S3) with dig := false } : S3) = ⟨1, false, x.size, 0, 0⟩ from rfl, scan3_d1 x.a (by omega) x.size 0]
  rw [scan3_app, scan3_word [32, 111, 102, 32] _ (by decide) (by simp), scan3_app]
  rw [show ({ (⟨2, true, x.size, x.a, 0⟩ : S3) with dig := false } : S3) = ⟨2, false, x.size, x.a, 0⟩ from rfl, scan3_d2 x.b (by omega) x.size x.a]
  rw [scan3_app, scan3_word [44, 32] _ (by decide) (by simp)]
  rw [show ({ (⟨3, true, x.size, x.a, x.b⟩ : S3) with dig := false } : S3) = ⟨3, false, x.size, x.a, x.b⟩ from rfl]
  obtain ⟨q0, q1, q2⟩ := scan3_end (ratioL x.a x.b ++ 32 :: (percentL x.a x.b ++ [10])) ⟨3, false, x.size, x.a, x.b⟩ (Nat.le_refl _) (fun _ => rfl)
  generalize scan3 (ratioL x.a x.b ++ 32 :: (percentL x.a x.b ++ [10])) ⟨3, false, x.size, x.a, x.b⟩ = z at *
  obtain ⟨z0, z1, z2, z3, z4⟩ := z
  dsimp only at q0 q1 q2
  subst q0 q1 q2
  exact ⟨z0, z1, rfl⟩
theorem line_inj {x y : Sc} (hx : x.ok) (hy : y.ok) (h : x.line = y.line) : x = y := by
  obtain ⟨a1, d1, e1⟩ := scan3_line x hx
  obtain ⟨a2, d2, e2⟩ := scan3_line y hy
  rw [h, e2] at e1
  injection e1 with _ _ i1 i2 i3
  have hk : kW x.k = kW y.k := by
    obtain ⟨q1, f1⟩ := fld_line x hx
    obtain ⟨q2, f2⟩ := fld_line y hy
    rw [h, f2] at f1
    injection f1 with f1 _
    exact f1.symm
  have := kW_inj hx.1 hx.2.1 hy.1 hy.2.1 hk
  cases x; cases y
  dsimp only at *
  subst i1 i2 i3 this
  rfl
/-- the least kind from j on, among m ones, with which these numbers make the line -/
def kindFrom (t : List UInt8) (s a b : Nat) : Nat → Nat → Option Sc
  | _, 0 => none
  | j, m + 1 => if (⟨j, s, a, b⟩ : Sc).ok ∧ (⟨j, s, a, b⟩ : Sc).line = t then some ⟨j, s, a, b⟩ else kindFrom t s a b (j + 1) m
theorem kindFrom_some {t : List UInt8} {s a b : Nat} (m : Nat) : ∀ j x, kindFrom t s a b j m = some x → x.ok ∧ x.line = t := by
  induction m with
  | zero => intro j x h; cases h
  | succ m ih =>
    intro j x h
    unfold kindFrom at h
    split at h
    · rename_i h1; cases h; exact h1
    · exact ih _ _ h
theorem kindFrom_mem {x : Sc} (hx : x.ok) (m : Nat) : ∀ j, j ≤ x.k → x.k < j + m → kindFrom x.line x.size x.a x.b j m = some x := by
  induction m with
  | zero => intro j h1 h2; omega
  | succ m ih =>
    intro j h1 h2
    unfold kindFrom
    split
    · rename_i h
      rw [line_inj h.1 hx h.2]
    · rename_i h
      refine ih (j + 1) ?_ (by omega)
      rcases Nat.lt_or_ge j x.k with h3 | h3
      · omega
      · have : j = x.k := by omega
        subst this
        exact absurd ⟨hx, rfl⟩ h
/-- What the law reads. -/
def readL (t : List UInt8) : Option Sc := kindFrom t (scan3 t ⟨0, false, 0, 0, 0⟩).n0 (scan3 t ⟨0, false, 0, 0, 0⟩).n1 (scan3 t ⟨0, false, 0, 0, 0⟩).n2 1 8
theorem readL_line (x : Sc) (hx : x.ok) : readL x.line = some x := by
  obtain ⟨a, d, e⟩ := scan3_line x hx
  unfold readL
  rw [e]
  exact kindFrom_mem hx 8 1 hx.1 (by have := hx.2.1; omega)
theorem readL_some {t : List UInt8} {x : Sc} (h : readL t = some x) : x.ok ∧ x.line = t := kindFrom_some 8 1 x h
theorem readL_iff (t : List UInt8) (x : Sc) : readL t = some x ↔ x.ok ∧ x.line = t :=
  ⟨readL_some, fun h => by rw [← h.2]; exact readL_line x h.1⟩

/- the lines of a text -/
def linesL : Nat → List UInt8 → List (List UInt8)
  | 0, _ => []
  | n + 1, l => if l = [] then [] else if cF 10 l then (cA 10 l ++ [10]) :: linesL n (cZ 10 l) else [l]
def rdS : List Sc → List (List UInt8) → List Sc × Nat × Int
  | acc, [] => (acc, 0, 0)
  | acc, t :: ts => if acc.length = 1000 then ([], 1001, 6) else match readL t with
    | none => ([], acc.length + 1, 6)
    | some x => rdS (acc ++ [x]) ts
def txtS (l : List Sc) : List UInt8 := l.flatMap Sc.line
theorem lines_txt (l : List Sc) : ∀ n, l.length ≤ n → linesL n (txtS l) = l.map Sc.line := by
  induction l with
  | nil => intro n _; cases n <;> rfl
  | cons x l ih =>
    intro n hn
    obtain ⟨m, rfl⟩ : ∃ m, n = m + 1 := ⟨n - 1, by simp at hn; omega⟩
    obtain ⟨q, h1, h2⟩ := line_plain x
    have e : txtS (x :: l) = q ++ 10 :: txtS l := by simp [txtS, List.flatMap_cons, h1]
    have hq : ∀ c ∈ q, c ≠ 10 := fun c hc => (h2 c hc).2
    unfold linesL
    rw [e, if_neg (by simp), cF_at, cA_at 10 q _ hq, cZ_at 10 q _ hq, if_pos rfl, ih m (by simpa using hn), List.map_cons, h1]
theorem rdS_txt (l : List Sc) (hl : ∀ x ∈ l, x.ok) : ∀ acc, acc.length + l.length ≤ 1000 → rdS acc (l.map Sc.line) = (acc ++ l, 0, 0) := by
  induction l with
  | nil => intro acc _; simp [rdS]
  | cons x l ih =>
    intro acc h
    simp only [List.length_cons] at h
    show (if acc.length = 1000 then _ else match readL x.line with | none => _ | some x => _) = _
    rw [if_neg (by omega), readL_line x (hl x (by simp))]
    show rdS (acc ++ [x]) (l.map Sc.line) = _
    rw [ih (fun y hy => hl y (by simp [hy])) (acc ++ [x]) (by simp; omega)]
    simp
theorem rdS_full (l : List Sc) (hl : ∀ x ∈ l, x.ok) : ∀ acc, acc.length ≤ 1000 → 1000 < acc.length + l.length → rdS acc (l.map Sc.line) = ([], 1001, 6) := by
  induction l with
  | nil => intro acc h1 h2; simp at h2; omega
  | cons x l ih =>
    intro acc h1 h2
    simp only [List.length_cons] at h2
    show (if acc.length = 1000 then _ else match readL x.line with | none => _ | some x => _) = _
    by_cases h : acc.length = 1000
    · rw [if_pos h]
    · rw [if_neg h, readL_line x (hl x (by simp))]
      exact ih (fun y hy => hl y (by simp [hy])) (acc ++ [x]) (by simp; omega) (by simp; omega)
theorem txtS_inj {l m : List Sc} (hl : ∀ x ∈ l, x.ok) (hm : ∀ x ∈ m, x.ok) (h1 : l.length ≤ 1000) (h2 : m.length ≤ 1000) (h : txtS l = txtS m) : l = m := by
  have a := lines_txt l (max l.length m.length) (Nat.le_max_left _ _)
  have b := lines_txt m (max l.length m.length) (Nat.le_max_right _ _)
  rw [h, b] at a
  have ra := rdS_txt l hl [] (by simpa using h1)
  have rb := rdS_txt m hm [] (by simpa using h2)
  rw [← a, rb] at ra
  simpa using (congrArg Prod.fst ra).symm
end Go.Proofs.YtcofejbkbcdopaaGreatDoor
