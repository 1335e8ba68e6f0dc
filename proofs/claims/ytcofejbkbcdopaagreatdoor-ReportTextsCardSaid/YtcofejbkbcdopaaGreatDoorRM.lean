import Derived.Test.YtcofejbkbcdopaaGreatDoorTM
import Derived.Lib.SplitLaws
import Derived.Lib.AtoiAllCases
import Derived.Lib.LastIndexByte
/- The plain texts of a report's counts: what is written, what is read, what the law's scan makes of a text. -/
namespace Go.Proofs.YtcofejbkbcdopaaGreatDoor


def dd (n : Nat) : List UInt8 := Lib.decDigits n
theorem dd_no (n : Nat) (x : UInt8) (hx : x.toNat < 48 ∨ 57 < x.toNat) : ∀ c ∈ dd n, c ≠ x := fun c hc e => by
  have := dd_digit n c hc
  rw [e] at this; omega
def wordsRL : List (List UInt8) := [[111, 112, 115], [101, 114, 114, 111, 114, 115], [103, 101, 116, 115], [104, 105, 116, 115], [115, 101, 116, 115], [101, 120, 112, 105, 114, 101, 100], [101, 118, 105, 99, 116, 101, 100], [114, 101, 112, 108, 97, 99, 101, 100], [100, 101, 108, 101, 116, 101, 100], [99, 108, 101, 97, 114, 101, 100], [108, 101, 110], [99, 111, 115, 116]]
def wR (i : Nat) : List UInt8 := wordsRL.getD i []
theorem wR_all (p : UInt8 → Bool) (h : wordsRL.all (fun l => l.all p) = true) (i : Nat) : ∀ c ∈ wR i, p c = true := by
  intro c hc
  unfold wR at hc
  rw [List.getD_eq_getElem?_getD] at hc
  cases hi : wordsRL[i]? with
  | none => rw [hi] at hc; simp at hc
  | some l =>
    rw [hi] at hc
    have := List.all_eq_true.1 h l (List.mem_of_getElem? hi)
    exact List.all_eq_true.1 this c hc
theorem wR_plain (i : Nat) : ∀ c ∈ wR i, c ≠ 10 ∧ c ≠ 32 ∧ 57 < c.toNat := by
  intro c hc
  have := wR_all (fun c => c != 10 && c != 32 && decide (57 < c.toNat)) (by decide) i c hc
  simpa [Bool.and_eq_true, and_assoc] using this
theorem wR_len (i : Nat) : (wR i).length ≤ 8 := by
  unfold wR
  rw [List.getD_eq_getElem?_getD]
  cases hi : wordsRL[i]? with
  | none => simp
  | some l =>
    have h : wordsRL.all (fun l => decide (l.length ≤ 8)) = true := by decide
    have := List.all_eq_true.1 h l (List.mem_of_getElem? hi)
    simpa using this

def lineR (i n : Nat) : List UInt8 := [45, 32] ++ (wR i ++ 32 :: dd n)
def headR : List UInt8 := [114, 117, 110, 58]
/-- the text up to line k -/
def txtK (f : Nat → Nat) : Nat → List UInt8
  | 0 => headR ++ [10]
  | k + 1 => txtK f k ++ (lineR k (f k) ++ [10])
/-- m lines from line k on -/
def tailR (f : Nat → Nat) : Nat → Nat → List UInt8
  | _, 0 => []
  | k, m + 1 => lineR k (f k) ++ 10 :: tailR f (k + 1) m
theorem txtK_tail (f : Nat → Nat) (m : Nat) : ∀ k, txtK f k ++ tailR f k m = txtK f (k + m) := by
  induction m with
  | zero => intro k; simp [tailR]
  | succ m ih =>
    intro k
    have := ih (k + 1)
    rw [show k + (m + 1) = k + 1 + m by omega, ← this]
    simp [tailR, txtK]
def txtR (f : Nat → Nat) : List UInt8 := txtK f 12
theorem txtR_eq (f : Nat → Nat) : txtR f = headR ++ 10 :: tailR f 0 12 := by
  have := txtK_tail f 12 0
  unfold txtR
  rw [show (12 : Nat) = 0 + 12 from rfl, ← this]
  simp [txtK]
theorem txtK_congr {f g : Nat → Nat} {k : Nat} (h : ∀ i, i < k → f i = g i) : txtK f k = txtK g k := by
  induction k with
  | zero => rfl
  | succ k ih =>
    show txtK f k ++ _ = txtK g k ++ _
    rw [ih (fun i hi => h i (by omega)), h k (by omega)]
theorem lineR_no (i n : Nat) : ∀ c ∈ lineR i n, c ≠ 10 := by
  intro c hc
  simp only [lineR, List.cons_append, List.nil_append, List.mem_cons, List.mem_append] at hc
  rcases hc with rfl | rfl | hc | rfl | hc
  · decide
  · decide
  · exact (wR_plain i c hc).1
  · decide
  · exact dd_no n 10 (by decide) c hc
theorem lineR_len (i n : Nat) (h : n < 18446744073709551616) : (lineR i n).length ≤ 31 := by
  have h1 := wR_len i
  have h2 := dd_len20 n h
  simp [lineR, dd]; omega
theorem txtK_len (f : Nat → Nat) (h : ∀ i, f i < 18446744073709551616) : ∀ k, (txtK f k).length ≤ 5 + 32 * k := by
  intro k
  induction k with
  | zero => simp [txtK, headR]
  | succ k ih =>
    have := lineR_len k (f k) (h k)
    simp only [txtK, List.length_append, List.length_cons, List.length_nil]; omega

/- cutting at a line's end -/
theorem index_at (x : UInt8) (r : List UInt8) : ∀ p : List UInt8, (∀ c ∈ p, c ≠ x) → Lib.index (p ++ x :: r) [x] = (p.length : Int)
  | [], _ => by simp [Lib.index]
  | b :: p, h => by
    have ih := index_at x r p (fun c hc => h c (by simp [hc]))
    have hb : b ≠ x := h b (by simp)
    show (if [x].isPrefixOf (b :: (p ++ x :: r)) then (0 : Int) else if Lib.index (p ++ x :: r) [x] == -1 then -1 else Lib.index (p ++ x :: r) [x] + 1) = _
    rw [ih]
    have h1 : [x].isPrefixOf (b :: (p ++ x :: r)) = false := by
      simp [List.isPrefixOf]; exact fun e => hb e.symm
    rw [h1]
    have h2 : ((p.length : Int) == -1) = false := by rw [beq_eq_false_iff_ne]; omega
    rw [h2]
    simp
theorem index_no (x : UInt8) : ∀ p : List UInt8, (∀ c ∈ p, c ≠ x) → Lib.index p [x] = -1
  | [], _ => rfl
  | b :: p, h => by
    have ih := index_no x p (fun c hc => h c (by simp [hc]))
    have hb : b ≠ x := h b (by simp)
    show (if [x].isPrefixOf (b :: p) then (0 : Int) else if Lib.index p [x] == -1 then -1 else Lib.index p [x] + 1) = _
    rw [ih]
    have h1 : [x].isPrefixOf (b :: p) = false := by
      simp [List.isPrefixOf]; exact fun e => hb e.symm
    rw [h1]
    rfl
theorem count_no (x : UInt8) (p : List UInt8) (h : ∀ c ∈ p, c ≠ x) : p.count x = 0 := List.count_eq_zero.2 (fun hm => h x hm rfl)
theorem split_at (x : UInt8) (p r : List UInt8) (h : ∀ c ∈ p, c ≠ x) : Lib.split (p ++ x :: r) [x] = p :: Lib.split r [x] := by
  unfold Lib.split
  rw [Lib.count_one, Lib.count_one, List.count_append, count_no x p h, List.count_cons_self, Nat.zero_add]
  show (if Lib.index (p ++ x :: r) [x] == -1 then _ else _) = _
  rw [index_at x r p h]
  have h2 : ((p.length : Int) == -1) = false := by rw [beq_eq_false_iff_ne]; omega
  rw [h2]
  simp
theorem split_no (x : UInt8) (p : List UInt8) (h : ∀ c ∈ p, c ≠ x) : Lib.split p [x] = [p] := by
  unfold Lib.split
  rw [Lib.count_one, count_no x p h]; rfl
theorem split_tail (f : Nat → Nat) (m : Nat) : ∀ k, Lib.split (tailR f k m) [10] = (List.range' k m).map (fun i => lineR i (f i)) ++ [[]] := by
  induction m with
  | zero => intro k; exact split_no 10 [] (by simp)
  | succ m ih =>
    intro k
    show Lib.split (lineR k (f k) ++ 10 :: tailR f (k + 1) m) [10] = _
    rw [split_at 10 _ _ (lineR_no k (f k)), ih (k + 1), List.range'_succ]
    rfl
theorem split_txt (f : Nat → Nat) : Lib.split (txtR f) [10] = headR :: ((List.range' 0 12).map (fun i => lineR i (f i)) ++ [[]]) := by
  rw [txtR_eq, split_at 10 headR _ (by decide), split_tail]

/- the number at the end of a line -/
def afterL (l : List UInt8) : List UInt8 := (l.reverse.takeWhile (· != 32)).reverse
theorem afterL_at (p q : List UInt8) (h : ∀ c ∈ q, c ≠ 32) : afterL (p ++ 32 :: q) = q := by
  unfold afterL
  rw [List.reverse_append, List.reverse_cons, List.append_assoc]
  rw [List.takeWhile_append_of_pos (fun c hc => by simpa using h c (by simpa using hc))]
  simp
theorem afterL_no (q : List UInt8) (h : ∀ c ∈ q, c ≠ 32) : afterL q = q := by
  unfold afterL
  have := List.takeWhile_append_of_pos (p := (· != 32)) (l₁ := q.reverse) (l₂ := []) (fun c hc => by simpa using h c (by simpa using hc))
  simp at this
  rw [this]; simp
def valL (l : List UInt8) : Int := match Lib.atoiAll (afterL l) with
  | .ok v => v
  | _ => -1
theorem valL_ok {l : List UInt8} {v : Int} (h : Lib.atoiAll (afterL l) = .ok v) : valL l = v := by unfold valL; rw [h]
theorem valL_no {l : List UInt8} (h : ∀ v, Lib.atoiAll (afterL l) ≠ .ok v) : valL l = -1 := by
  unfold valL
  split
  · rename_i v hv; exact absurd hv (h v)
  · rfl
theorem dd_cons (n : Nat) : ∃ c r, Lib.decDigits n = c :: r ∧ 48 ≤ c.toNat ∧ c.toNat ≤ 57 := by
  have h := dd_digit n
  cases hd : Lib.decDigits n with
  | nil => exact absurd hd (dd_ne_nil n)
  | cons c r => exact ⟨c, r, rfl, h c (by rw [hd]; simp)⟩
theorem pu_append (l r : List UInt8) : ∀ acc n, Lib.parseUint10 acc l = .ok n → Lib.parseUint10 acc (l ++ r) = Lib.parseUint10 n r := by
  induction l with
  | nil =>
    intro acc n h
    simp only [Lib.parseUint10] at h
    cases h
    rfl
  | cons c t ih =>
    intro acc n h
    show Lib.parseUint10 acc (c :: (t ++ r)) = _
    simp only [Lib.parseUint10] at h ⊢
    split at h
    · rename_i h1
      rw [if_pos h1]
      split at h
      · cases h
      · rename_i h2
        rw [if_neg h2]
        split at h
        · cases h
        · rename_i h3
          rw [if_neg h3]
          exact ih _ _ h
    · cases h
theorem pu_dd (n : Nat) : n ≤ 9223372036854775807 → Lib.parseUint10 0 (Lib.decDigits n) = .ok n := by
  induction n using Nat.strongRecOn with
  | _ n ih =>
    intro hn
    rw [Lib.decDigits]
    split
    · rename_i h
      simp only [Lib.parseUint10]
      rw [UInt8.toNat_ofNat', if_pos (by omega), if_neg (by omega), if_neg (by omega)]
      congr 1; omega
    · rename_i h
      rw [pu_append _ _ 0 (n / 10) (ih (n / 10) (by omega) (by omega))]
      simp only [Lib.parseUint10]
      rw [UInt8.toNat_ofNat', if_pos (by omega), if_neg (by omega), if_neg (by omega)]
      congr 1; omega
theorem pm_dd (n : Nat) (hn : n ≤ 9223372036854775807) : Lib.parseMag (Lib.decDigits n) = .ok n := by
  unfold Lib.parseMag
  rw [if_neg (dd_ne_nil n), pu_dd n hn]
theorem atoi_dd (n : Nat) (hn : n ≤ 9223372036854775807) : Lib.atoiAll (Lib.decDigits n) = .ok (n : Int) := by
  obtain ⟨c, r, hd, h1, h2⟩ := dd_cons n
  have hp := pm_dd n hn
  rw [hd] at hp ⊢
  unfold Lib.atoiAll
  simp only
  rw [if_neg (by omega), hp]
  simp only
  rw [if_neg (by omega), if_neg (by omega), if_neg (by omega)]
theorem valL_line (i n : Nat) (h : n ≤ 9223372036854775807) : valL (lineR i n) = n := by
  have e : afterL (lineR i n) = dd n := by
    unfold lineR
    rw [← List.append_assoc]
    exact afterL_at _ _ (dd_no n 32 (by decide))
  exact valL_ok (by rw [e]; exact atoi_dd n h)
theorem itoa_nat (n : Int) (h : 0 ≤ n) : Lib.itoa n = dd n.toNat := by
  unfold Lib.itoa
  rw [if_neg (by omega)]; rfl

/-- What a text is read as. -/
def readR (l : List UInt8) (i : Nat) : Int := if i + 1 < (Lib.split l [10]).length then valL ((Lib.split l [10]).getD (i + 1) []) else 0
def natF (g : Nat → Int) (i : Nat) : Nat := (g i).toNat
def okR (g : Nat → Int) : Prop := ∀ i, i < 12 → 0 ≤ g i
theorem readR_txt (f : Nat → Nat) (i : Nat) (hi : i < 12) (h : f i ≤ 9223372036854775807) : readR (txtR f) i = f i := by
  unfold readR
  rw [split_txt]
  have hl : (headR :: ((List.range' 0 12).map (fun i => lineR i (f i)) ++ [[]])).length = 14 := by simp
  rw [hl, if_pos (by omega), List.getD_eq_getElem?_getD, List.getElem?_cons_succ, List.getElem?_append_left (by simp; omega)]
  have : ((List.range' 0 12).map (fun i => lineR i (f i)))[i]? = some (lineR i (f i)) := by
    rw [List.getElem?_map, List.getElem?_range' hi]; simp
  rw [this]
  exact valL_line i (f i) h

/- the law's scan -/
def stepS (c : UInt8) (st : List Nat) : List Nat :=
  if c = 10 then 0 :: st
  else if 48 ≤ c.toNat ∧ c.toNat ≤ 57 then (match st with
    | x :: t => if x < 576460752303423488 then (10 * x + (c.toNat - 48)) :: t else x :: t
    | [] => [])
  else st
def scanR : List UInt8 → List Nat → List Nat
  | [], st => st
  | c :: l, st => scanR l (stepS c st)
theorem scanR_app (a b : List UInt8) : ∀ st, scanR (a ++ b) st = scanR b (scanR a st) := by
  induction a with
  | nil => intro st; rfl
  | cons c a ih => intro st; exact ih _
theorem scanR_word (a : List UInt8) (h : ∀ c ∈ a, c ≠ 10 ∧ (c.toNat < 48 ∨ 57 < c.toNat)) : ∀ st, scanR a st = st := by
  induction a with
  | nil => intro st; rfl
  | cons c a ih =>
    intro st
    have h0 := h c (by simp)
    show scanR a (stepS c st) = st
    have e : stepS c st = st := by
      unfold stepS
      rw [if_neg h0.1, if_neg (by omega)]
    rw [e]
    exact ih (fun c hc => h c (by simp [hc])) st
theorem scanR_dd (n : Nat) : ∀ t, n < 576460752303423488 → scanR (dd n) (0 :: t) = n :: t := by
  induction n using Nat.strongRecOn with
  | _ n ih =>
    intro t hn
    unfold dd
    by_cases h10 : n < 10
    · rw [Lib.decDigits, dif_pos h10]
      show stepS (UInt8.ofNat (48 + n)) (0 :: t) = _
      unfold stepS
      have e : (UInt8.ofNat (48 + n)).toNat = 48 + n := by rw [UInt8.toNat_ofNat']; omega
      rw [if_neg (fun e1 => by rw [e1] at e; simp at e; omega), if_pos (by omega), e]
      show (if 0 < 576460752303423488 then _ else _) = _
      rw [if_pos (by decide)]
      congr 1; omega
    · rw [dd_ten n (by omega), scanR_app]
      have h1 := ih (n / 10) (by omega) t (by omega)
      unfold dd at h1
      rw [h1]
      rw [Lib.decDigits, dif_pos (show n % 10 < 10 by omega)]
      show stepS (UInt8.ofNat (48 + n % 10)) (n / 10 :: t) = _
      unfold stepS
      have e : (UInt8.ofNat (48 + n % 10)).toNat = 48 + n % 10 := by rw [UInt8.toNat_ofNat']; omega
      rw [if_neg (fun e1 => by rw [e1] at e; simp at e; omega), if_pos (by omega), e]
      show (if n / 10 < 576460752303423488 then _ else _) = _
      rw [if_pos (by omega)]
      congr 1; omega
theorem stepS_len (c : UInt8) (st : List Nat) : (stepS c st).length = st.length + (if c = 10 then 1 else 0) := by
  unfold stepS
  split
  · simp
  · split
    · cases st with
      | nil => rfl
      | cons x t =>
        show (if x < 576460752303423488 then _ else _ : List Nat).length = _
        split <;> rfl
    · rfl
theorem scanR_len (a : List UInt8) : ∀ st, (scanR a st).length = st.length + a.count 10 := by
  induction a with
  | nil => intro st; simp [scanR]
  | cons c a ih =>
    intro st
    show (scanR a (stepS c st)).length = _
    rw [ih, stepS_len, List.count_cons]
    by_cases hc : c = 10
    · subst hc; simp; omega
    · rw [if_neg hc, if_neg (by simpa using hc)]; omega
theorem scan_line (i n : Nat) (t : List Nat) (h : n < 576460752303423488) : scanR (lineR i n ++ [10]) (0 :: t) = 0 :: n :: t := by
  unfold lineR
  rw [scanR_app, scanR_app, scanR_word [45, 32] (by decide), scanR_app, scanR_word (wR i) (fun c hc => ⟨(wR_plain i c hc).1, Or.inr (wR_plain i c hc).2.2⟩)]
  show stepS 10 (scanR (dd n) (stepS 32 (0 :: t))) = _
  have e : stepS 32 (0 :: t) = 0 :: t := rfl
  rw [e, scanR_dd n t h]
  rfl
theorem scan_txt (f : Nat → Nat) (k : Nat) (h : ∀ i, i < k → f i < 576460752303423488) : scanR (txtK f k) [] = 0 :: ((List.range k).map f).reverse := by
  induction k with
  | zero => rfl
  | succ k ih =>
    show scanR (txtK f k ++ (lineR k (f k) ++ [10])) [] = _
    rw [scanR_app, ih (fun i hi => h i (by omega)), scan_line k (f k) _ (h k (by omega)), List.range_succ]
    simp
theorem count_txt (f : Nat → Nat) (k : Nat) : (txtK f k).count 10 = k + 1 := by
  induction k with
  | zero => rfl
  | succ k ih =>
    show (txtK f k ++ (lineR k (f k) ++ [10])).count 10 = _
    rw [List.count_append, List.count_append, ih, count_no 10 _ (lineR_no k (f k))]
    rfl
end Go.Proofs.YtcofejbkbcdopaaGreatDoor
