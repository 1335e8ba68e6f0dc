import Derived.Test.YtapngkjgagapeaaDoorT1
import Derived.Test.YtapngkjgagapeaaDoorEM
/- Plain laws of events, their lines, and what is read of a line. -/
namespace Go.Proofs.YtapngkjgagapeaaDoor

def wordV : Nat → List UInt8
  | 1 => [101, 120, 112, 105, 114, 101, 100]
  | 2 => [101, 118, 105, 99, 116, 101, 100]
  | 3 => [114, 101, 112, 108, 97, 99, 101, 100]
  | 4 => [100, 101, 108, 101, 116, 101, 100]
  | 5 => [99, 108, 101, 97, 114, 101, 100]
  | _ => []
def kindL (p : List UInt8) : Nat := if p = wordV 1 then 1 else if p = wordV 2 then 2 else if p = wordV 3 then 3 else if p = wordV 4 then 4 else if p = wordV 5 then 5 else 0
theorem k5 (k : Nat) (h1 : 1 ≤ k) (h5 : k ≤ 5) : k = 1 ∨ k = 2 ∨ k = 3 ∨ k = 4 ∨ k = 5 := by omega
theorem kindL_word (k : Nat) (h5 : k ≤ 5) : kindL (wordV k) = k := by
  obtain rfl | rfl | rfl | rfl | rfl | rfl : k = 0 ∨ k = 1 ∨ k = 2 ∨ k = 3 ∨ k = 4 ∨ k = 5 := by omega
  all_goals decide
theorem kindL_le (p : List UInt8) : kindL p ≤ 5 := by
  unfold kindL; (repeat' split) <;> omega
theorem word_kind (p : List UInt8) (h : kindL p ≠ 0) : wordV (kindL p) = p := by
  unfold kindL at h ⊢
  (repeat' split)
  all_goals simp_all
theorem wordV_no (k : Nat) : ∀ c ∈ wordV k, c ≠ 32 := by
  intro c hc
  unfold wordV at hc
  split at hc
  all_goals first
    | (simp at hc; done)
    | (simp only [List.mem_cons, List.not_mem_nil, or_false] at hc
       rcases hc with h | h | h | h | h | h | h | h <;> (subst h; decide))
    | (simp only [List.mem_cons, List.not_mem_nil, or_false] at hc
       rcases hc with h | h | h | h | h | h | h <;> (subst h; decide))
theorem wordV_len (k : Nat) : (wordV k).length ≤ 8 := by
  unfold wordV; split <;> decide

/-- An event, its parts as numbers and lists of bytes. -/
structure Evt where
  kind : Nat
  e : Ent
  now : Nat
def Evt.fine (v : Evt) : Bool := (decide (1 ≤ v.kind) && decide (v.kind ≤ 5)) && v.e.fine && (dueB v.e.dl v.now == decide (v.kind = 1))
def Evt.text (v : Evt) : List UInt8 := txtL v.now ++ 32 :: (wordV v.kind ++ 32 :: v.e.text)
structure Evt.In (v : Evt) : Prop where
  e : v.e.In
  now : v.now ≤ never
theorem Evt.fine_k {v : Evt} (h : v.fine = true) : 1 ≤ v.kind ∧ v.kind ≤ 5 ∧ v.e.fine = true := by
  unfold Evt.fine at h
  simp only [Bool.and_eq_true, decide_eq_true_eq] at h
  exact ⟨h.1.1.1, h.1.1.2, h.1.2⟩
theorem Evt.text_len (v : Evt) (h : v.In) : v.text.length ≤ 75 + 2 * v.e.key.length + 2 * v.e.val.length := by
  have h1 : (txtL v.now).length ≤ 20 := txt_size v.now (by have := h.now; unfold never at this; omega)
  have h2 := wordV_len v.kind
  have h3 := v.e.text_len h.e
  unfold Evt.text
  simp; omega
theorem numO_nil : numO [] = none := rfl
theorem parseE_nil : parseE [] = none := by
  unfold parseE readE
  rw [show cutA [] = [] from rfl, numO_nil]
  rfl
theorem cut_join (l : List UInt8) (h : cutZ l ≠ []) : l = cutA l ++ 32 :: cutZ l := by
  unfold cutZ cutA at *
  induction l with
  | nil => simp at h
  | cons c r ih =>
    by_cases hc : c = 32
    · subst hc
      simp
    · have hb : (c != 32) = true := by simpa using hc
      rw [List.dropWhile_cons, if_pos hb] at h ⊢
      rw [List.takeWhile_cons, if_pos hb]
      rw [List.cons_append, ← ih h]
def parseV (l : List UInt8) : Option Evt :=
  match parseT (cutA l), parseE (cutZ (cutZ l)) with
  | some t, some e => if Evt.fine ⟨kindL (cutA (cutZ l)), e, t⟩ = true then some ⟨kindL (cutA (cutZ l)), e, t⟩ else none
  | _, _ => none
theorem parseV_text (v : Evt) (h : v.In) (hf : v.fine = true) : parseV v.text = some v := by
  obtain ⟨k1, k2, k3⟩ := Evt.fine_k hf
  have a0 : cutA v.text = txtL v.now := cutA_at _ _ (txtL_no _)
  have z0 : cutZ v.text = wordV v.kind ++ 32 :: v.e.text := cutZ_at _ _ (txtL_no _)
  unfold parseV
  rw [a0, z0, cutA_at _ _ (wordV_no _), cutZ_at _ _ (wordV_no _), parseT_txt _ h.now, parseE_text _ h.e k3]
  simp only [kindL_word _ k2]
  rw [if_pos hf]
theorem parseV_of (l : List UInt8) (v : Evt) (h : parseV l = some v) : v.In ∧ v.fine = true ∧ v.text = l := by
  unfold parseV at h
  split at h
  · rename_i t e h1 h2
    split at h
    · rename_i hf
      cases h
      obtain ⟨e1, e2, e3⟩ := parseE_of _ _ h2
      have hk := Evt.fine_k hf
      refine ⟨⟨e1, parseT_le _ _ h1⟩, hf, ?_⟩
      have n2 : cutZ (cutZ l) ≠ [] := fun h0 => by rw [h0, parseE_nil] at h2; cases h2
      have n1 : cutZ l ≠ [] := fun h0 => by rw [h0] at n2; exact n2 rfl
      have j1 := cut_join l n1
      have j2 := cut_join (cutZ l) n2
      unfold Evt.text
      simp only
      rw [← parseT_eq _ _ h1, word_kind _ (by simp only at hk; omega), e3, ← j2, ← j1]
    · cases h
  · cases h

/-- What the reference reads of the digits of a word, as it wraps. -/
def foldN (l : List UInt8) (n : Nat) : Nat := l.foldl (fun n c => (10 * n + (c.toNat - 48)) % 18446744073709551616) n
def allD (l : List UInt8) : Bool := l.all fun c => decide (48 ≤ c.toNat) && decide (c.toNat ≤ 57)
def numN (l : List UInt8) : Nat := if allD l = true ∧ l.length ≤ 20 then foldN l 0 else 0
def timeN (l : List UInt8) : Nat := if l = neverL then never else numN l
def digN (c : UInt8) : UInt8 := if 97 ≤ c.toNat then c - 97 + 10 else c - 48
def bytesN : List UInt8 → List UInt8
  | a :: b :: t => (16 * digN a + digN b) :: bytesN t
  | _ => []
theorem foldN_lt (l : List UInt8) : ∀ n, n < 18446744073709551616 → foldN l n < 18446744073709551616 := by
  induction l with
  | nil => intro n h; exact h
  | cons c l ih => intro n h; exact ih _ (Nat.mod_lt _ (by decide))
theorem numN_le (l : List UInt8) : numN l ≤ never := by
  unfold numN
  split
  · have := foldN_lt l 0 (by decide); unfold never; omega
  · unfold never; omega
theorem timeN_le (l : List UInt8) : timeN l ≤ never := by
  unfold timeN; split
  · exact Nat.le_refl _
  · exact numN_le l
theorem foldN_app (l m : List UInt8) (n : Nat) : foldN (l ++ m) n = foldN m (foldN l n) := by
  unfold foldN; rw [List.foldl_append]
theorem foldN_dd (n : Nat) (h : n ≤ never) : foldN (Lib.decDigits n) 0 = n := by
  induction n using Nat.strongRecOn with
  | _ n ih =>
    by_cases h10 : n < 10
    · rw [Lib.decDigits, dif_pos h10]
      show (10 * 0 + ((UInt8.ofNat (48 + n)).toNat - 48)) % 18446744073709551616 = n
      rw [UInt8.toNat_ofNat']
      omega
    · rw [Lib.decDigits, dif_neg h10, foldN_app, ih (n / 10) (by omega) (by unfold never at *; omega)]
      show (10 * (n / 10) + ((UInt8.ofNat (48 + n % 10)).toNat - 48)) % 18446744073709551616 = n
      rw [UInt8.toNat_ofNat']
      unfold never at h
      omega
theorem allD_dd (n : Nat) : allD (Lib.decDigits n) = true := by
  unfold allD
  rw [List.all_eq_true]
  intro c hc
  have := dd_digit n c hc
  simp [this.1, this.2]
theorem numN_dd (n : Nat) (h : n ≤ never) : numN (Lib.decDigits n) = n := by
  unfold numN
  rw [if_pos ⟨allD_dd n, (dd_len20 n (by unfold never at h; omega))⟩, foldN_dd n h]
theorem dd_ne_never (n : Nat) : Lib.decDigits n ≠ neverL := fun e => by
  have := dd_digit n 110 (by rw [e]; decide)
  simp at this
theorem timeN_txt (n : Nat) (h : n ≤ never) : timeN (txtL n) = n := by
  unfold timeN txtL
  by_cases e : n = never
  · rw [if_pos e, if_pos rfl, e]
  · rw [if_neg e, if_neg (dd_ne_never n), numN_dd n h]
theorem digN_hex (n : Nat) (h : n < 16) : digN (hexD n) = UInt8.ofNat n := by
  have : ∀ n : Fin 16, digN (hexD n.val) = UInt8.ofNat n.val := by decide
  exact this ⟨n, h⟩
theorem bytesN_pair (b : UInt8) : 16 * digN (hexD (b.toNat / 16)) + digN (hexD (b.toNat % 16)) = b := by
  have hb := b.toNat_lt
  rw [digN_hex _ (by omega), digN_hex _ (by omega)]
  apply UInt8.toNat_inj.1
  simp
  omega
theorem bytesN_hexP (l : List UInt8) : bytesN (hexP l) = l := by
  induction l with
  | nil => rfl
  | cons b r ih => rw [hexP_cons, bytesN, bytesN_pair, ih]
theorem bytesN_hexL (l : List UInt8) : bytesN (hexL l) = l := by
  unfold hexL
  split
  · rename_i h; subst h; rfl
  · exact bytesN_hexP l
theorem bytesN_len (n : Nat) : ∀ l : List UInt8, l.length ≤ n → 2 * (bytesN l).length ≤ l.length := by
  induction n with
  | zero => intro l h; obtain rfl := List.eq_nil_of_length_eq_zero (by omega : l.length = 0); simp [bytesN]
  | succ n ih =>
    intro l h
    match l with
    | [] => simp [bytesN]
    | [a] => simp [bytesN]
    | a :: b :: t =>
      have := ih t (by simp at h; omega)
      simp [bytesN]; omega
def candV (l : List UInt8) : Option Evt :=
  match splitL l with
  | [p0, p1, p2, p3, p4, p5] => some ⟨kindL p1, ⟨bytesN p4, bytesN p5, timeN p3, numN p2⟩, timeN p0⟩
  | _ => none
def refV (l : List UInt8) : Option Evt := (candV l).bind fun v => if v.fine = true ∧ v.text = l then some v else none
theorem candV_text (v : Evt) (h : v.In) (hf : v.fine = true) : candV v.text = some v := by
  obtain ⟨k1, k2, k3⟩ := Evt.fine_k hf
  have s : splitL v.text = [txtL v.now, wordV v.kind, Lib.decDigits v.e.birth, txtL v.e.dl, hexL v.e.key, hexL v.e.val] := by
    unfold Evt.text Ent.text
    rw [split_at _ _ (txtL_no _), split_at _ _ (wordV_no _), split_at _ _ (dd_no _), split_at _ _ (txtL_no _), split_at _ _ (hexL_no _), split_all _ (hexL_no _)]
  unfold candV
  rw [s]
  simp only [kindL_word _ k2, bytesN_hexL, timeN_txt _ h.now, timeN_txt _ h.e.dl, numN_dd _ h.e.birth]
theorem candV_in (l : List UInt8) (v : Evt) (h : candV l = some v) : v.In := by
  unfold candV at h
  split at h
  · cases h
    exact ⟨⟨timeN_le _, numN_le _⟩, timeN_le _⟩
  · cases h
theorem refV_eq (l : List UInt8) : refV l = parseV l := by
  cases h : refV l with
  | some v =>
    unfold refV at h
    cases hc : candV l with
    | none => rw [hc] at h; cases h
    | some x =>
      rw [hc] at h
      simp only [Option.bind_some] at h
      split at h
      · rename_i hh
        cases h
        rw [← hh.2, parseV_text _ (candV_in l _ hc) hh.1]
      · cases h
  | none =>
    cases h' : parseV l with
    | none => rfl
    | some v =>
      obtain ⟨h1, h2, h3⟩ := parseV_of l v h'
      unfold refV at h
      rw [← h3, candV_text v h1 h2] at h
      simp [h2] at h
end Go.Proofs.YtapngkjgagapeaaDoor
