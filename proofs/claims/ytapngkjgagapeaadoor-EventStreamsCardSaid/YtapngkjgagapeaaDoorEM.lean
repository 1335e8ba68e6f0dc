import Derived.Test.YtapngkjgagapeaaDoorTM
/- Plain laws of the texts of entries: digits of bytes, what is cut off at spaces, and what parses. -/
namespace Go.Proofs.YtapngkjgagapeaaDoor

def hexD (n : Nat) : UInt8 := if n < 10 then UInt8.ofNat (48 + n) else UInt8.ofNat (87 + n)
def hexP (l : List UInt8) : List UInt8 := l.flatMap fun b => [hexD (b.toNat / 16), hexD (b.toNat % 16)]
def hexL (l : List UInt8) : List UInt8 := if l = [] then [45] else hexP l
/-- What a digit is worth, and one more; 0 for no digit. -/
def unhx (c : UInt8) : Nat := if 48 ≤ c.toNat ∧ c.toNat ≤ 57 then c.toNat - 47 else if 97 ≤ c.toNat ∧ c.toNat ≤ 102 then c.toNat - 86 else 0
def pairB (a b : UInt8) : UInt8 := UInt8.ofNat (16 * (unhx a - 1) + (unhx b - 1))
def decP : List UInt8 → Option (List UInt8)
  | [] => some []
  | [_] => none
  | a :: b :: r => if unhx a = 0 ∨ unhx b = 0 then none else (decP r).map (pairB a b :: ·)
def decL (l : List UInt8) : Option (List UInt8) := if l = [45] then some [] else if l = [] then none else decP l

theorem hexD_fin : ∀ n : Fin 16, unhx (hexD n.val) = n.val + 1 := by decide
theorem unhx_hexD (n : Nat) (h : n < 16) : unhx (hexD n) = n + 1 := hexD_fin ⟨n, h⟩
theorem unhx_fin : ∀ n : Fin 256, unhx (UInt8.ofNat n.val) ≠ 0 → unhx (UInt8.ofNat n.val) ≤ 16 ∧ hexD (unhx (UInt8.ofNat n.val) - 1) = UInt8.ofNat n.val := by decide +kernel
theorem u8_ofNat (c : UInt8) : UInt8.ofNat c.toNat = c := by simp
theorem hexD_unhx (c : UInt8) (h : unhx c ≠ 0) : unhx c ≤ 16 ∧ hexD (unhx c - 1) = c := by
  have := unhx_fin ⟨c.toNat, c.toNat_lt⟩
  simp only [u8_ofNat] at this
  exact this h
theorem hexD_ne32_fin : ∀ n : Fin 16, hexD n.val ≠ 32 ∧ hexD n.val ≠ 45 := by decide
theorem hexD_ne32 (n : Nat) (h : n < 16) : hexD n ≠ 32 ∧ hexD n ≠ 45 := hexD_ne32_fin ⟨n, h⟩
theorem hexP_cons (b : UInt8) (r : List UInt8) : hexP (b :: r) = hexD (b.toNat / 16) :: hexD (b.toNat % 16) :: hexP r := by
  unfold hexP; rw [List.flatMap_cons]; rfl
theorem hexP_snoc (l : List UInt8) (b : UInt8) : hexP (l ++ [b]) = hexP l ++ [hexD (b.toNat / 16), hexD (b.toNat % 16)] := by
  unfold hexP; rw [List.flatMap_append]; simp
theorem hexP_len (l : List UInt8) : (hexP l).length = 2 * l.length := by
  induction l with
  | nil => rfl
  | cons b r ih => rw [hexP_cons]; simp [ih]; omega
theorem hexL_len (l : List UInt8) : (hexL l).length ≤ 2 * l.length + 1 := by
  unfold hexL; split
  · simp
  · rw [hexP_len]; omega
theorem pair_hex (b : UInt8) : pairB (hexD (b.toNat / 16)) (hexD (b.toNat % 16)) = b := by
  have hb := b.toNat_lt
  unfold pairB
  rw [unhx_hexD _ (by omega), unhx_hexD _ (by omega)]
  rw [show 16 * (b.toNat / 16 + 1 - 1) + (b.toNat % 16 + 1 - 1) = b.toNat by omega]
  exact u8_ofNat b
theorem decP_hexP (l : List UInt8) : decP (hexP l) = some l := by
  induction l with
  | nil => rfl
  | cons b r ih =>
    have hb := b.toNat_lt
    rw [hexP_cons, decP, unhx_hexD _ (by omega), unhx_hexD _ (by omega), if_neg (by omega), ih, pair_hex]; rfl
theorem pair_fin : ∀ a b : UInt8, unhx a ≠ 0 → unhx b ≠ 0 → (pairB a b).toNat = 16 * (unhx a - 1) + (unhx b - 1) := by
  intro a b ha hb
  have h1 := (hexD_unhx a ha).1
  have h2 := (hexD_unhx b hb).1
  unfold pairB
  rw [UInt8.toNat_ofNat']; omega
theorem hexP_decP (n : Nat) : ∀ (l r : List UInt8), l.length ≤ n → decP l = some r → l = hexP r := by
  induction n with
  | zero => intro l r hl h; obtain rfl := List.eq_nil_of_length_eq_zero (by omega : l.length = 0); simp [decP] at h; subst h; rfl
  | succ n ih =>
    intro l r hl h
    match l with
    | [] => simp [decP] at h; subst h; rfl
    | [_] => simp [decP] at h
    | a :: b :: t =>
      rw [decP] at h
      split at h
      · cases h
      · rename_i hab
        have ha : unhx a ≠ 0 := fun e => hab (Or.inl e)
        have hb : unhx b ≠ 0 := fun e => hab (Or.inr e)
        cases ht : decP t with
        | none => rw [ht] at h; cases h
        | some q =>
          rw [ht] at h
          simp only [Option.map_some, Option.some.injEq] at h
          subst h
          have := ih t q (by simp at hl; omega) ht
          have h1 := hexD_unhx a ha
          have h2 := hexD_unhx b hb
          rw [hexP_cons, pair_fin a b ha hb, ← this]
          rw [show (16 * (unhx a - 1) + (unhx b - 1)) / 16 = unhx a - 1 by omega, show (16 * (unhx a - 1) + (unhx b - 1)) % 16 = unhx b - 1 by omega, h1.2, h2.2]
theorem decL_hexL (l : List UInt8) : decL (hexL l) = some l := by
  unfold hexL
  split
  · rename_i h; subst h; rfl
  · rename_i h
    unfold decL
    have h0 : hexP l ≠ [] := fun e => by
      have := hexP_len l; rw [e] at this; simp at this
      exact h (List.eq_nil_of_length_eq_zero (by omega))
    have h1 : hexP l ≠ [45] := fun e => by
      have := hexP_len l; rw [e] at this; simp at this; omega
    rw [if_neg h1, if_neg h0, decP_hexP]
theorem hexL_decL (l r : List UInt8) (h : decL l = some r) : l = hexL r := by
  unfold decL at h
  split at h
  · rename_i e; simp at h; subst h; rw [e]; rfl
  · split at h
    · cases h
    · rename_i e
      have := hexP_decP l.length l r (Nat.le_refl _) h
      unfold hexL
      split
      · rename_i e2; subst e2; exact absurd this e
      · exact this

theorem hexP_no (l : List UInt8) : ∀ c ∈ hexP l, c ≠ 32 := by
  induction l with
  | nil => intro c hc; simp [hexP] at hc
  | cons b r ih =>
    intro c hc
    have hb := b.toNat_lt
    rw [hexP_cons] at hc
    simp only [List.mem_cons] at hc
    rcases hc with rfl | rfl | hc
    · exact (hexD_ne32 _ (by omega)).1
    · exact (hexD_ne32 _ (by omega)).1
    · exact ih c hc
theorem hexL_no (l : List UInt8) : ∀ c ∈ hexL l, c ≠ 32 := by
  unfold hexL
  split
  · intro c hc; simp at hc; subst hc; decide
  · exact hexP_no l
theorem dd_no (n : Nat) : ∀ c ∈ Lib.decDigits n, c ≠ 32 := fun c hc e => by
  have := dd_digit n c hc; subst e; simp at this
theorem txtL_no (n : Nat) : ∀ c ∈ txtL n, c ≠ 32 := by
  unfold txtL
  split
  · decide
  · exact dd_no n

/-- What stands before the first space, and behind it. -/
def cutA (l : List UInt8) : List UInt8 := l.takeWhile (· != 32)
def cutZ (l : List UInt8) : List UInt8 := (l.dropWhile (· != 32)).tail
theorem cutA_at (p r : List UInt8) (h : ∀ c ∈ p, c ≠ 32) : cutA (p ++ 32 :: r) = p := by
  unfold cutA
  induction p with
  | nil => rfl
  | cons c p ih =>
    have hc : (c != 32) = true := by simpa using h c (by simp)
    rw [List.cons_append, List.takeWhile_cons, if_pos hc, ih (fun x hx => h x (by simp [hx]))]
theorem cutZ_at (p r : List UInt8) (h : ∀ c ∈ p, c ≠ 32) : cutZ (p ++ 32 :: r) = r := by
  unfold cutZ
  induction p with
  | nil => rfl
  | cons c p ih =>
    have hc : (c != 32) = true := by simpa using h c (by simp)
    rw [List.cons_append, List.dropWhile_cons, if_pos hc, ih (fun x hx => h x (by simp [hx]))]
theorem cutA_all (p : List UInt8) (h : ∀ c ∈ p, c ≠ 32) : cutA p = p := by
  unfold cutA
  induction p with
  | nil => rfl
  | cons c p ih =>
    have hc : (c != 32) = true := by simpa using h c (by simp)
    rw [List.takeWhile_cons, if_pos hc, ih (fun x hx => h x (by simp [hx]))]
theorem cutZ_all (p : List UInt8) (h : ∀ c ∈ p, c ≠ 32) : cutZ p = [] := by
  unfold cutZ
  induction p with
  | nil => rfl
  | cons c p ih =>
    have hc : (c != 32) = true := by simpa using h c (by simp)
    rw [List.dropWhile_cons, if_pos hc, ih (fun x hx => h x (by simp [hx]))]
theorem cutZ_len (l : List UInt8) : (cutZ l).length ≤ l.length := by
  unfold cutZ
  have := (List.dropWhile_sublist (· != 32) (l := l)).length_le
  simp; omega
theorem cutA_len (l : List UInt8) : (cutA l).length ≤ l.length := (List.takeWhile_sublist (· != 32) (l := l)).length_le

/-- An entry, its parts as lists of bytes and numbers. -/
structure Ent where
  key : List UInt8
  val : List UInt8
  dl : Nat
  birth : Nat
def Ent.zero : Ent := ⟨[], [], 0, 0⟩
def Ent.fine (e : Ent) : Bool := decide (1 ≤ e.key.length) && decide (e.key.length ≤ 250) && decide (e.val.length ≤ 65536) && decide (e.birth ≠ 0)
def Ent.text (e : Ent) : List UInt8 := Lib.decDigits e.birth ++ 32 :: (txtL e.dl ++ 32 :: (hexL e.key ++ 32 :: hexL e.val))
structure Ent.In (e : Ent) : Prop where
  dl : e.dl ≤ never
  birth : e.birth ≤ never
theorem Ent.text_len (e : Ent) (h : e.In) : e.text.length ≤ 45 + 2 * e.key.length + 2 * e.val.length := by
  have h1 := dd_len20 e.birth (by have := h.birth; unfold never at this; omega)
  have h2 : (txtL e.dl).length ≤ 20 := txt_size e.dl (by have := h.dl; unfold never at this; omega)
  have h3 := hexL_len e.key
  have h4 := hexL_len e.val
  unfold Ent.text
  simp; omega

def numO (l : List UInt8) : Option Nat := match Lib.parseUintB 64 l with | .ok n => some n | _ => none
theorem numO_dd (n : Nat) (h : n ≤ never) : numO (Lib.decDigits n) = some n := by
  unfold numO; rw [uintB_eq, if_neg (dd_ne_nil n), um_digs n h]
theorem numO_le (l : List UInt8) (n : Nat) (h : numO l = some n) : n ≤ never := by
  unfold numO at h
  split at h
  · rename_i m hm; simp at h; subst h; exact uintB_le _ _ hm
  · cases h
/-- The parts that Parse reads. -/
def readE (l : List UInt8) : Option Ent :=
  match numO (cutA l), parseT (cutA (cutZ l)), decL (cutA (cutZ (cutZ l))), decL (cutA (cutZ (cutZ (cutZ l)))) with
  | some b, some d, some k, some v => some ⟨k, v, d, b⟩
  | _, _, _, _ => none
/-- What Parse gives. -/
def parseE (l : List UInt8) : Option Ent := (readE l).bind fun e => if e.fine = true ∧ e.text = l then some e else none
theorem readE_in (l : List UInt8) (e : Ent) (h : readE l = some e) : e.In := by
  unfold readE at h
  split at h
  · rename_i b d k v h1 h2 h3 h4
    simp at h; subst h
    exact ⟨parseT_le _ _ h2, numO_le _ _ h1⟩
  · cases h
theorem parseE_of (l : List UInt8) (e : Ent) (h : parseE l = some e) : e.In ∧ e.fine = true ∧ e.text = l := by
  unfold parseE at h
  cases hr : readE l with
  | none => rw [hr] at h; cases h
  | some x =>
    rw [hr] at h
    simp only [Option.bind_some] at h
    split at h
    · rename_i hh; simp at h; subst h; exact ⟨readE_in l _ hr, hh⟩
    · cases h
theorem readE_text (e : Ent) (h : e.In) : readE e.text = some e := by
  unfold readE
  have a0 : cutA e.text = Lib.decDigits e.birth := cutA_at _ _ (dd_no _)
  have z0 : cutZ e.text = txtL e.dl ++ 32 :: (hexL e.key ++ 32 :: hexL e.val) := cutZ_at _ _ (dd_no _)
  have a1 := cutA_at (txtL e.dl) (hexL e.key ++ 32 :: hexL e.val) (txtL_no _)
  have z1 := cutZ_at (txtL e.dl) (hexL e.key ++ 32 :: hexL e.val) (txtL_no _)
  have a2 := cutA_at (hexL e.key) (hexL e.val) (hexL_no _)
  have z2 := cutZ_at (hexL e.key) (hexL e.val) (hexL_no _)
  have a3 := cutA_all (hexL e.val) (hexL_no _)
  rw [a0, z0, a1, z1, a2, z2, a3, numO_dd _ h.birth, parseT_txt _ h.dl, decL_hexL, decL_hexL]
theorem parseE_text (e : Ent) (h : e.In) (hf : e.fine = true) : parseE e.text = some e := by
  unfold parseE; rw [readE_text e h]; simp [hf]

/-- The parts of a string between spaces. -/
def splitL : List UInt8 → List (List UInt8)
  | [] => [[]]
  | c :: r => if c = 32 then [] :: splitL r else match splitL r with | p :: ps => (c :: p) :: ps | [] => [[c]]
theorem splitL_ne (l : List UInt8) : splitL l ≠ [] := by
  cases l with
  | nil => simp [splitL]
  | cons c r =>
    rw [splitL]
    split
    · simp
    · split <;> simp
def joinL : List (List UInt8) → List UInt8
  | [] => []
  | [p] => p
  | p :: q :: r => p ++ 32 :: joinL (q :: r)
theorem join_split (l : List UInt8) : joinL (splitL l) = l := by
  induction l with
  | nil => rfl
  | cons c r ih =>
    rw [splitL]
    split
    · rename_i h; subst h
      cases hs : splitL r with
      | nil => exact absurd hs (splitL_ne r)
      | cons p ps => rw [joinL, ← hs, ih]; rfl
    · cases hs : splitL r with
      | nil => exact absurd hs (splitL_ne r)
      | cons p ps =>
        rw [hs] at ih
        cases ps with
        | nil => simp only [joinL] at ih ⊢; rw [ih]
        | cons q qs => simp only [joinL] at ih ⊢; rw [List.cons_append, ih]
theorem split_at (p r : List UInt8) (h : ∀ c ∈ p, c ≠ 32) : splitL (p ++ 32 :: r) = p :: splitL r := by
  induction p with
  | nil => simp [splitL]
  | cons c p ih =>
    rw [List.cons_append, splitL, if_neg (h c (by simp)), ih (fun x hx => h x (by simp [hx]))]
theorem split_all (p : List UInt8) (h : ∀ c ∈ p, c ≠ 32) : splitL p = [p] := by
  induction p with
  | nil => rfl
  | cons c p ih => rw [splitL, if_neg (h c (by simp)), ih (fun x hx => h x (by simp [hx]))]
theorem split_snoc_sp (l : List UInt8) : splitL (l ++ [32]) = splitL l ++ [[]] := by
  induction l with
  | nil => rfl
  | cons c r ih =>
    rw [List.cons_append, splitL, splitL, ih]
    split
    · rfl
    · cases hs : splitL r with
      | nil => exact absurd hs (splitL_ne r)
      | cons p ps => rfl
/-- The list with another byte at the end of its last part. -/
def lastAdd (c : UInt8) : List (List UInt8) → List (List UInt8)
  | [] => []
  | [p] => [p ++ [c]]
  | p :: q :: r => p :: lastAdd c (q :: r)
theorem split_snoc (l : List UInt8) (c : UInt8) (h : c ≠ 32) : splitL (l ++ [c]) = lastAdd c (splitL l) := by
  induction l with
  | nil => simp [splitL, h, lastAdd]
  | cons d r ih =>
    rw [List.cons_append, splitL, splitL, ih]
    cases hs : splitL r with
    | nil => exact absurd hs (splitL_ne r)
    | cons p ps =>
      split
      · rfl
      · cases ps with
        | nil => rfl
        | cons q qs => rfl
theorem lastAdd_eq (c : UInt8) (ps : List (List UInt8)) (p : List UInt8) : lastAdd c (ps ++ [p]) = ps ++ [p ++ [c]] := by
  induction ps with
  | nil => rfl
  | cons q qs ih =>
    cases qs with
    | nil => rfl
    | cons a as => rw [List.cons_append] at ih; rw [List.cons_append, List.cons_append, lastAdd, ih]; rfl

/-- The decimal text of the greatest number. -/
def maxL : List UInt8 := [49, 56, 52, 52, 54, 55, 52, 52, 48, 55, 51, 55, 48, 57, 53, 53, 49, 54, 49, 53]
theorem dd_max : Lib.decDigits never = maxL := by
  have h (n m d : Nat) (l : List UInt8) (h10 : ¬ n < 10) (hm : n / 10 = m) (hd : n % 10 = d) (hl : Lib.decDigits m = l) : Lib.decDigits n = l ++ [UInt8.ofNat (48 + d)] := by
    rw [Lib.decDigits, dif_neg h10, hm, hd, hl]
  have b : Lib.decDigits 1 = [49] := by rw [Lib.decDigits, dif_pos (by decide)]; rfl
  have h1 := h 18 1 8 _ (by decide) (by decide) (by decide) b
  have h2 := h 184 18 4 _ (by decide) (by decide) (by decide) h1
  have h3 := h 1844 184 4 _ (by decide) (by decide) (by decide) h2
  have h4 := h 18446 1844 6 _ (by decide) (by decide) (by decide) h3
  have h5 := h 184467 18446 7 _ (by decide) (by decide) (by decide) h4
  have h6 := h 1844674 184467 4 _ (by decide) (by decide) (by decide) h5
  have h7 := h 18446744 1844674 4 _ (by decide) (by decide) (by decide) h6
  have h8 := h 184467440 18446744 0 _ (by decide) (by decide) (by decide) h7
  have h9 := h 1844674407 184467440 7 _ (by decide) (by decide) (by decide) h8
  have h10 := h 18446744073 1844674407 3 _ (by decide) (by decide) (by decide) h9
  have h11 := h 184467440737 18446744073 7 _ (by decide) (by decide) (by decide) h10
  have h12 := h 1844674407370 184467440737 0 _ (by decide) (by decide) (by decide) h11
  have h13 := h 18446744073709 1844674407370 9 _ (by decide) (by decide) (by decide) h12
  have h14 := h 184467440737095 18446744073709 5 _ (by decide) (by decide) (by decide) h13
  have h15 := h 1844674407370955 184467440737095 5 _ (by decide) (by decide) (by decide) h14
  have h16 := h 18446744073709551 1844674407370955 1 _ (by decide) (by decide) (by decide) h15
  have h17 := h 184467440737095516 18446744073709551 6 _ (by decide) (by decide) (by decide) h16
  have h18 := h 1844674407370955161 184467440737095516 1 _ (by decide) (by decide) (by decide) h17
  have h19 := h never 1844674407370955161 5 _ (by decide) (by decide) (by decide) h18
  rw [h19]; rfl

/-- The birth number of the reference. -/
def birthR (p : List UInt8) : Option Nat := if p = maxL then some never else if p = neverL then none else parseT p
theorem birthR_dd (n : Nat) (h : n ≤ never) : birthR (Lib.decDigits n) = some n := by
  unfold birthR
  by_cases e : n = never
  · subst e; rw [if_pos dd_max]
  · have h1 : Lib.decDigits n ≠ maxL := fun hh => by
      have a := um_digs n h
      rw [hh, ← dd_max, um_digs never (Nat.le_refl _)] at a
      injection a with a
      exact e a.symm
    have h2 : Lib.decDigits n ≠ neverL := fun hh => by
      have := dd_digit n 110 (by rw [hh]; decide)
      simp at this
    have h3 : txtL n = Lib.decDigits n := by unfold txtL; rw [if_neg e]
    rw [if_neg h1, if_neg h2, ← h3, parseT_txt n h]
theorem birthR_of (p : List UInt8) (n : Nat) (h : birthR p = some n) : p = Lib.decDigits n ∧ n ≤ never := by
  unfold birthR at h
  split at h
  · rename_i e; simp at h; subst h; exact ⟨by rw [e, dd_max], Nat.le_refl _⟩
  · split at h
    · cases h
    · rename_i e
      have h1 := parseT_eq p n h
      refine ⟨?_, parseT_le p n h⟩
      rw [h1]
      unfold txtL
      split
      · rename_i e2; exact absurd (h1.trans (by unfold txtL; rw [if_pos e2])) e
      · rfl
/-- What the reference's Parse gives. -/
def refE (l : List UInt8) : Option Ent :=
  match splitL l with
  | [p0, p1, p2, p3] =>
    match birthR p0, parseT p1, decL p2, decL p3 with
    | some b, some d, some k, some v => if (Ent.mk k v d b).fine = true then some ⟨k, v, d, b⟩ else none
    | _, _, _, _ => none
  | _ => none
theorem refE_text (e : Ent) (h : e.In) (hf : e.fine = true) : refE e.text = some e := by
  unfold refE
  have s : splitL e.text = [Lib.decDigits e.birth, txtL e.dl, hexL e.key, hexL e.val] := by
    unfold Ent.text
    rw [split_at _ _ (dd_no _), split_at _ _ (txtL_no _), split_at _ _ (hexL_no _), split_all _ (hexL_no _)]
  rw [s]
  simp only [birthR_dd _ h.birth, parseT_txt _ h.dl, decL_hexL]
  rw [if_pos hf]
theorem refE_of (l : List UInt8) (e : Ent) (h : refE l = some e) : e.In ∧ e.fine = true ∧ e.text = l := by
  unfold refE at h
  split at h
  · rename_i p0 p1 p2 p3 hs
    split at h
    · rename_i b d k v h1 h2 h3 h4
      split at h
      · rename_i hf
        simp at h; subst h
        obtain ⟨e0, hb⟩ := birthR_of _ _ h1
        refine ⟨⟨parseT_le _ _ h2, hb⟩, hf, ?_⟩
        have := join_split l
        rw [hs] at this
        unfold Ent.text
        simp only
        rw [← e0, ← parseT_eq _ _ h2, ← hexL_decL _ _ h3, ← hexL_decL _ _ h4]
        simpa [joinL] using this
      · cases h
    · cases h
  · cases h
theorem refE_eq (l : List UInt8) : refE l = parseE l := by
  cases h : refE l with
  | some e =>
    obtain ⟨h1, h2, h3⟩ := refE_of l e h
    rw [← h3, parseE_text e h1 h2]
  | none =>
    cases h' : parseE l with
    | none => rfl
    | some e =>
      obtain ⟨h1, h2, h3⟩ := parseE_of l e h'
      rw [← h3, refE_text e h1 h2] at h
      cases h
end Go.Proofs.YtapngkjgagapeaaDoor
