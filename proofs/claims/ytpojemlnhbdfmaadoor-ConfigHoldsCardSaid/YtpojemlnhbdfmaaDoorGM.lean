import Derived.Test.YtpojemlnhbdfmaaDoorTM
import Derived.Test.YtpojemlnhbdfmaaDoorCUM
import Derived.Lib.AtoiAllCases
import Derived.Lib.Fields
import Derived.Lib.SpaceU
import Derived.Lib.IndexMore
import Derived.Lib.ParseIntBCases
import Derived.Shelf.Strings.FieldsAny
/- Plain laws of configurations: their texts, what is read from a text, and the numbers in it. -/
namespace Go.Proofs.YtpojemlnhbdfmaaDoor

/-- A configuration. -/
structure Cfg where
  cnt : Int
  byt : Int
  prot : Int
  seed : Nat
  same : Bool
deriving DecidableEq
def Cfg.zero : Cfg := ⟨0, 0, 0, 0, false⟩
/-- The error of the first part that is not allowed. -/
def chk3 (a b p : Int) : Int := if a < 1 ∨ 1048576 < a then 240 else if b < 1 ∨ 1099511627776 < b then 241 else if p < 0 ∨ 99 < p then 242 else 0
def chkC (c : Cfg) : Int := chk3 c.cnt c.byt c.prot
theorem chk3_0 {a b p : Int} (h : chk3 a b p = 0) : 1 ≤ a ∧ a ≤ 1048576 ∧ 1 ≤ b ∧ b ≤ 1099511627776 ∧ 0 ≤ p ∧ p ≤ 99 := by
  unfold chk3 at h
  split at h
  · simp at h
  · split at h
    · simp at h
    · split at h
      · simp at h
      · omega
theorem chk0 {c : Cfg} (h : chkC c = 0) : 1 ≤ c.cnt ∧ c.cnt ≤ 1048576 ∧ 1 ≤ c.byt ∧ c.byt ≤ 1099511627776 ∧ 0 ≤ c.prot ∧ c.prot ≤ 99 := by
  unfold chkC chk3 at h
  split at h
  · simp at h
  · split at h
    · simp at h
    · split at h
      · simp at h
      · omega
def itoaL (z : Int) : List UInt8 := Lib.itoa z
def sameL (b : Bool) : List UInt8 := if b then [32, 115, 97, 109, 101, 61, 121, 101, 115] else [32, 115, 97, 109, 101, 61, 110, 111]
def wCount : List UInt8 := [99, 111, 117, 110, 116]
def wBytes : List UInt8 := [98, 121, 116, 101, 115]
def wProt : List UInt8 := [112, 114, 111, 116, 101, 99, 116, 101, 100]
def wSeed : List UInt8 := [115, 101, 101, 100]
def wSame : List UInt8 := [115, 97, 109, 101]
def wYes : List UInt8 := [121, 101, 115]
def wNo : List UInt8 := [110, 111]
/-- The text of a configuration. -/
def textC (c : Cfg) : List UInt8 :=
  (wCount ++ 61 :: itoaL c.cnt) ++ 32 :: ((wBytes ++ 61 :: itoaL c.byt) ++ 32 :: ((wProt ++ 61 :: itoaL c.prot) ++ 32 :: ((wSeed ++ 61 :: Lib.decDigits c.seed) ++ 32 :: (wSame ++ 61 :: (if c.same then wYes else wNo)))))

def atoiV (l : List UInt8) : Int := match Lib.atoiAll l with | .ok v => v | .range => Lib.atoiSat l | _ => 0
def uintV (l : List UInt8) : Nat := match Lib.parseUintB 64 l with | .ok v => v | .range => 18446744073709551615 | _ => 0
/-- What a part of a text sets. -/
def stepC (c : Cfg) (p : List UInt8) : Cfg :=
  let w := cA 61 p
  let v := cZ 61 p
  let c := if wCount = w then { c with cnt := atoiV v } else c
  let c := if wBytes = w then { c with byt := atoiV v } else c
  let c := if wProt = w then { c with prot := atoiV v } else c
  if w = wSeed then { c with seed := uintV v } else if w = wSame then { c with same := decide (v = wYes) } else c
def foldC (c : Cfg) (l : List (List UInt8)) : Cfg := l.foldl stepC c
def readC (l : List UInt8) : Cfg := foldC .zero (Lib.fieldsD l)
/-- The configuration with a text. -/
def parseC (l : List UInt8) : Option Cfg := if chkC (readC l) = 0 ∧ textC (readC l) = l then some (readC l) else none

theorem itoa_nat (n : Nat) : itoaL n = Lib.decDigits n := by
  unfold itoaL Lib.itoa
  rw [if_neg (by omega), Int.toNat_natCast]
theorem itoa_pos (z : Int) (h : 0 ≤ z) : itoaL z = Lib.decDigits z.toNat := by
  obtain ⟨n, rfl⟩ := Int.eq_ofNat_of_zero_le h
  rw [itoa_nat, Int.toNat_natCast]
theorem itoa_digit (z : Int) : ∀ c ∈ itoaL z, c.toNat = 45 ∨ 48 ≤ c.toNat ∧ c.toNat ≤ 57 := by
  unfold itoaL Lib.itoa
  intro c hc
  split at hc
  · rcases List.mem_cons.1 hc with rfl | h
    · exact Or.inl rfl
    · exact Or.inr (dd_digit _ c h)
  · exact Or.inr (dd_digit _ c hc)

/-- Bytes that stand in no space and are no equals sign. -/
def Word (l : List UInt8) : Prop := ∀ c ∈ l, c.toNat < 128 ∧ Lib.isSp c = false
theorem sp_no (c : UInt8) (h : 32 < c.toNat ∧ c.toNat < 128) : c.toNat < 128 ∧ Lib.isSp c = false := by
  refine ⟨h.2, ?_⟩
  unfold Lib.isSp
  simp only [Bool.or_eq_false_iff, beq_eq_false_iff_ne]
  refine ⟨⟨⟨⟨⟨?_, ?_⟩, ?_⟩, ?_⟩, ?_⟩, ?_⟩ <;> (intro e; subst e; revert h; decide)
theorem word_dec (n : Nat) : Word (Lib.decDigits n) := fun c hc => sp_no c (by have := dd_digit n c hc; omega)
theorem word_itoa (z : Int) : Word (itoaL z) := fun c hc => sp_no c (by have := itoa_digit z c hc; omega)
theorem word_app {a b : List UInt8} (ha : Word a) (hb : Word b) : Word (a ++ b) := fun c hc => by
  rcases List.mem_append.1 hc with h | h
  · exact ha c h
  · exact hb c h
theorem word_cons {x : UInt8} {b : List UInt8} (hx : 32 < x.toNat ∧ x.toNat < 128) (hb : Word b) : Word (x :: b) := fun c hc => by
  rcases List.mem_cons.1 hc with rfl | h
  · exact sp_no _ hx
  · exact hb c h
theorem fields_word (l r : List UInt8) (h : Word l) : ∀ cur, (cur ++ l) ≠ [] → Lib.fieldsGo cur (l ++ 32 :: r) = (cur ++ l) :: Lib.fieldsGo [] r := by
  induction l with
  | nil =>
    intro cur hc
    simp only [List.append_nil, List.nil_append] at hc ⊢
    rw [Lib.fieldsGo, if_pos (by decide), if_neg (by simpa using hc)]
  | cons x l ih =>
    intro cur _
    rw [List.cons_append, Lib.fieldsGo, if_neg (by rw [(h x (by simp)).2]; decide), ih (fun c hc => h c (by simp [hc])) (cur ++ [x]) (by simp)]
    simp
theorem fields_last (l : List UInt8) (h : Word l) : ∀ cur, (cur ++ l) ≠ [] → Lib.fieldsGo cur l = [cur ++ l] := by
  induction l with
  | nil =>
    intro cur hc
    simp only [List.append_nil] at hc ⊢
    rw [Lib.fieldsGo, if_neg (by simpa using hc)]
  | cons x l ih =>
    intro cur _
    rw [Lib.fieldsGo, if_neg (by rw [(h x (by simp)).2]; decide), ih (fun c hc => h c (by simp [hc])) (cur ++ [x]) (by simp)]
    simp

def pCount (c : Cfg) : List UInt8 := wCount ++ 61 :: itoaL c.cnt
def pBytes (c : Cfg) : List UInt8 := wBytes ++ 61 :: itoaL c.byt
def pProt (c : Cfg) : List UInt8 := wProt ++ 61 :: itoaL c.prot
def pSeed (c : Cfg) : List UInt8 := wSeed ++ 61 :: Lib.decDigits c.seed
def pSame (c : Cfg) : List UInt8 := wSame ++ 61 :: (if c.same then wYes else wNo)
theorem text_eq (c : Cfg) : textC c = pCount c ++ 32 :: (pBytes c ++ 32 :: (pProt c ++ 32 :: (pSeed c ++ 32 :: pSame c))) := rfl
theorem word_lit (l : List UInt8) (h : (l.all fun c => decide (32 < c.toNat ∧ c.toNat < 128)) = true) : Word l := fun c hc => sp_no c (by
  have := List.all_eq_true.1 h c hc
  exact of_decide_eq_true this)
theorem word_pCount (c : Cfg) : Word (pCount c) := word_app (word_lit _ rfl) (word_cons (by decide) (word_itoa _))
theorem word_pBytes (c : Cfg) : Word (pBytes c) := word_app (word_lit _ rfl) (word_cons (by decide) (word_itoa _))
theorem word_pProt (c : Cfg) : Word (pProt c) := word_app (word_lit _ rfl) (word_cons (by decide) (word_itoa _))
theorem word_pSeed (c : Cfg) : Word (pSeed c) := word_app (word_lit _ rfl) (word_cons (by decide) (word_dec _))
theorem word_pSame (c : Cfg) : Word (pSame c) := word_app (word_lit _ rfl) (word_cons (by decide) (by split <;> exact word_lit _ rfl))
theorem text_ascii (c : Cfg) : ∀ b ∈ textC c, b.toNat < 128 := by
  intro b hb
  rw [text_eq] at hb
  simp only [List.mem_append, List.mem_cons] at hb
  rcases hb with h | rfl | h | rfl | h | rfl | h | rfl | h
  · exact (word_pCount c b h).1
  · decide
  · exact (word_pBytes c b h).1
  · decide
  · exact (word_pProt c b h).1
  · decide
  · exact (word_pSeed c b h).1
  · decide
  · exact (word_pSame c b h).1
theorem fields_text (c : Cfg) : Lib.fieldsD (textC c) = [pCount c, pBytes c, pProt c, pSeed c, pSame c] := by
  rw [Lib.fieldsD_ascii _ (text_ascii c), text_eq, Lib.fields,
    fields_word _ _ (word_pCount c) [] (by simp [pCount]), fields_word _ _ (word_pBytes c) [] (by simp [pBytes]), fields_word _ _ (word_pProt c) [] (by simp [pProt]),
    fields_word _ _ (word_pSeed c) [] (by simp [pSeed]), fields_last _ (word_pSame c) [] (by simp [pSame])]
  rfl

theorem uint_digs (n : Nat) (h : n ≤ never) : uintV (Lib.decDigits n) = n := by
  unfold uintV
  rw [uintB_eq, if_neg (dd_ne_nil n), um_digs n h]
theorem atoi_digs (n : Nat) (h : n ≤ 9223372036854775807) : atoiV (Lib.decDigits n) = n := by
  unfold atoiV
  have hd := dd_digit n
  have hu : Lib.parseMag (Lib.decDigits n) = .ok n := by
    rw [← Lib.parseUintB_64, uintB_eq, if_neg (dd_ne_nil n), um_digs n (by unfold never; omega)]
  cases hl : Lib.decDigits n with
  | nil => exact absurd hl (dd_ne_nil n)
  | cons c r =>
    have hc := hd c (by rw [hl]; simp)
    rw [Lib.atoiAll_plain c r (by omega) (by omega), ← hl, hu]
    simp only [Lib.signless]
    rw [if_neg (by omega)]
theorem atoi_itoa (z : Int) (h0 : 0 ≤ z) (h : z ≤ 9223372036854775807) : atoiV (itoaL z) = z := by
  rw [itoa_pos z h0, atoi_digs _ (by omega)]; omega

theorem step_cut (c : Cfg) (w v : List UInt8) (h : ∀ x ∈ w, x ≠ 61) : stepC c (w ++ 61 :: v) =
    (let c := if wCount = w then { c with cnt := atoiV v } else c
     let c := if wBytes = w then { c with byt := atoiV v } else c
     let c := if wProt = w then { c with prot := atoiV v } else c
     if w = wSeed then { c with seed := uintV v } else if w = wSame then { c with same := decide (v = wYes) } else c) := by
  unfold stepC; rw [cA_at _ _ _ h, cZ_at _ _ _ h]
theorem read_text (c : Cfg) (h : chkC c = 0) (hs : c.seed ≤ never) : readC (textC c) = c := by
  obtain ⟨h1, h2, h3, h4, h5, h6⟩ := chk0 h
  obtain ⟨cnt, byt, prot, seed, same⟩ := c
  simp only at h1 h2 h3 h4 h5 h6 hs
  unfold readC foldC
  rw [fields_text]
  simp only [List.foldl_cons, List.foldl_nil, pCount, pBytes, pProt, pSeed, pSame]
  rw [step_cut _ wCount _ (by decide), step_cut _ wBytes _ (by decide), step_cut _ wProt _ (by decide), step_cut _ wSeed _ (by decide), step_cut _ wSame _ (by decide)]
  simp only [atoi_itoa cnt (by omega) (by omega), atoi_itoa byt (by omega) (by omega), atoi_itoa prot (by omega) (by omega), uint_digs seed hs]
  cases same <;> rfl
theorem parse_text (c : Cfg) (h : chkC c = 0) (hs : c.seed ≤ never) : parseC (textC c) = some c := by
  unfold parseC
  rw [read_text c h hs, if_pos ⟨h, rfl⟩]
theorem uintV_le (l : List UInt8) : uintV l ≤ never := by
  unfold uintV
  rw [uintB_eq]
  split
  · rename_i v h
    split at h
    · cases h
    · exact um_le _ _ _ (by decide) h
  · decide
  · decide
theorem step_seed (c : Cfg) (p : List UInt8) (h : c.seed ≤ never) : (stepC c p).seed ≤ never := by
  have e1 : ∀ (d : Cfg), d.seed ≤ never → (if cA 61 p = wSeed then { d with seed := uintV (cZ 61 p) } else if cA 61 p = wSame then { d with same := decide (cZ 61 p = wYes) } else d).seed ≤ never := fun d hd => by
    split
    · exact uintV_le _
    · split <;> exact hd
  refine e1 _ ?_
  have e2 : ∀ (b : Prop) [Decidable b] (d e : Cfg), d.seed ≤ never → e.seed ≤ never → (if b then d else e).seed ≤ never := by
    intro b _ d e hd he
    split
    · exact hd
    · exact he
  have a1 := e2 (wCount = cA 61 p) { c with cnt := atoiV (cZ 61 p) } c h h
  generalize (if wCount = cA 61 p then { c with cnt := atoiV (cZ 61 p) } else c) = c1 at *
  have a2 := e2 (wBytes = cA 61 p) { c1 with byt := atoiV (cZ 61 p) } c1 a1 a1
  generalize (if wBytes = cA 61 p then { c1 with byt := atoiV (cZ 61 p) } else c1) = c2 at *
  exact e2 (wProt = cA 61 p) { c2 with prot := atoiV (cZ 61 p) } c2 a2 a2
theorem fold_seed (l : List (List UInt8)) : ∀ c : Cfg, c.seed ≤ never → (foldC c l).seed ≤ never := by
  induction l with
  | nil => intro c h; exact h
  | cons p l ih => intro c h; exact ih _ (step_seed c p h)
def Bds (c : Cfg) : Prop := (-9223372036854775808 ≤ c.cnt ∧ c.cnt ≤ 9223372036854775807) ∧ (-9223372036854775808 ≤ c.byt ∧ c.byt ≤ 9223372036854775807) ∧ (-9223372036854775808 ≤ c.prot ∧ c.prot ≤ 9223372036854775807)
theorem atoi_bds (l : List UInt8) : -9223372036854775808 ≤ atoiV l ∧ atoiV l ≤ 9223372036854775807 := by
  unfold atoiV
  split
  · rename_i v h; exact Lib.atoiAll_bounds h
  · unfold Lib.atoiSat; split <;> decide
  · decide
theorem step_bds (c : Cfg) (p : List UInt8) (h : Bds c) : Bds (stepC c p) := by
  have hv := atoi_bds (cZ 61 p)
  have e1 : ∀ (d : Cfg), Bds d → Bds (if cA 61 p = wSeed then { d with seed := uintV (cZ 61 p) } else if cA 61 p = wSame then { d with same := decide (cZ 61 p = wYes) } else d) := fun d hd => by
    split
    · exact hd
    · split <;> exact hd
  refine e1 _ ?_
  have e2 : ∀ (b : Prop) [Decidable b] (d e : Cfg), Bds d → Bds e → Bds (if b then d else e) := by
    intro b _ d e hd he
    split
    · exact hd
    · exact he
  have a1 := e2 (wCount = cA 61 p) { c with cnt := atoiV (cZ 61 p) } c ⟨hv, h.2⟩ h
  generalize (if wCount = cA 61 p then { c with cnt := atoiV (cZ 61 p) } else c) = c1 at *
  have a2 := e2 (wBytes = cA 61 p) { c1 with byt := atoiV (cZ 61 p) } c1 ⟨a1.1, hv, a1.2.2⟩ a1
  generalize (if wBytes = cA 61 p then { c1 with byt := atoiV (cZ 61 p) } else c1) = c2 at *
  exact e2 (wProt = cA 61 p) { c2 with prot := atoiV (cZ 61 p) } c2 ⟨a2.1, a2.2.1, hv⟩ a2
theorem fold_bds (l : List (List UInt8)) : ∀ c : Cfg, Bds c → Bds (foldC c l) := by
  induction l with
  | nil => intro c h; exact h
  | cons p l ih => intro c h; exact ih _ (step_bds c p h)
theorem read_seed (l : List UInt8) : (readC l).seed ≤ never := fold_seed _ _ (by decide)
theorem parse_some {l : List UInt8} {c : Cfg} (h : parseC l = some c) : chkC c = 0 ∧ textC c = l ∧ c.seed ≤ never := by
  unfold parseC at h
  split at h
  · rename_i g
    cases h
    exact ⟨g.1, g.2, read_seed l⟩
  · cases h

/-- The numbers in a string, as the reference finds them. -/
def numStep (st : Bool × List Nat) (c : UInt8) : Bool × List Nat :=
  if 48 ≤ c.toNat ∧ c.toNat ≤ 57 then
    let xs := if st.1 then st.2 else st.2 ++ [0]
    (true, xs.set (xs.length - 1) ((10 * xs.getD (xs.length - 1) 0 + (c.toNat - 48)) % 18446744073709551616))
  else (false, st.2)
def numsF (st : Bool × List Nat) (l : List UInt8) : Bool × List Nat := l.foldl numStep st
def numsL (l : List UInt8) : List Nat := (numsF (false, []) l).2
theorem nums_app (st : Bool × List Nat) (a b : List UInt8) : numsF st (a ++ b) = numsF (numsF st a) b := by unfold numsF; rw [List.foldl_append]
theorem nums_no (xs : List Nat) (l : List UInt8) (h : ∀ c ∈ l, c.toNat < 48 ∨ 57 < c.toNat) : ∀ b, l ≠ [] → numsF (b, xs) l = (false, xs) := by
  induction l with
  | nil => intro b h; exact absurd rfl h
  | cons x l ih =>
    intro b _
    have e : numStep (b, xs) x = (false, xs) := by unfold numStep; rw [if_neg (by have := h x (by simp); omega)]
    unfold numsF
    rw [List.foldl_cons, e]
    by_cases hl : l = []
    · subst hl; rfl
    · exact ih (fun c hc => h c (by simp [hc])) false hl
theorem nums_digs (xs : List Nat) (n : Nat) (h : n < 18446744073709551616) : numsF (false, xs) (Lib.decDigits n) = (true, xs ++ [n]) := by
  induction n using Nat.strongRecOn with
  | _ n ih =>
    by_cases h10 : n < 10
    · rw [Lib.decDigits, dif_pos h10]
      have ht : (UInt8.ofNat (48 + n)).toNat = 48 + n := by rw [UInt8.toNat_ofNat']; omega
      unfold numsF
      rw [List.foldl_cons, List.foldl_nil]
      unfold numStep
      rw [if_pos (by rw [ht]; omega), ht]
      simp [List.getD_eq_getElem?_getD]
      omega
    · have ht : (UInt8.ofNat (48 + n % 10)).toNat = 48 + n % 10 := by rw [UInt8.toNat_ofNat']; omega
      rw [dd_ten n (by omega), nums_app, ih (n / 10) (by omega) (by omega)]
      rw [Lib.decDigits, dif_pos (by omega)]
      unfold numsF
      rw [List.foldl_cons, List.foldl_nil]
      unfold numStep
      rw [if_pos (by rw [ht]; omega), ht]
      simp [List.getD_eq_getElem?_getD]
      omega
theorem nums_text (c : Cfg) (h : chkC c = 0) (hs : c.seed ≤ never) : numsL (textC c) = [c.cnt.toNat, c.byt.toNat, c.prot.toNat, c.seed] := by
  obtain ⟨h1, h2, h3, h4, h5, h6⟩ := chk0 h
  unfold never at hs
  have e : textC c = (wCount ++ [61]) ++ (Lib.decDigits c.cnt.toNat ++ ((32 :: wBytes ++ [61]) ++ (Lib.decDigits c.byt.toNat ++ ((32 :: wProt ++ [61]) ++ (Lib.decDigits c.prot.toNat ++ ((32 :: wSeed ++ [61]) ++ (Lib.decDigits c.seed ++ (32 :: wSame ++ 61 :: (if c.same then wYes else wNo))))))))) := by
    unfold textC
    rw [itoa_pos _ (by omega), itoa_pos _ (by omega), itoa_pos _ h5]
    simp [List.append_assoc]
  rw [e]
  unfold numsL
  rw [nums_app _ (wCount ++ [61]) _,
    nums_no _ (wCount ++ [61]) (by decide) _ (by decide),
    nums_app _ (Lib.decDigits c.cnt.toNat) _,
    nums_digs _ c.cnt.toNat (by omega),
    nums_app _ (32 :: wBytes ++ [61]) _,
    nums_no _ (32 :: wBytes ++ [61]) (by decide) _ (by decide),
    nums_app _ (Lib.decDigits c.byt.toNat) _,
    nums_digs _ c.byt.toNat (by omega),
    nums_app _ (32 :: wProt ++ [61]) _,
    nums_no _ (32 :: wProt ++ [61]) (by decide) _ (by decide),
    nums_app _ (Lib.decDigits c.prot.toNat) _,
    nums_digs _ c.prot.toNat (by omega),
    nums_app _ (32 :: wSeed ++ [61]) _,
    nums_no _ (32 :: wSeed ++ [61]) (by decide) _ (by decide),
    nums_app _ (Lib.decDigits c.seed) _,
    nums_digs _ c.seed (by omega),
    nums_no _ _ (by split <;> decide) _ (by simp)]
  simp
theorem set_all (xs : List Nat) (i v : Nat) (h : ∀ x ∈ xs, x ≤ never) (hv : v ≤ never) : ∀ x ∈ xs.set i v, x ≤ never := fun x hx => by
  rcases List.mem_or_eq_of_mem_set hx with h1 | rfl
  · exact h x h1
  · exact hv
theorem num_le (st : Bool × List Nat) (c : UInt8) (h : ∀ x ∈ st.2, x ≤ never) : ∀ x ∈ (numStep st c).2, x ≤ never := by
  unfold numStep
  split
  · simp only
    refine set_all _ _ _ ?_ ?_
    · split
      · exact h
      · intro x hx
        rcases List.mem_append.1 hx with h1 | h1
        · exact h x h1
        · simp at h1; subst h1; decide
    · have := Nat.mod_lt (10 * (if st.1 = true then st.2 else st.2 ++ [0]).getD ((if st.1 = true then st.2 else st.2 ++ [0]).length - 1) 0 + (c.toNat - 48)) (show 0 < 18446744073709551616 by decide)
      unfold never; omega
  · exact h
theorem nums_le (l : List UInt8) : ∀ st : Bool × List Nat, (∀ x ∈ st.2, x ≤ never) → ∀ x ∈ (numsF st l).2, x ≤ never := by
  induction l with
  | nil => intro st h; exact h
  | cons c l ih => intro st h; exact ih _ (num_le st c h)

def mkC (a b p s : Nat) (t : Bool) : Cfg := ⟨a, b, p, s, t⟩
def okC (c : Cfg) (l : List UInt8) : Prop := chkC c = 0 ∧ textC c = l
instance (c : Cfg) (l : List UInt8) : Decidable (okC c l) := by unfold okC; exact inferInstance
/-- What the reference parses. -/
def refC (l : List UInt8) : Option Cfg :=
  match numsL l with
  | [a, b, p, s] => if a ≤ 1048576 ∧ b ≤ 1099511627776 ∧ p ≤ 99 then (if okC (mkC a b p s false) l then some (mkC a b p s false) else if okC (mkC a b p s true) l then some (mkC a b p s true) else none) else none
  | _ => none
theorem text_two (a b p : Int) (s : Nat) : textC ⟨a, b, p, s, true⟩ ≠ textC ⟨a, b, p, s, false⟩ := by
  intro e
  have := congrArg List.length e
  simp [textC, wYes, wNo] at this
theorem refC_eq (l : List UInt8) : refC l = parseC l := by
  apply Option.ext
  intro c
  constructor
  · intro h
    unfold refC at h
    split at h
    · rename_i a b p s hn
      have hs : s ≤ never := nums_le l (false, []) (by simp) s (by show s ∈ numsL l; rw [hn]; simp)
      split at h
      · split at h
        · rename_i g; cases h; rw [← g.2]; exact parse_text _ g.1 hs
        · split at h
          · rename_i g; cases h; rw [← g.2]; exact parse_text _ g.1 hs
          · cases h
      · cases h
    · cases h
  · intro h
    obtain ⟨h0, ht, hs⟩ := parse_some h
    obtain ⟨h1, h2, h3, h4, h5, h6⟩ := chk0 h0
    have hn := nums_text c h0 hs
    rw [ht] at hn
    unfold refC
    rw [hn]
    simp only
    rw [if_pos (by omega)]
    obtain ⟨cnt, byt, prot, seed, same⟩ := c
    simp only at h1 h2 h3 h4 h5 h6
    have e : ∀ t, mkC cnt.toNat byt.toNat prot.toNat seed t = ⟨cnt, byt, prot, seed, t⟩ := fun t => by
      unfold mkC
      rw [Int.toNat_of_nonneg (by omega), Int.toNat_of_nonneg (by omega), Int.toNat_of_nonneg h5]
    simp only [e]
    cases same
    · rw [if_pos ⟨h0, ht⟩]
    · rw [if_neg (fun g => text_two cnt byt prot seed (ht.trans g.2.symm)), if_pos ⟨h0, ht⟩]
end Go.Proofs.YtpojemlnhbdfmaaDoor
