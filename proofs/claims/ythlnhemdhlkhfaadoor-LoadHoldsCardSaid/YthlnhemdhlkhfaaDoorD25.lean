import Derived.Test.YthlnhemdhlkhfaaDoorD24
/- The reference's Parse. -/
namespace Go.Proofs.YthlnhemdhlkhfaaDoor
open Go.RowKit

/-- A number that is read, what stands behind it, whether there is one. -/
structure AR where
  n : Nat
  r : ByteArray
  b : Bool
def AR.v (t : AR) : Value := .tuple #[.int .u64 t.n, .string t.r, .bool t.b]
def numT (s : ByteArray) : AR := match numG s.data.toList 0 with
  | none => ⟨0, ⟨#[]⟩, false⟩
  | some (n, r) => ⟨n, ⟨r.toArray⟩, decide (r.length < s.size)⟩
def aft (s wd : ByteArray) : AR := if s.size < wd.size ∨ s.extract 0 wd.size ≠ wd then ⟨0, ⟨#[]⟩, false⟩ else numT (s.extract wd.size s.size)
theorem numV_T (s : ByteArray) : numV s = (numT s).v := by
  unfold numV numT
  cases numG s.data.toList 0 with
  | none => rfl
  | some q => rfl
theorem aft_v (s wd : ByteArray) : aftV s wd = (aft s wd).v := by
  unfold aftV aft
  split
  · rfl
  · exact numV_T _
theorem numG_len : ∀ (l : List UInt8) (m n : Nat) (r : List UInt8), numG l m = some (n, r) → r.length ≤ l.length
  | [], m, n, r, h => by simp only [numG, Option.some.injEq, Prod.mk.injEq] at h; rw [← h.2]; exact Nat.le_refl _
  | c :: l, m, n, r, h => by
    simp only [numG] at h
    split at h
    · split at h
      · cases h
      · have := numG_len l _ n r h; simp; omega
    · simp only [Option.some.injEq, Prod.mk.injEq] at h; rw [← h.2]; exact Nat.le_refl _
theorem aft_len (s wd : ByteArray) : (aft s wd).r.size ≤ s.size := by
  unfold aft
  split
  · exact Nat.zero_le _
  · unfold numT
    split
    · exact Nat.zero_le _
    · rename_i n r h
      have h1 := numG_len _ _ _ _ h
      have h2 : (s.extract wd.size s.size).data.toList.length = (s.extract wd.size s.size).size := rfl
      rw [h2, ByteArray.size_extract] at h1
      show r.toArray.size ≤ _
      simp; omega
theorem aft_of {s wd : ByteArray} {n : Nat} {r : ByteArray} {b : Bool} (h : aftV s wd = .tuple #[.int .u64 n, .string r, .bool b]) : aft s wd = ⟨n, r, b⟩ := by
  rw [aft_v] at h
  unfold AR.v at h
  simp only [Value.tuple.injEq, Array.mk.injEq, List.cons.injEq, Value.int.injEq, Value.string.injEq, Value.bool.injEq, true_and, and_true] at h
  obtain ⟨h1, h2, h3⟩ := h
  generalize aft s wd = t at *
  obtain ⟨n', r', b'⟩ := t
  dsimp only at h1 h2 h3
  subst h2 h3
  congr 1
  omega
/-- What the reference reads of a text. -/
theorem chain {k a r p x : Nat} (V : Vld k a r p x) : aft (textB k a r p x) (wordB k ++ kP) = ⟨a, rP ++ (digs r ++ (pP ++ (digs p ++ (sP ++ digs x)))), true⟩ ∧
    aft (rP ++ (digs r ++ (pP ++ (digs p ++ (sP ++ digs x))))) rP = ⟨r, pP ++ (digs p ++ (sP ++ digs x)), true⟩ ∧ aft (pP ++ (digs p ++ (sP ++ digs x))) pP = ⟨p, sP ++ digs x, true⟩ ∧ aft (sP ++ digs x) sP = ⟨x, ⟨#[]⟩, true⟩ := by
  have h1 := V.s64; have h3 := V.a2; have h4 := V.r2
  have hp6 : p ≤ 4096 := by rcases V.k6 with h | h | h | h | h | h <;> omega
  have sp : ∀ (t : ByteArray) (q : ByteArray) (l : List UInt8), q.data.toList = 32 :: l → ∃ l2, (q ++ t).data.toList = 32 :: l2 := fun t q l h => ⟨l ++ t.data.toList, by rw [ByteArray.data_append, Array.toList_append, h]; rfl⟩
  refine ⟨?_, ?_, ?_, ?_⟩
  · apply aft_of
    rw [text_cut, aft_yes]
    exact numV_stop a (by unfold never; omega) 32 _ (by decide) (sp _ rP _ rfl)
  · apply aft_of
    rw [aft_yes]
    exact numV_stop r (by unfold never; omega) 32 _ (by decide) (sp _ pP _ rfl)
  · apply aft_of
    rw [aft_yes]
    exact numV_stop p (by unfold never; omega) 32 _ (by decide) (sp _ sP _ rfl)
  · apply aft_of
    rw [aft_yes]
    exact numV_end x (by unfold never; omega)
end Go.Proofs.YthlnhemdhlkhfaaDoor
