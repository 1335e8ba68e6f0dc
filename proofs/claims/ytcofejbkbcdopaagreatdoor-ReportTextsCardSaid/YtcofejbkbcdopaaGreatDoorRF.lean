import Derived.Test.YtcofejbkbcdopaaGreatDoorRS
import Derived.Laws.RangeString
/- The fields of a text of bytes below 128, as strings.FieldsFunc gives them. -/
namespace Go.Proofs.YtcofejbkbcdopaaGreatDoor
open Go.Lib
def pR (r : Nat) : Bool := r == 32 || r == 58 || r == 44
theorem pR_sep (c : UInt8) : pR c.toNat = sepB c := by
  have h : ∀ d : UInt8, (c.toNat == d.toNat) = (c == d) := fun d => by
    rw [Bool.eq_iff_iff, beq_iff_eq, beq_iff_eq]
    exact UInt8.toNat_inj
  unfold pR sepB
  rw [← h 32, ← h 58, ← h 44]
  rfl
def pcE (s : ByteArray) (x : Nat × Nat) : List UInt8 := (s.extract x.1 x.2).data.toList
theorem pcE_eq (s : ByteArray) (a b : Nat) : pcE s (a, b) = pieceU s.data.toList a b := by
  unfold pcE pieceU
  rw [extract_data]
theorem drop_at' (s : ByteArray) (k : Nat) (h : k < s.size) : s.data.toList.drop k = s[k] :: s.data.toList.drop (k + 1) := by
  rw [List.drop_eq_getElem_cons (by exact h)]; rfl
theorem spans_fld (s : ByteArray) (hA : ∀ i (h : i < s.size), (s[i]'h).toNat < 128) : ∀ (f pos : Nat) (st : Option Nat) (acc : List (Nat × Nat)), s.size ≤ pos + f → pos ≤ s.size → (∀ a, st = some a → a < pos) →
    (closeSpans s (spansFromP pR s f pos st acc)).map (pcE s) = acc.map (pcE s) ++ fldGo (openPiece s.data.toList st pos) (s.data.toList.drop pos) := by
  have hend : ∀ (f pos : Nat) (st : Option Nat) (acc : List (Nat × Nat)), ¬ pos < s.size → pos ≤ s.size → (∀ a, st = some a → a < pos) → (closeSpans s (spansFromP pR s f pos st acc)).map (pcE s) = acc.map (pcE s) ++ fldGo (openPiece s.data.toList st pos) (s.data.toList.drop pos) := by
    intro f pos st acc h1 h2 h3
    obtain rfl : pos = s.size := by omega
    rw [spansFromP_end _ _ _ _ _ _ h1, List.drop_of_length_le (by exact Nat.le_refl _)]
    cases st with
    | none => simp [closeSpans, openPiece, fldGo]
    | some a =>
      have ha := h3 a rfl
      have hne : pieceU s.data.toList a s.size ≠ [] := by
        intro e
        have := congrArg List.length e
        unfold pieceU at this
        rw [List.length_take, List.length_drop] at this
        have hl : s.data.toList.length = s.size := rfl
        simp at this; omega
      show (acc ++ [(a, s.size)]).map (pcE s) = _
      rw [List.map_append]
      show _ ++ [pcE s (a, s.size)] = _ ++ (if pieceU s.data.toList a s.size = [] then [] else [pieceU s.data.toList a s.size])
      rw [if_neg hne, pcE_eq]
  intro f
  induction f with
  | zero => intro pos st acc h1 h2 h3; exact hend 0 pos st acc (by omega) h2 h3
  | succ f ih =>
    intro pos st acc h1 h2 h3
    by_cases hp : pos < s.size
    · rw [drop_at' s pos hp]
      have hd := decode_ascii s pos hp (hA pos hp)
      have hs := pR_sep (s[pos]'hp)
      unfold spansFromP
      rw [if_pos hp, hd]
      simp only
      rw [hs]
      have h31 := (drop_at' s pos hp)
      show _ = _ ++ (if sepB s[pos] then (if openPiece s.data.toList st pos = [] then fldGo [] (s.data.toList.drop (pos + 1)) else openPiece s.data.toList st pos :: fldGo [] (s.data.toList.drop (pos + 1))) else fldGo (openPiece s.data.toList st pos ++ [s[pos]]) (s.data.toList.drop (pos + 1)))
      cases hsep : sepB (s[pos]'hp) with
      | true =>
        cases st with
        | none =>
          simp only [if_true]
          rw [ih (pos + 1) none acc (by omega) (by omega) (fun a h => by cases h)]
          rfl
        | some a =>
          have ha := h3 a rfl
          have hne : openPiece s.data.toList (some a) pos ≠ [] := by
            intro e
            have := congrArg List.length e
            unfold openPiece pieceU at this
            rw [List.length_take, List.length_drop] at this
            have hl : s.data.toList.length = s.size := rfl
            simp at this; omega
          simp only [if_true]
          rw [ih (pos + 1) none (acc ++ [(a, pos)]) (by omega) (by omega) (fun a h => by cases h), if_neg hne, List.map_append]
          show (acc.map (pcE s) ++ [pcE s (a, pos)]) ++ _ = _
          rw [pcE_eq, List.append_assoc]
          rfl
      | false =>
        simp only [Bool.false_eq_true, if_false]
        cases st with
        | none =>
          simp only
          rw [ih (pos + 1) (some pos) acc (by omega) (by omega) (fun a h => by cases h; omega)]
          congr 2
          show pieceU s.data.toList pos (pos + 1) = [] ++ [s[pos]]
          unfold pieceU
          rw [h31, show pos + 1 - pos = 1 by omega]; rfl
        | some a =>
          have ha := h3 a rfl
          simp only
          rw [ih (pos + 1) (some a) acc (by omega) (by omega) (fun b h => by cases h; omega)]
          congr 2
          show pieceU s.data.toList a (pos + 1) = pieceU s.data.toList a pos ++ [s[pos]]
          have := pieceU_grow s.data.toList a pos 1 (by omega)
          rw [← this, h31]; rfl
    · exact hend (f + 1) pos st acc hp h2 h3
theorem fields_fld (s : ByteArray) (hA : ∀ c ∈ s.data.toList, c.toNat < 128) : (goFieldsP pR s).map (·.data.toList) = fldGo [] s.data.toList := by
  have h := spans_fld s (fun i hi => hA _ (by
    have : s[i]'hi = s.data.toList[i]'hi := rfl
    rw [this]; exact List.getElem_mem _)) s.size 0 none [] (by omega) (by omega) (fun a h => by cases h)
  unfold goFieldsP spansOfP
  rw [List.map_map]
  exact h
theorem bytes_ext {s t : ByteArray} (h : s.data.toList = t.data.toList) : s = t := by
  apply ByteArray.ext; apply Array.ext'; exact h
/-- The fields of a score's line. -/
theorem fields_line (x : Sc) (h : x.ok) : 6 ≤ (goFieldsP pR ⟨x.line.toArray⟩).length ∧ (goFieldsP pR ⟨x.line.toArray⟩)[0]? = some ⟨(kW x.k).toArray⟩ ∧ (goFieldsP pR ⟨x.line.toArray⟩)[2]? = some ⟨(dd x.size).toArray⟩ ∧
    (goFieldsP pR ⟨x.line.toArray⟩)[3]? = some ⟨(dd x.a).toArray⟩ ∧ (goFieldsP pR ⟨x.line.toArray⟩)[5]? = some ⟨(dd x.b).toArray⟩ := by
  have hA : ∀ c ∈ (⟨x.line.toArray⟩ : ByteArray).data.toList, c.toNat < 128 := by
    obtain ⟨q, h1, h2⟩ := line_plain x
    intro c hc
    have hc : c ∈ x.line := by simpa using hc
    rw [h1] at hc
    rcases List.mem_append.1 hc with hc | hc
    · exact (h2 c hc).1
    · simp at hc; subst hc; decide
  have e := fields_fld _ hA
  obtain ⟨q, hq⟩ := fld_line x h
  rw [show (⟨x.line.toArray⟩ : ByteArray).data.toList = x.line from rfl, hq] at e
  generalize goFieldsP pR ⟨x.line.toArray⟩ = L at *
  have hl := congrArg List.length e
  simp at hl
  have at_ : ∀ (i : Nat) (p : List UInt8), (kW x.k :: [97, 116] :: dd x.size :: dd x.a :: [111, 102] :: dd x.b :: q)[i]? = some p → L[i]? = some ⟨p.toArray⟩ := by
    intro i p hp
    rw [← e, List.getElem?_map] at hp
    cases hi : L[i]? with
    | none => rw [hi] at hp; cases hp
    | some z =>
      rw [hi] at hp
      have hz : z.data.toList = p := by simpa using hp
      congr 1
      exact bytes_ext (by rw [hz])
  exact ⟨by omega, at_ 0 _ rfl, at_ 2 _ rfl, at_ 3 _ rfl, at_ 5 _ rfl⟩
theorem afterL_dd (n : Nat) : afterL (dd n) = dd n := afterL_no _ (dd_no n 32 (by decide))
theorem valL_dd (n : Nat) (h : n ≤ 9223372036854775807) : valL (dd n) = n := valL_ok (by rw [afterL_dd]; exact atoi_dd n h)
end Go.Proofs.YtcofejbkbcdopaaGreatDoor
