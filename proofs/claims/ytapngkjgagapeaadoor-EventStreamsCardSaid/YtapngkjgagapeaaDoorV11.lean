import Derived.Test.YtapngkjgagapeaaDoorV10
/- The reference's Parse of a line: its whole contract. -/
namespace Go.Proofs.YtapngkjgagapeaaDoor
open Go.RowKit

def bs (l : List UInt8) : ByteArray := ⟨l.toArray⟩
theorem bs_list (l : List UInt8) : (bs l).data.toList = l := by simp [bs]
theorem bs_size (l : List UInt8) : (bs l).size = l.length := by show l.toArray.size = _; simp
/-- What the reference's Parse gives back. -/
def RPostV (w : World) (o : Option Evt) (e : Ending) (w' : World) : Prop :=
  match o with
  | none => e = .returned (.tuple #[(.agg #[.int .i64 0, .string ⟨#[]⟩, .slice none 0 0, .int .u64 0, .int .u64 0, .int .u64 0]), .bool false]) ∧ Ext w w'
  | some x => ∃ v', e = .returned (.tuple #[.agg #[.int .i64 x.kind, .string (bs x.e.key), v', .int .u64 x.e.birth, .int .u64 x.e.dl, .int .u64 x.now], .bool true]) ∧ By w' v' x.e.val ∧ Ext w w'
theorem split_len : ∀ l : List UInt8, ∀ p ∈ splitL l, p.length ≤ l.length := by
  intro l
  induction l with
  | nil => intro p hp; simp [splitL] at hp; subst hp; simp
  | cons c r ih =>
    intro p hp
    rw [splitL] at hp
    split at hp
    · rcases List.mem_cons.1 hp with rfl | h
      · simp
      · have := ih p h; simp; omega
    · split at hp
      · rename_i q qs he
        rcases List.mem_cons.1 hp with rfl | h
        · have := ih q (by rw [he]; simp); simp; omega
        · have := ih p (by rw [he]; simp [h]); simp; omega
      · simp at hp; subst hp; simp
theorem six (l : List (List UInt8)) (h : l.length = 6) : ∃ p0 p1 p2 p3 p4 p5, l = [p0, p1, p2, p3, p4, p5] := by
  match l, h with
  | [a, b, c, d, e, f], _ => exact ⟨a, b, c, d, e, f, rfl⟩
theorem ok_fine (k : Nat) (key val : List UInt8) (d b t : Nat) : okV (k : Int) key.length val.length b d t = Evt.fine ⟨k, ⟨key, val, d, b⟩, t⟩ := by
  have h1 : kB (k : Int) = (decide (1 ≤ k) && decide (k ≤ 5)) := by
    unfold kB
    rw [Bool.eq_iff_iff]
    simp only [Bool.and_eq_true, decide_eq_true_eq]
    omega
  have h2 : fineN key.length val.length b = Ent.fine ⟨key, val, d, b⟩ := by
    unfold fineN
    rw [Bool.eq_iff_iff, fine_chk]
    simp
  have h3 : decide ((k : Int) = 1) = decide (k = 1) := decide_eq_decide.2 (by omega)
  unfold okV Evt.fine
  rw [h1, h2, h3]
theorem word_eq (k : Nat) (p : List UInt8) (h1 : 1 ≤ k) (h5 : k ≤ 5) : ((wordS k).toList == (bs p).toList) = decide (k = kindL p) := by
  have e : ((wordS k).toList == (bs p).toList) = (wordV k == p) := by
    unfold wordS bs
    rw [Lib.toList_data, Lib.toList_data]
  rw [e, Bool.eq_iff_iff, beq_iff_eq, decide_eq_true_eq]
  constructor
  · intro h; rw [← h, kindL_word k h5]
  · intro h
    rw [h]
    exact word_kind p (by omega)
theorem bytes_post (s : ByteArray) (w : World) (hs : s.size ≤ 1000000) : Calls Tryd.prog 39 #[.string s] w (ByPost (bytesN s.data.toList) w) :=
  (rbytes22_any s w hs).mono fun e w' ⟨v, he, ho, hx⟩ => by
    obtain ⟨a, c, rfl⟩ := ho.shape
    have hl := bytesN_len s.data.toList.length s.data.toList (Nat.le_refl _)
    have h2 : s.data.toList.length = s.size := rfl
    exact ⟨a, c, he, ho.by (by omega), hx⟩
theorem refV_six (l : List UInt8) (p0 p1 p2 p3 p4 p5 : List UInt8) (h : splitL l = [p0, p1, p2, p3, p4, p5]) :
    refV l = if Evt.fine ⟨kindL p1, ⟨bytesN p4, bytesN p5, timeN p3, numN p2⟩, timeN p0⟩ = true ∧ Evt.text ⟨kindL p1, ⟨bytesN p4, bytesN p5, timeN p3, numN p2⟩, timeN p0⟩ = l then some ⟨kindL p1, ⟨bytesN p4, bytesN p5, timeN p3, numN p2⟩, timeN p0⟩ else none := by
  unfold refV candV
  rw [h]
  rfl
theorem refV_len (l : List UInt8) (h : (splitL l).length ≠ 6) : refV l = none := by
  unfold refV candV
  split
  · rename_i hp; rw [hp] at h; exact absurd rfl h
  · rfl
theorem rvparse_any (s : ByteArray) (w : World) (hs : s.size ≤ 200000) : Calls Tryd.prog 12 #[.string s] w (RPostV w (parseV s.data.toList)) := by
  rw [← refV_eq]
  by_cases h6 : (splitL s.data.toList).length = 6
  · obtain ⟨p0, p1, p2, p3, p4, p5, hsp⟩ := six _ h6
    have hl : ∀ p ∈ splitL s.data.toList, p.length ≤ 200000 := fun p hp => Nat.le_trans (split_len _ p hp) hs
    rw [hsp] at hl
    have b0 : (bs p0).size ≤ 200000 := by rw [bs_size]; exact hl _ (by simp)
    have b2 : (bs p2).size ≤ 200000 := by rw [bs_size]; exact hl _ (by simp)
    have b3 : (bs p3).size ≤ 200000 := by rw [bs_size]; exact hl _ (by simp)
    have b4 : (bs p4).size ≤ 200000 := by rw [bs_size]; exact hl _ (by simp)
    have b5 : (bs p5).size ≤ 200000 := by rw [bs_size]; exact hl _ (by simp)
    have n4 := bytesN_len p4.length p4 (Nat.le_refl _)
    have n5 := bytesN_len p5.length p5 (Nat.le_refl _)
    rw [bs_size] at b4 b5
    have m2 := numN_le p2
    have m3 := timeN_le p3
    have m0 := timeN_le p0
    unfold never at m0 m2 m3
    have hq := kindL_le p1
    have cX : Box (Evt.fine ⟨kindL p1, ⟨bytesN p4, bytesN p5, timeN p3, numN p2⟩, timeN p0⟩ = true → ∀ (a : Option Addr) (c : Nat) (w : World), By w (.slice a (bytesN p5).length c) (bytesN p5) → Calls Tryd.prog 18 #[Value.agg #[.int .i64 ((kindL p1 : Nat) : Int), .string (bs (bytesN p4)), .slice a (bytesN p5).length c, .int .u64 ((numN p2 : Nat) : Int), .int .u64 ((timeN p3 : Nat) : Int), .int .u64 ((timeN p0 : Nat) : Int)]] w fun e w' => e = .returned (.string (bs (Evt.text ⟨kindL p1, ⟨bytesN p4, bytesN p5, timeN p3, numN p2⟩, timeN p0⟩))) ∧ Ext w w') := ⟨fun hf a c w hv => by
      obtain ⟨k1, k5, _⟩ := Evt.fine_k hf
      have h := rvtext_any (kindL p1) (bs (bytesN p4)) a (bytesN p5) c (numN p2) (timeN p3) (timeN p0) w k1 k5 (by rw [bs_size]; omega) (by omega) (by omega) (by omega) (by omega) hv
      rw [bs_list] at h
      exact h⟩
    have hmain := rvp_six s w (bs p0) (bs p1) (bs p2) (bs p3) (bs p4) (bs p5) (bs (bytesN p4)) (timeN p0) (numN p2) (timeN p3) (kindL p1) (bytesN p4) (bytesN p5) rfl (bs (Evt.text ⟨kindL p1, ⟨bytesN p4, bytesN p5, timeN p3, numN p2⟩, timeN p0⟩)) (Evt.fine ⟨kindL p1, ⟨bytesN p4, bytesN p5, timeN p3, numN p2⟩, timeN p0⟩) _ hq
      ⟨(rsplit_any s _ hs).mono fun e w' ⟨v, he, ho, hx⟩ => ⟨v, he, by rw [hsp] at ho; simpa [strs, bs] using ho, hx⟩⟩
      ⟨fun w => by have h := timeR_any (bs p0) w (by omega); rw [bs_list] at h; exact h⟩
      ⟨fun w => by have h := number_any' (bs p2) w (by omega); rw [bs_list] at h; exact h⟩
      ⟨fun w => by have h := timeR_any (bs p3) w (by omega); rw [bs_list] at h; exact h⟩
      ⟨fun w => by have h := bytes_post (bs p4) w (by rw [bs_size]; omega); rw [bs_list] at h; exact h⟩
      ⟨fun w => by have h := bytes_post (bs p5) w (by rw [bs_size]; omega); rw [bs_list] at h; exact h⟩
      ⟨fun k h1 h5 => word_eq k p1 h1 h5⟩
      ⟨fun a c w => by
        have h := rvalid_any (kindL p1 : Int) (bs (bytesN p4)) a (bytesN p5).length c (numN p2) (timeN p3) (timeN p0) w (by rw [bs_size]; omega) (by omega) (by omega) (by omega)
        rw [bs_size, ok_fine] at h
        exact h⟩ cX rfl
    refine hmain.mono fun e w' hp => ?_
    rw [refV_six _ p0 p1 p2 p3 p4 p5 hsp]
    have ht : ((bs (Evt.text ⟨kindL p1, ⟨bytesN p4, bytesN p5, timeN p3, numN p2⟩, timeN p0⟩)).toList == s.toList) = decide (Evt.text ⟨kindL p1, ⟨bytesN p4, bytesN p5, timeN p3, numN p2⟩, timeN p0⟩ = s.data.toList) := by
      rw [Lib.toList_data, Lib.toList_data, bs_list, Bool.eq_iff_iff]
      simp
    rw [ht] at hp
    by_cases hc : Evt.fine ⟨kindL p1, ⟨bytesN p4, bytesN p5, timeN p3, numN p2⟩, timeN p0⟩ = true ∧ Evt.text ⟨kindL p1, ⟨bytesN p4, bytesN p5, timeN p3, numN p2⟩, timeN p0⟩ = s.data.toList
    · rw [if_pos hc]
      rw [if_pos (by rw [hc.1, decide_eq_true hc.2]; rfl)] at hp
      exact hp
    · rw [if_neg hc]
      rw [if_neg (fun h => hc (by simpa using h))] at hp
      exact hp
  · rw [refV_len _ h6]
    exact rvp_len s w hs h6
end Go.Proofs.YtapngkjgagapeaaDoor
