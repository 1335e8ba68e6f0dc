import Derived.Test.YtbnmnkmjokcmfaaDoorS28
/- season.Parse at every string, as one law; the law's text. -/
namespace Go.Proofs.YtbnmnkmjokcmfaaDoor
open Go.RowKit
theorem textG_len {a b : Int} (h : gB a b = true) : (textG a b).length ≤ 100 ∧ 3 ≤ (textG a b).length := by
  have hg := gB_iff.1 h
  obtain ⟨c, h1, _, _⟩ := textG_eq a b
  have l1 := itoa_len a (by omega)
  have l2 := dd_len 6 b.natAbs (by omega)
  have l3 := itoa_pos a
  have l4 := dd_pos b.natAbs
  rw [h1]
  simp
  omega
theorem sparse_text (a b : Int) (h : gB a b = true) (w : World) (hw : EnvS w) :
    Calls Tryd.prog 11 #[.string ⟨(textG a b).toArray⟩] w fun e w' => e = .returned (.tuple #[.agg #[.int .i64 a, .int .i64 b], .int .i64 0]) ∧ Ext w w' := by
  have hg := gB_iff.1 h
  have hl := textG_len h
  have hs : (⟨(textG a b).toArray⟩ : ByteArray).size = (textG a b).length := rfl
  have ht : (⟨(textG a b).toArray⟩ : ByteArray).data.toList = textG a b := rfl
  obtain ⟨c, h1, h2, h3⟩ := textG_eq a b
  have hsg : c :: Lib.decDigits b.natAbs = signL b ++ Lib.itoa (max b (-b)) := by
    have e : textG a b = Lib.itoa a ++ ((signL b ++ Lib.itoa (max b (-b))) ++ [105]) := by unfold textG; simp
    rw [h1] at e
    have e2 := List.append_cancel_left e
    rw [← List.cons_append] at e2
    exact List.append_cancel_right e2
  have hlen : (textG a b).length = (Lib.itoa a).length + 1 + (Lib.decDigits b.natAbs).length + 1 := by rw [h1]; simp; omega
  refine (sparse_two ⟨(textG a b).toArray⟩ w hw (by rw [hs]; omega) (la_any _ (by rw [hs]; omega) w hw) (Lib.itoa a).length (by rw [ht]; exact lastS_textG a b) (itoa_pos a) (by rw [hs]; omega) ?_ a b ?_ ?_).mono ?_
  · rw [ht, h1]
    unfold Lib.hasSuffix
    simp only [List.isSuffixOf_iff_suffix]
    exact ⟨Lib.itoa a ++ (c :: Lib.decDigits b.natAbs), by simp⟩
  · rw [ht, h1, List.take_left' rfl]
    exact atoi_itoa a (by omega)
  · rw [ht, hs, hlen, h1, List.drop_left' rfl, ← List.cons_append, show (Lib.itoa a).length + 1 + (Lib.decDigits b.natAbs).length + 1 - 1 - (Lib.itoa a).length = (c :: Lib.decDigits b.natAbs).length by simp; omega, List.take_left' rfl, hsg]
    exact atoi_sign b (by omega)
  · intro e w' hp
    unfold PPost at hp
    have e1 : txtG a b = ⟨(textG a b).toArray⟩ := by unfold txtG; rw [if_pos h]
    rw [if_pos e1] at hp
    exact hp
theorem lastS_lt (l : List UInt8) (p : Nat) (h : lastS l = p) : p < l.length := by
  by_cases hn : ∀ j, j < l.length → ¬ (l.getD j 0 = 43 ∨ l.getD j 0 = 45)
  · rw [lastS_none l hn] at h; omega
  · have : ∃ j, j < l.length ∧ (l.getD j 0 = 43 ∨ l.getD j 0 = 45) ∧ ∀ i, j < i → i < l.length → ¬ (l.getD i 0 = 43 ∨ l.getD i 0 = 45) := by
      have key : ∀ n, n ≤ l.length → (∀ i, n ≤ i → i < l.length → ¬ (l.getD i 0 = 43 ∨ l.getD i 0 = 45)) → ∃ j, j < l.length ∧ (l.getD j 0 = 43 ∨ l.getD j 0 = 45) ∧ ∀ i, j < i → i < l.length → ¬ (l.getD i 0 = 43 ∨ l.getD i 0 = 45) := by
        intro n
        induction n with
        | zero => intro _ h; exact absurd (fun j hj => h j (Nat.zero_le _) hj) hn
        | succ n ih =>
          intro hn2 h
          by_cases hc : l.getD n 0 = 43 ∨ l.getD n 0 = 45
          · exact ⟨n, by omega, hc, fun i hi hl => h i (by omega) hl⟩
          · exact ih (by omega) fun i hi hl => by
              by_cases e : i = n
              · subst e; exact hc
              · exact h i (by omega) hl
      exact key l.length (Nat.le_refl _) fun i hi hl => by omega
    obtain ⟨j, hj, hc, hall⟩ := this
    rw [lastS_at l j hj hc hall] at h
    omega
theorem sparse_not (s : ByteArray) (hs : s.size ≤ 1000) (hno : ∀ a b, gB a b = true → s ≠ ⟨(textG a b).toArray⟩) (w : World) (hw : EnvS w) :
    Calls Tryd.prog 11 #[.string s] w fun e w' => e = .returned (.tuple #[.agg #[.int .i64 0, .int .i64 0], .int .i64 6]) ∧ Ext w w' := by
  have hla := la_any s hs w hw
  by_cases h1 : lastS s.data.toList < 1
  · exact sparse_at s w hla h1
  · obtain ⟨p, hp⟩ : ∃ p : Nat, lastS s.data.toList = p := ⟨(lastS s.data.toList).toNat, by omega⟩
    have hp1 : 1 ≤ p := by omega
    have hp2 : p + 1 ≤ s.size := lastS_lt _ p hp
    cases hsuf : Lib.hasSuffix s.data.toList [105] with
    | false => exact sparse_suf s w hs hla p hp hp1 hsuf
    | true =>
      by_cases hb : (∃ re, Lib.atoiAll (s.data.toList.take p) = .ok re) ∧ ∃ im, Lib.atoiAll ((s.data.toList.drop p).take (s.size - 1 - p)) = .ok im
      · obtain ⟨⟨re, hre⟩, im, him⟩ := hb
        refine (sparse_two s w hw hs hla p hp hp1 hp2 hsuf re im hre him).mono fun e w' h => ?_
        unfold PPost at h
        rw [if_neg (fun e => ?_)] at h
        · exact h
        · unfold txtG at e
          cases hg : gB re im with
          | true => rw [hg, if_pos rfl] at e; exact hno re im hg e.symm
          | false =>
            rw [hg, if_neg (by decide)] at e
            rw [← e] at hp2
            exact absurd hp2 (by show ¬ (p + 1 ≤ 0); omega)
      · exact sparse_err s w hw hs hla p hp hp1 hp2 hsuf hb
theorem digs_list (n : Nat) : (digs n).data.toList = Lib.decDigits n := rfl
theorem text_bytes (a b : Int) (x y : ByteArray) (hx : x.data.toList = Lib.itoa a) (hy : y.data.toList = signL b) : ((x ++ y) ++ digs b.natAbs) ++ ⟨#[105]⟩ = ⟨(textG a b).toArray⟩ := by
  apply ByteArray.ext
  apply Array.ext'
  simp only [ByteArray.data_append, Array.toList_append]
  rw [hx, hy, digs_list]
  unfold textG
  rw [itoa_abs]
end Go.Proofs.YtbnmnkmjokcmfaaDoor
