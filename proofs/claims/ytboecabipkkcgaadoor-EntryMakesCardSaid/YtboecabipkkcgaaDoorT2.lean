import Derived.Test.YtboecabipkkcgaaDoorLib
import Derived.Test.YtboecabipkkcgaaDoorTM
import Derived.Lib.Strings
/- Contracts of the reference's texts of times. -/
namespace Go.Proofs.YtboecabipkkcgaaDoor
open Go.RowKit

set_option maxHeartbeats 1000000 in
theorem rdigits_one (n : Nat) (w : World) (h : n < 10) : Calls Tryd.prog 57 #[.int .u64 n] w fun e w' => e = .returned (.string (digs n)) ∧ w = w' := by
  rw [digs_one n h]
  obtain rfl | rfl | rfl | rfl | rfl | rfl | rfl | rfl | rfl | rfl : n = 0 ∨ n = 1 ∨ n = 2 ∨ n = 3 ∨ n = 4 ∨ n = 5 ∨ n = 6 ∨ n = 7 ∨ n = 8 ∨ n = 9 := by omega
  all_goals
    clear h
    go_enter Tryd.func57, Tryd.ntmps57
    go_wp2
    go_ret
    exact ⟨rfl, rfl⟩

set_option maxHeartbeats 1000000 in
theorem rdigits_k (k : Nat) : ∀ (n : Nat) (w : World), n < 10 ^ (k + 1) → n < 18446744073709551616 → Calls Tryd.prog 57 #[.int .u64 n] w fun e w' => e = .returned (.string (digs n)) ∧ w = w' := by
  induction k with
  | zero => intro n w h _; exact rdigits_one n w (by simpa using h)
  | succ k ih =>
    intro n w h h2
    by_cases h10 : n < 10
    · exact rdigits_one n w h10
    · have c1 : Box _ := ⟨fun w => ih (n / 10) w (by rw [Nat.pow_succ] at h; omega) (by omega)⟩
      have c2 : Box _ := ⟨fun w => rdigits_one (n % 10) w (by omega)⟩
      rw [digs_ten n (by omega)]
      have hx := digs_size (n / 10) (by omega)
      have hy := digs_size (n % 10) (by omega)
      simp only [Int.natCast_ediv, Int.natCast_emod, Int.cast_ofNat_Int] at c1 c2
      generalize digs (n / 10) = x at *
      generalize digs (n % 10) = y at *
      clear ih h
      go_enter Tryd.func57, Tryd.ntmps57
      go_wp2_with (first | (go_at_call 57; (with_reducible refine (c1.out _).mono ?_); rintro e w' ⟨rfl, rfl⟩) | (go_at_call 57; (with_reducible refine (c2.out _).mono ?_); rintro e w' ⟨rfl, rfl⟩))
      go_ret
      exact ⟨rfl, rfl⟩
theorem rdigits_any (n : Nat) (w : World) (h : n < 18446744073709551616) : Calls Tryd.prog 57 #[.int .u64 n] w fun e w' => e = .returned (.string (digs n)) ∧ w = w' :=
  rdigits_k 19 n w (by omega) h

set_option maxHeartbeats 400000 in
theorem refText_any (n : Nat) (w : World) (hn : n < 18446744073709551616) :
    Calls Tryd.prog 37 #[.int .u64 n] w fun e w' => e = .returned (.string (txt n)) ∧ w = w' := by
  by_cases h : n = never
  · subst h
    rw [txt_never]
    unfold never
    go_enter Tryd.func37, Tryd.ntmps37
    go_wp2
    go_ret
    exact ⟨rfl, rfl⟩
  · have c1 : Box _ := ⟨fun w => rdigits_any n w hn⟩
    rw [txt_digs n h]
    have h' : ((n : Int) == 18446744073709551615) = false := by unfold never at h; simp; omega
    generalize digs n = x at *
    clear h
    go_enter Tryd.func37, Tryd.ntmps37
    go_wp2_with (first | (go_at_call 57; (with_reducible refine (c1.out _).mono ?_); rintro e w' ⟨rfl, rfl⟩))
    go_ret
    exact ⟨rfl, rfl⟩

/-- What Parse returns. -/
def pV (o : Option Nat) : Nat := o.getD 0
def pB (o : Option Nat) : Bool := o.isSome
theorem lst_len (s : ByteArray) : s.data.toList.length = s.size := rfl
theorem str_ext {s t : ByteArray} (h : s.data.toList = t.data.toList) : s = t := by
  apply ByteArray.ext; exact Array.ext' h
theorem str_of (s : ByteArray) (l : List UInt8) (h : s.data.toList = l) : s = ⟨l.toArray⟩ := str_ext (by rw [h])
theorem str_empty (s : ByteArray) (h : s.size = 0) : s = ⟨#[]⟩ := str_of s [] (List.eq_nil_of_length_eq_zero h)
theorem ne_test (s : ByteArray) (l : List UInt8) (h : s.data.toList ≠ l) : (s.toList == l) = false := by
  rw [Lib.toList_data]; simpa using h
theorem eq_test (s : ByteArray) (l : List UInt8) (h : s.data.toList = l) : (s.toList == l) = true := by
  rw [Lib.toList_data]; simpa using h
theorem drop_cons (s : ByteArray) (k : Nat) (h : k < s.size) : s.data.toList.drop k = s[k] :: s.data.toList.drop (k + 1) := by
  rw [List.drop_eq_getElem_cons (by exact h)]; rfl

theorem refParse_never (w : World) :
    Calls Tryd.prog 40 #[.string ⟨#[110, 101, 118, 101, 114]⟩] w fun e w' => e = .returned (.tuple #[.int .u64 18446744073709551615, .bool true]) ∧ w = w' := by
  go_enter Tryd.func40, Tryd.ntmps40
  go_wp2
  go_ret2
  exact ⟨rfl, rfl⟩
theorem refParse_empty (w : World) :
    Calls Tryd.prog 40 #[.string ⟨#[]⟩] w fun e w' => e = .returned (.tuple #[.int .u64 0, .bool false]) ∧ w = w' := by
  go_enter Tryd.func40, Tryd.ntmps40
  go_wp2
  go_ret2
  exact ⟨rfl, rfl⟩
theorem refParse_long (s : ByteArray) (w : World) (hne : s.data.toList ≠ neverL) (h : 20 < s.size) (hs : s.size ≤ 9223372036854775807) :
    Calls Tryd.prog 40 #[.string s] w fun e w' => e = .returned (.tuple #[.int .u64 0, .bool false]) ∧ w = w' := by
  have e1 := ne_test s _ hne
  unfold neverL at e1
  have e2 : ((s.size : Int) == 0) = false := by rw [beq_eq_false_iff_ne]; omega
  clear hne
  go_enter Tryd.func40, Tryd.ntmps40
  go_wp2
  go_ret2
  exact ⟨rfl, rfl⟩

set_option maxHeartbeats 1000000 in
theorem refParse_mid (s : ByteArray) (w : World) (hne : s.data.toList ≠ neverL) (h0 : 0 < s.size) (h20 : s.size ≤ 20) :
    Calls Tryd.prog 40 #[.string s] w fun e w' => e = .returned (.tuple #[.int .u64 (pV (parseT s.data.toList)), .bool (pB (parseT s.data.toList))]) ∧ w = w' := by
  have e1 := ne_test s _ hne
  unfold neverL at e1
  have e2 : ((s.size : Int) == 0) = false := by rw [beq_eq_false_iff_ne]; omega
  have HB : Box (Lib.parseUintB 64 s.data.toList = Lib.parseUintM never 0 s.data.toList) := ⟨by rw [uintB_eq, if_neg (fun e => by have := lst_len s; rw [e] at this; simp at this; omega)]⟩
  have HN := Box.mk hne
  clear hne
  go_enter Tryd.func40, Tryd.ntmps40
  go_wp2
  go_loop [4, 5] (fun n i => ∃ k a : Nat, k ≤ s.size ∧ i = .int .i64 k ∧ a < 18446744073709551616 ∧ n = .int .u64 a ∧ Box (Lib.parseUintM never 0 s.data.toList = Lib.parseUintM never a (s.data.toList.drop k))) (fun _ i => s.size - (intOf i).toNat)
  case atStart => exact ⟨0, 0, by omega, rfl, by omega, rfl, ⟨rfl⟩⟩
  case round =>
    obtain ⟨k, a, hk, rfl, ha, rfl, hp⟩ := hrel
    by_cases hlt : k < s.size
    · have hd := drop_cons s k hlt
      by_cases g1 : s[k].toNat < 48 ∨ 57 < s[k].toNat
      · have hn : Box (parseT s.data.toList = none) := ⟨parseT_bad _ HN.out (HB.out.trans (hp.out.trans (by rw [hd]; exact um_bad _ _ _ _ g1)))⟩
        clear hd hp HB HN
        rcases g1 with g1 | g1
        all_goals
          go_wp2
          go_ret2
          exact ⟨by rw [hn.out]; rfl, rfl⟩
      · have g2 : 48 ≤ s[k].toNat ∧ s[k].toNat ≤ 57 := by omega
        by_cases g3 : (never - (s[k].toNat - 48)) / 10 < a
        · have hn : Box (parseT s.data.toList = none) := ⟨parseT_range _ HN.out (HB.out.trans (hp.out.trans (by rw [hd]; exact um_range _ _ _ g2 g3)))⟩
          have g4 : (18446744073709551615 - ((s[k].toNat : Int) - 48)) / 10 < a := by unfold never at g3; omega
          obtain ⟨g5, g6⟩ := g2
          clear hd hp HB HN g1 g3
          go_wp2
          go_ret2
          exact ⟨by rw [hn.out]; rfl, rfl⟩
        · have hp' : Box (Lib.parseUintM never 0 s.data.toList = Lib.parseUintM never (10 * a + (s[k].toNat - 48)) (s.data.toList.drop (k + 1))) := ⟨hp.out.trans (by rw [hd]; exact um_ok _ _ _ g2 (by omega))⟩
          have g4 : (a : Int) ≤ (18446744073709551615 - ((s[k].toNat : Int) - 48)) / 10 := by unfold never at g3; omega
          obtain ⟨g5, g6⟩ := g2
          clear hd hp g1 g3
          go_wp2
          go_round
          case rel => exact ⟨k + 1, 10 * a + (s[k].toNat - 48), by omega, by go_num, by omega, by congr 1; omega, hp'⟩
          case measure => simp [intOf]; omega
    · obtain rfl : k = s.size := by omega
      have hq : Box (Lib.parseUintB 64 s.data.toList = .ok a) := ⟨HB.out.trans (hp.out.trans (by rw [show s.data.toList.drop s.size = [] from List.drop_eq_nil_of_le (Nat.le_refl _)]; rfl))⟩
      have c1 : Box _ := ⟨fun w => refText_any a w ha⟩
      by_cases ht : txtL a = s.data.toList
      · have hn : Box (parseT s.data.toList = some a) := ⟨parseT_ok _ _ HN.out hq.out ht⟩
        have e3 : Box (txt a = s) := ⟨str_ext ht⟩
        rw [e3.out] at c1
        clear ht hp HB hq HN
        go_wp2_with (first | (go_at_call 37; (with_reducible refine (c1.out _).mono ?_); rintro e w' ⟨rfl, rfl⟩))
        go_ret2
        exact ⟨by rw [hn.out]; rfl, rfl⟩
      · have hn : Box (parseT s.data.toList = none) := ⟨parseT_no _ _ HN.out hq.out ht⟩
        have e3 : ((txt a).toList == s.toList) = false := by rw [Lib.toList_data, Lib.toList_data]; exact beq_eq_false_iff_ne.2 ht
        generalize txt a = x at *
        clear ht hp HB hq HN
        go_wp2_with (first | (go_at_call 37; (with_reducible refine (c1.out _).mono ?_); rintro e w' ⟨rfl, rfl⟩))
        go_ret2
        exact ⟨by rw [hn.out]; rfl, rfl⟩
theorem refParse_any (s : ByteArray) (w : World) (hs : s.size ≤ 9223372036854775807) :
    Calls Tryd.prog 40 #[.string s] w fun e w' => e = .returned (.tuple #[.int .u64 (pV (parseT s.data.toList)), .bool (pB (parseT s.data.toList))]) ∧ w = w' := by
  by_cases h : s.data.toList = neverL
  · rw [h, parseT_never, str_of s _ h]; exact refParse_never w
  · by_cases h0 : s.size = 0
    · rw [str_empty s h0]; exact refParse_empty w
    · by_cases h1 : s.size ≤ 20
      · exact refParse_mid s w h (by omega) h1
      · rw [parseT_long _ (by rw [lst_len]; omega)]; exact refParse_long s w h (by omega) hs
end Go.Proofs.YtboecabipkkcgaaDoor
