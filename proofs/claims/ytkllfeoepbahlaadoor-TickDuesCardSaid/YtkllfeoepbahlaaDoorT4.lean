import Derived.Test.YtkllfeoepbahlaaDoorT1
/- The earliest of some times: First of tick and of its reference. -/
namespace Go.Proofs.YtkllfeoepbahlaaDoor
open Go.RowKit

def mn (acc : Int) (l : List Int) : Int := l.foldl min acc
theorem mn_snoc (acc : Int) (zs : List Int) (k : Nat) (h : k < zs.length) : mn acc (zs.take (k + 1)) = min (mn acc (zs.take k)) zs[k] := by
  unfold mn
  rw [List.take_succ_eq_append_getElem h, List.foldl_append]; rfl
theorem mn_bd (l : List Int) : ∀ acc, 0 ≤ acc → acc ≤ 18446744073709551615 → (∀ z ∈ l, 0 ≤ z) → 0 ≤ mn acc l ∧ mn acc l ≤ 18446744073709551615 := by
  induction l with
  | nil => intro acc h0 h1 _; exact ⟨h0, h1⟩
  | cons z l ih =>
    intro acc h0 h1 hz
    exact ih (min acc z) (by have := hz z (by simp); omega) (by omega) (fun y hy => hz y (by simp [hy]))
def first (zs : List Int) : Int := mn 18446744073709551615 zs
theorem first_cons (z : Int) (r : List Int) (h : z ≤ 18446744073709551615) : first (z :: r) = mn z r := by
  unfold first mn
  rw [List.foldl_cons, Int.min_eq_right h]

/-- Some times in a row of cells. -/
def TimesAt (w : World) (b o : Nat) (zs : List Int) : Prop := ∀ j (h : j < zs.length), w.cell? ⟨b, o + j, none⟩ = some (.int .u64 zs[j])

set_option maxHeartbeats 1000000 in
theorem min_any (b o c : Nat) (zs : List Int) (w : World) (h0 : 0 < zs.length) (hm : zs.length ≤ 9223372036854775807) (hb : ∀ z ∈ zs, 0 ≤ z ∧ z ≤ 18446744073709551615) (hc : TimesAt w b o zs) :
    Calls Tryd.prog 26 #[.slice (some ⟨b, o, none⟩) zs.length c] w fun e w' => e = .returned (.int .u64 (first zs)) ∧ w = w' := by
  obtain ⟨z0, r, rfl⟩ : ∃ z0 r, zs = z0 :: r := by
    cases zs with
    | nil => simp at h0
    | cons z r => exact ⟨z, r, rfl⟩
  have c0 : w.cell? ⟨b, o, none⟩ = some (.int .u64 z0) := hc 0 h0
  obtain ⟨b0, b1⟩ := hb z0 (by simp)
  rw [first_cons z0 r b1]
  have hl : (z0 :: r).length = r.length + 1 := rfl
  rw [hl] at hm ⊢
  have Hc := Box.mk hc
  have Hb := Box.mk hb
  clear h0 hc hb hl
  go_enter Tryd.func26, Tryd.ntmps26
  go_wp2
  go_loop [3, 4] (fun m i => ∃ k : Nat, k ≤ r.length ∧ i = .int .i64 ((k : Int) + 1) ∧ m = .int .u64 (mn z0 (r.take k))) (fun _ i => (r.length + 1) - (intOf i).toNat)
  case atStart => exact ⟨0, by omega, rfl, rfl⟩
  case round =>
    obtain ⟨k, hk, rfl, rfl⟩ := hrel
    by_cases hlt : k < r.length
    · have hs := Box.mk (mn_snoc z0 r k hlt)
      have hcell : w.cell? ⟨b, o + (k + 1), none⟩ = some (.int .u64 r[k]) := Hc.out (k + 1) (by simp; omega)
      obtain ⟨y0, y1⟩ := Hb.out r[k] (by simp)
      obtain ⟨m0, m1⟩ := mn_bd (r.take k) z0 b0 b1 (fun z hz => (Hb.out z (List.mem_cons_of_mem _ (List.mem_of_mem_take hz))).1)
      generalize r[k] = y at *
      generalize mn z0 (r.take k) = m at *
      go_wp2
      go_round
      case rel => exact ⟨k + 1, by omega, by go_num, by rw [hs.out]⟩
      case measure => simp [intOf]; omega
    · obtain rfl : k = r.length := by omega
      go_wp2
      go_ret
      exact ⟨ret_int (by first | rfl | rw [List.take_of_length_le (Nat.le_refl _)]), rfl⟩

theorem times_of {a : Option Addr} {w : World} {zs : List Int} (h0 : 0 < zs.length) (h : CellsAt w a (zs.map (Value.int .u64))) : ∃ b o, a = some ⟨b, o, none⟩ ∧ TimesAt w b o zs := by
  obtain ⟨b, o, rfl, _⟩ := h 0 (.int .u64 zs[0]) (by simp [h0])
  refine ⟨b, o, rfl, fun j hj => ?_⟩
  obtain ⟨b', o', he, h'⟩ := h j (.int .u64 zs[j]) (by simp [hj])
  cases he; exact h'

set_option maxHeartbeats 1000000 in
theorem first_any (a : Option Addr) (c : Nat) (zs : List Int) (w : World) (hm : zs.length ≤ 9223372036854775807) (hb : ∀ z ∈ zs, 0 ≤ z ∧ z ≤ 18446744073709551615) (hc : CellsAt w a (zs.map (Value.int .u64))) :
    Calls Tryd.prog 13 #[.slice a zs.length c] w fun e w' => e = .returned (.int .u64 (first zs)) ∧ w = w' := by
  by_cases h0 : 0 < zs.length
  · obtain ⟨b, o, rfl, ht⟩ := times_of h0 hc
    have c1 : Box _ := ⟨fun (_ : Unit) => min_any b o c zs w h0 hm hb ht⟩
    have e1 : ((zs.length : Int) == 0) = false := by rw [beq_eq_false_iff_ne]; omega
    generalize first zs = x at *
    generalize zs.length = n at *
    clear hb hc ht
    go_enter Tryd.func13, Tryd.ntmps13
    go_wp2_with (first | (go_at_call 26; (with_reducible refine (c1.out ()).mono ?_); rintro e w' ⟨rfl, rfl⟩))
    go_ret
    exact ⟨rfl, rfl⟩
  · have hz : zs = [] := List.eq_nil_of_length_eq_zero (by omega)
    subst hz
    clear hc hb hm h0
    go_enter Tryd.func13, Tryd.ntmps13
    go_wp2
    go_ret
    exact ⟨rfl, rfl⟩

set_option maxHeartbeats 1000000 in
theorem refFirst_any (a : Option Addr) (c : Nat) (zs : List Int) (w : World) (hm : zs.length ≤ 9223372036854775807) (hb : ∀ z ∈ zs, 0 ≤ z ∧ z ≤ 18446744073709551615) (hc : CellsAt w a (zs.map (Value.int .u64))) :
    Calls Tryd.prog 14 #[.slice a zs.length c] w fun e w' => e = .returned (.int .u64 (first zs)) ∧ w = w' := by
  have Hc := Box.mk hc
  have Hb := Box.mk hb
  clear hc hb
  go_enter Tryd.func14, Tryd.ntmps14
  go_wp2
  go_loop [3, 4] (fun m i => ∃ k : Nat, k ≤ zs.length ∧ i = .int .i64 (k : Int) ∧ m = .int .u64 (first (zs.take k))) (fun _ i => zs.length - (intOf i).toNat)
  case atStart => exact ⟨0, by omega, rfl, rfl⟩
  case round =>
    obtain ⟨k, hk, rfl, rfl⟩ := hrel
    by_cases hlt : k < zs.length
    · have hs := Box.mk (mn_snoc 18446744073709551615 zs k hlt)
      obtain ⟨b, o, rfl, ht⟩ := times_of (by omega) Hc.out
      have hcell : w.cell? ⟨b, o + k, none⟩ = some (.int .u64 zs[k]) := ht k hlt
      obtain ⟨y0, y1⟩ := Hb.out zs[k] (by simp)
      unfold first
      generalize zs[k] = y at *
      generalize mn 18446744073709551615 (zs.take k) = m at *
      clear ht
      by_cases hy : y < m
      all_goals
        go_wp2
        go_round
        case rel => exact ⟨k + 1, by omega, by go_num, by rw [hs.out]; congr 1; omega⟩
        case measure => simp [intOf]; omega
    · obtain rfl : k = zs.length := by omega
      go_wp2
      go_ret
      exact ⟨ret_int (by first | rfl | rw [List.take_of_length_le (Nat.le_refl _)]), rfl⟩
end Go.Proofs.YtkllfeoepbahlaaDoor
