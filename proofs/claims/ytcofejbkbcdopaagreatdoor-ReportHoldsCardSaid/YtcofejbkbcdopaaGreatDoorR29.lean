import Derived.BigRegion
import Derived.Test.YtcofejbkbcdopaaGreatDoorR14
import Derived.Test.YtcofejbkbcdopaaGreatDoorRQ
/- Contract: the law's same. -/
namespace Go.Proofs.YtcofejbkbcdopaaGreatDoor
open Go.RowKit
theorem sc_struct : Tryz.prog.underlying 50 = some (.struct (Tryz.prog.fieldsOf 50)) ∧ Tryz.prog.stoodInHeld 50 = false ∧ Tryz.prog.eqGuardType Tryz.prog.depth 50 = false := ⟨by kernel_rfl, by kernel_rfl, by kernel_rfl⟩
theorem ta_struct : Tryz.prog.underlying 48 = some (.struct (Tryz.prog.fieldsOf 48)) ∧ Tryz.prog.stoodInHeld 48 = false ∧ Tryz.prog.eqGuardType Tryz.prog.depth 48 = false := ⟨by kernel_rfl, by kernel_rfl, by kernel_rfl⟩
theorem eqTa (k : Nat) (x y x' y' : Int) (w : World) : (Op.equalIn (k + 2) 48 (.agg #[.int .i64 x, .int .i64 y]) (.agg #[.int .i64 x', .int .i64 y'])).run Tryz.prog w = .ok (x == x' && y == y') w := by
  rw [run_equalIn_agg w (k + 1) 48 _ _ ta_struct.1 ta_struct.2.1]
  simp only [Program.fieldsOf, Tryz.underlying48]
  go_simp
  by_cases h : x = x' <;> by_cases g : y = y' <;> simp [h, g]
def eqSI (x y : SI) : Bool := x.k == y.k && (x.s == y.s && (x.b == y.b && x.a == y.a))
theorem eqSI_iff (x y : SI) : eqSI x y = true ↔ x = y := by
  unfold eqSI
  simp only [Bool.and_eq_true, beq_iff_eq]
  cases x; cases y
  simp
theorem eqSc0 (k : Nat) (x y : SI) (w : World) : (Op.equalIn (k + 3) 50 (.agg #[.int .i64 x.k, .int .i64 x.s, .int .i64 x.b, .int .i64 x.a]) (.agg #[.int .i64 y.k, .int .i64 y.s, .int .i64 y.b, .int .i64 y.a])).run Tryz.prog w = .ok (eqSI x y) w := by
  rw [run_equalIn_agg w (k + 2) 50 _ _ sc_struct.1 sc_struct.2.1]
  simp only [Program.fieldsOf, Tryz.underlying50]
  have e5 := eqTa k
  go_simp
  unfold eqSI
  by_cases h : x.k = y.k <;> by_cases g : x.s = y.s <;> by_cases i : x.b = y.b <;> by_cases j : x.a = y.a <;> simp [h, g, i, j]
theorem eqSc (x y : SI) (w : World) : (Op.equalIn 10000 50 (.agg #[.int .i64 x.k, .int .i64 x.s, .int .i64 x.b, .int .i64 x.a]) (.agg #[.int .i64 y.k, .int .i64 y.s, .int .i64 y.b, .int .i64 y.a])).run Tryz.prog w = .ok (eqSI x y) w := eqSc0 9997 x y w
set_option maxRecDepth 100000 in
set_option maxHeartbeats 8000000 in
theorem same_any (a a' : Option Addr) (c c' : Nat) (L M : List SI) (b : Bool) (hb : b = true ↔ L = M) (w : World) (hL : L.length ≤ 9223372036854775807) (hM : M.length ≤ 9223372036854775807) (hC : CellsAt w a (rows SI.cs L)) (hD : CellsAt w a' (rows SI.cs M)) :
    Calls Tryz.prog 13 #[.slice a L.length c, .slice a' M.length c'] w fun e w' => e = .returned (.bool b) ∧ Ext w w' := by
  have HB := Box.mk hb
  have HC := Box.mk hC
  have HD := Box.mk hD
  clear hb hC hD
  by_cases hlm : L.length = M.length
  · have d0 : ((L.length : Int) != (M.length : Int)) = false := by rw [hlm]; simp
    have HLM := Box.mk hlm
    have HL := Box.mk hL
    have ge := sc_struct.2.2
    generalize hnn : L.length = nn at *
    have HN := Box.mk hnn
    clear hnn hM
    rw [← HLM.out] at d0 ⊢
    clear hlm
    go_enter Tryz.func13, Tryz.ntmps13
    go_wp2
    go_loopw [5] (fun i wr => ∃ t : Nat, t ≤ nn ∧ i = .int .i64 t ∧ Box (∀ j (h : j < L.length) (h' : j < M.length), j < t → L[j] = M[j]) ∧ Box (Ext w wr)) (fun i _ => nn - (intOf i).toNat)
    case atStart => exact ⟨0, by omega, rfl, ⟨fun j _ _ h => absurd h (by omega)⟩, ⟨Below.refl _ _⟩⟩
    case round =>
      obtain ⟨t, ht, rfl, hA, hE⟩ := hrel
      by_cases hkn : t < nn
      · have hn0 : (0 : Int) ≤ (t : Int) := by omega
        have hn1 : (t : Int) < (nn : Int) := by omega
        have hn2 : decide ((t : Int) < (nn : Int)) = true := decide_eq_true hn1
        have hn3 : decide (t < nn) = true := decide_eq_true hkn
        have hkL : t < L.length := by rw [HN.out]; exact hkn
        have hkM : t < M.length := by rw [← HLM.out]; exact hkn
        obtain ⟨b1, o1, rfl, r1⟩ := rows_row SI.cs 4 (fun _ => rfl) (by decide) (CellsAt.ext hE.out HC.out) t hkL
        obtain ⟨b2, o2, rfl, r2⟩ := rows_row SI.cs 4 (fun _ => rfl) (by decide) (CellsAt.ext hE.out HD.out) t hkM
        have m0 : wr.cell? ⟨b1, o1 + t * 4, none⟩ = _ := r1 0 _ rfl
        have m1 := r1 1 _ rfl
        have m2 := r1 2 _ rfl
        have m3 := r1 3 _ rfl
        have p0 : wr.cell? ⟨b2, o2 + t * 4, none⟩ = _ := r2 0 _ rfl
        have p1 := r2 1 _ rfl
        have p2 := r2 2 _ rfl
        have p3 := r2 3 _ rfl
        clear r1 r2
        have hsn : Box (L[t] = M[t] → ∀ j (h : j < L.length) (h' : j < M.length), j < t + 1 → L[j] = M[j]) := ⟨fun h3 j h h' h2 => by
          by_cases e : j = t
          · subst e; exact h3
          · exact hA.out j h h' (by omega)⟩
        have hno : Box (L[t] ≠ M[t] → b = false) := ⟨fun h => by
          cases b with
          | false => rfl
          | true => exact absurd (HB.out.1 rfl) (fun e => h (by simp only [e]))⟩
        have qe := fun w => eqSc L[t] M[t] w
        have hq := eqSI_iff L[t] M[t]
        generalize L[t] = x at *
        generalize M[t] = y at *
        cases he : eqSI x y with
        | true => as_aux_lemma =>
          rw [he] at qe
          have hA2 := Box.mk (hsn.out (hq.1 he))
          clear hq hsn hno he
          go_wp2
          go_region
          all_goals
            go_wp2
            go_roundw
            case rel => exact ⟨t + 1, by omega, by go_num, hA2, ⟨Ext.drew1 hE.out⟩⟩
            case measure => simp [intOf]; omega
        | false => as_aux_lemma =>
          rw [he] at qe
          have hbf := hno.out (fun e => by rw [hq.2 e] at he; cases he)
          clear hq hsn hno he
          go_wp2
          go_region
          all_goals
            go_wp2
            go_ret
            exact ⟨by rw [hbf]; rfl, Ext.drew1 hE.out⟩
      · obtain rfl : t = nn := by omega
        have d1 : decide ((t : Int) < (t : Int)) = false := decide_eq_false (by omega)
        have d2 : decide (t < t) = false := decide_eq_false (by omega)
        have hbt : b = true := HB.out.2 (List.ext_getElem (by rw [HN.out]; exact HLM.out) (fun j h h' => hA.out j h h' (by have := HN.out; omega)))
        go_wp2
        go_ret
        exact ⟨by rw [hbt]; rfl, hE.out⟩
  · have d0 : ((L.length : Int) != (M.length : Int)) = true := by rw [bne_iff_ne]; omega
    have hbf : b = false := by
      cases b with
      | false => rfl
      | true => exact absurd (HB.out.1 rfl) (fun e => hlm (by rw [e]))
    generalize L.length = n at *
    generalize M.length = m at *
    go_enter Tryz.func13, Tryz.ntmps13
    go_wp2
    go_ret
    exact ⟨by rw [hbf]; rfl, Below.refl _ _⟩
end Go.Proofs.YtcofejbkbcdopaaGreatDoor
