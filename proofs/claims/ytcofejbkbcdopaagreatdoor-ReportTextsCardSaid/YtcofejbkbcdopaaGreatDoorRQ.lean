import Derived.Test.YtcofejbkbcdopaaGreatDoorR20
import Derived.Laws.StructEq
import Derived.ChangeKeysEq
/- Equality of counts. -/
namespace Go.Proofs.YtcofejbkbcdopaaGreatDoor
open Go.RowKit
theorem rc_struct : Tryz.prog.underlying 24 = some (.struct (Tryz.prog.fieldsOf 24)) ∧ Tryz.prog.stoodInHeld 24 = false ∧ Tryz.prog.eqGuardType Tryz.prog.depth 24 = false := ⟨by kernel_rfl, by kernel_rfl, by kernel_rfl⟩
theorem i5_type : Tryz.prog.underlying 22 = some (.array 5 3) ∧ Tryz.prog.eqGuardType Tryz.prog.depth 22 = false := ⟨by kernel_rfl, by kernel_rfl⟩
theorem i_some : (Tryz.prog.info? 3).isSome = true := by kernel_rfl
theorem eqI5 (k : Nat) (a b c d e a' b' c' d' e' : Int) (w : World) : (Op.equalIn (k + 2) 22 (.agg #[.int .i64 a, .int .i64 b, .int .i64 c, .int .i64 d, .int .i64 e]) (.agg #[.int .i64 a', .int .i64 b', .int .i64 c', .int .i64 d', .int .i64 e'])).run Tryz.prog w = .ok (a == a' && (b == b' && (c == c' && (d == d' && e == e')))) w := by
  obtain ⟨i, hi⟩ := Option.isSome_iff_exists.1 i_some
  rw [run_equalIn_array w (k + 1) _ _ i5_type.1 hi, show List.range 5 = [0, 1, 2, 3, 4] from rfl, show Tryz.prog.cellsOf 3 = 1 by kernel_rfl]
  have hp : ∀ (xs : Array Value) (o : Nat) (v : Value) (w : World), xs[o]? = some v → (part 3 xs o).run Tryz.prog w = .ok v w := fun xs o v w h => by
    simp [part, isAgg, Sem.run_bind, run_underlying Tryz.underlying3, h]
  have q : ∀ (x y : Int) (w : World), (Op.equalIn (k + 1) 3 (.int .i64 x) (.int .i64 y)).run Tryz.prog w = .ok (x == y) w := fun x y w => by
    rw [run_equalIn_int w k 3 .i64 .i64 x y Tryz.underlying3]
    try simp
  have p0 := fun (x y z u v : Int) w => hp #[.int .i64 x, .int .i64 y, .int .i64 z, .int .i64 u, .int .i64 v] 0 (.int .i64 x) w rfl
  have p1 := fun (x y z u v : Int) w => hp #[.int .i64 x, .int .i64 y, .int .i64 z, .int .i64 u, .int .i64 v] 1 (.int .i64 y) w rfl
  have p2 := fun (x y z u v : Int) w => hp #[.int .i64 x, .int .i64 y, .int .i64 z, .int .i64 u, .int .i64 v] 2 (.int .i64 z) w rfl
  have p3 := fun (x y z u v : Int) w => hp #[.int .i64 x, .int .i64 y, .int .i64 z, .int .i64 u, .int .i64 v] 3 (.int .i64 u) w rfl
  have p4 := fun (x y z u v : Int) w => hp #[.int .i64 x, .int .i64 y, .int .i64 z, .int .i64 u, .int .i64 v] 4 (.int .i64 v) w rfl
  simp only [Op.eqItems, Sem.run_bind, p0, p1, p2, p3, p4, q, Nat.zero_mul, Nat.one_mul, Nat.reduceMul, Result.andThen_ok]
  by_cases ha : a = a'
  case neg => simp [ha, Sem.run_bind, p1, p2, p3, p4, q]
  subst ha
  by_cases hb : b = b'
  case neg => simp [hb, Sem.run_bind, p1, p2, p3, p4, q]
  subst hb
  by_cases hc : c = c'
  case neg => simp [hc, Sem.run_bind, p1, p2, p3, p4, q]
  subst hc
  by_cases hd : d = d'
  case neg => simp [hd, Sem.run_bind, p1, p2, p3, p4, q]
  subst hd
  by_cases he : e = e'
  case neg => simp [he, Sem.run_bind, p1, p2, p3, p4, q]
  subst he
  simp [Sem.run_bind, p1, p2, p3, p4, q]
def eqB (f g : Nat → Int) : Bool := f 0 == g 0 && (f 1 == g 1 && (f 2 == g 2 && (f 3 == g 3 && (f 4 == g 4 && (f 5 == g 5 && (f 6 == g 6 && (f 7 == g 7 && (f 8 == g 8 && (f 9 == g 9 && (f 10 == g 10 && (f 11 == g 11)))))))))))
theorem eqB_iff (f g : Nat → Int) : eqB f g = true ↔ ∀ i, i < 12 → f i = g i := by
  unfold eqB
  simp only [Bool.and_eq_true, beq_iff_eq]
  constructor
  · rintro ⟨h0, h1, h2, h3, h4, h5, h6, h7, h8, h9, h10, h11⟩ i hi
    obtain rfl | rfl | rfl | rfl | rfl | rfl | rfl | rfl | rfl | rfl | rfl | rfl : i = 0 ∨ i = 1 ∨ i = 2 ∨ i = 3 ∨ i = 4 ∨ i = 5 ∨ i = 6 ∨ i = 7 ∨ i = 8 ∨ i = 9 ∨ i = 10 ∨ i = 11 := by omega
    all_goals assumption
  · intro h
    exact ⟨h 0 (by omega), h 1 (by omega), h 2 (by omega), h 3 (by omega), h 4 (by omega), h 5 (by omega), h 6 (by omega), h 7 (by omega), h 8 (by omega), h 9 (by omega), h 10 (by omega), h 11 (by omega)⟩
theorem eqRC0 (k : Nat) (f g : Nat → Int) (w : World) : (Op.equalIn (k + 3) 24 (.agg (rC f)) (.agg (rC g))).run Tryz.prog w = .ok (eqB f g) w := by
  unfold rC
  rw [run_equalIn_agg w (k + 2) 24 _ _ rc_struct.1 rc_struct.2.1]
  simp only [Program.fieldsOf, Tryz.underlying24]
  have e5 := eqI5 k
  go_simp
  unfold eqB
  by_cases h0 : f 0 = g 0
  case neg => simp [h0]
  by_cases h1 : f 1 = g 1
  case neg => simp [h0, h1]
  by_cases h2 : f 2 = g 2
  case neg => simp [h0, h1, h2]
  by_cases h3 : f 3 = g 3
  case neg => simp [h0, h1, h2, h3]
  by_cases h4 : f 4 = g 4
  case neg => simp [h0, h1, h2, h3, h4]
  by_cases h5 : f 5 = g 5
  case neg => simp [h0, h1, h2, h3, h4, h5]
  by_cases h6 : f 6 = g 6
  case neg => simp [h0, h1, h2, h3, h4, h5, h6]
  by_cases h7 : f 7 = g 7
  case neg => simp [h0, h1, h2, h3, h4, h5, h6, h7]
  by_cases h8 : f 8 = g 8
  case neg => simp [h0, h1, h2, h3, h4, h5, h6, h7, h8]
  by_cases h9 : f 9 = g 9
  case neg => simp [h0, h1, h2, h3, h4, h5, h6, h7, h8, h9]
  by_cases h10 : f 10 = g 10
  case neg => simp [h0, h1, h2, h3, h4, h5, h6, h7, h8, h9, h10]
  by_cases h11 : f 11 = g 11
  case neg => simp [h0, h1, h2, h3, h4, h5, h6, h7, h8, h9, h10, h11]
  simp [h0, h1, h2, h3, h4, h5, h6, h7, h8, h9, h10, h11]
theorem eqRC (f g : Nat → Int) (w : World) : (Op.equalIn 10000 24 (.agg (rC f)) (.agg (rC g))).run Tryz.prog w = .ok (eqB f g) w := eqRC0 9997 f g w
end Go.Proofs.YtcofejbkbcdopaaGreatDoor
