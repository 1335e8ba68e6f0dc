import Derived.Test.YtbhfpofcebepiaaB1
import Derived.Test.YtbhfpofcebepiaaRW
import Derived.Laws.StructEq
/- Contracts: the reference's Ints, Next, Different, Hits, Same (of equal lists), and the program's count. -/
namespace Go.Proofs.Ytbhfpofcebepiaa
open Go.RowKit
theorem Ext.drew1 {a w : World} (h : Ext a w) : Ext a w.drew := Ext.drewN h 1
/-- Numbers. -/
def i64L (L : List Nat) : List Value := L.map fun x => .int .i64 (x : Nat)
theorem i64L_at {L : List Nat} {t : Nat} (h : t < L.length) : (i64L L)[t]? = some (.int .i64 (L[t] : Nat)) := by simp [i64L, h]
theorem i64L_snoc (L : List Nat) (x : Nat) : i64L (L ++ [x]) = i64L L ++ [.int .i64 (x : Nat)] := by simp [i64L]
theorem infoI : (Try.prog.info? 3).map (fun i => (i.zero, i.size, i.bytes)) = some (some (.int .i64 0), 1, 8) := by kernel_rfl
theorem ownsRow_ext {w w' : World} (hb : Ext w w') {base : Nat} {e : TypeId} {size : Nat} {v : Value} {n : Nat} {xs : List Value} (h : w.ownsRow base e size v n xs) : w'.ownsRow base e size v n xs := by
  refine ⟨h.1, ?_⟩
  rcases h.2 with h2 | ⟨g, cap, cur, hv, hb1, hg, r⟩
  · exact Or.inl h2
  · exact Or.inr ⟨g, cap, cur, hv, hb1, (hb.block g (Array.getElem?_eq_some_iff.1 hg).1).trans hg, r⟩
set_option maxRecDepth 100000 in
set_option maxHeartbeats 4000000 in
theorem rints_any (a b : Option Addr) (c d : Nat) (L : List Nat) (w : World) (hL : L.length ≤ 1000000) (hC : CellsAt w a (i64L L)) (hD : CellsAt w b (i64L L)) :
    Calls Try.prog 11 #[.slice a L.length c, .slice b L.length d] w fun e w' => e = .returned (.bool true) ∧ Ext w w' := by
  have HC := Box.mk hC
  have HD := Box.mk hD
  clear hC hD
  obtain ⟨n, hn⟩ : ∃ n, n = L.length := ⟨_, rfl⟩
  rw [← hn] at hL ⊢
  have HN := Box.mk hn
  clear hn
  go_enter Try.func11, Try.ntmps11
  go_wp2
  go_loopw [5] (fun i wr => ∃ t : Nat, t ≤ n ∧ i = .int .i64 t ∧ Box (Ext w wr)) (fun i _ => n - (intOf i).toNat)
  case atStart => exact ⟨0, by omega, rfl, ⟨Below.refl _ _⟩⟩
  case round =>
    obtain ⟨t, ht, rfl, hE⟩ := hrel
    by_cases hkn : t < n
    · have hkL : t < L.length := by rw [← HN.out]; exact hkn
      obtain ⟨b1, o1, rfl, hcell1⟩ := CellsAt.ext hE.out HC.out t _ (i64L_at hkL)
      obtain ⟨b2, o2, rfl, hcell2⟩ := CellsAt.ext hE.out HD.out t _ (i64L_at hkL)
      generalize L[t] = x at *
      have n0 : (0 : Int) ≤ (t : Int) := by omega
      have n1 : (t : Int) < (n : Int) := by omega
      have n2 : decide ((t : Int) < (n : Int)) = true := decide_eq_true n1
      have n3 : decide (t < n) = true := decide_eq_true hkn
      go_wp2
      go_quiet (fail)
      go_wp2
      go_roundw
      case rel => exact ⟨t + 1, by omega, by go_num, ⟨Ext.drewN hE.out _⟩⟩
      case measure => simp [intOf]; omega
    · obtain rfl : t = n := by omega
      have n2 : decide ((t : Int) < (t : Int)) = false := decide_eq_false (by omega)
      have n3 : decide (t < t) = false := decide_eq_false (by omega)
      go_wp2
      go_ret
      exact ⟨rfl, hE.out⟩
/-- The next requests. -/
def nextL (L : List Nat) (n : Nat) : List Nat := (List.range n).map fun i => nxB L (keyB L i) (i + 1)
theorem nextL_succ (L : List Nat) (n : Nat) : nextL L (n + 1) = nextL L n ++ [nxB L (keyB L n) (n + 1)] := by simp [nextL, List.range_succ]
theorem keyB_get (L : List Nat) (t : Nat) (h : t < L.length) : L[t] = keyB L t := by
  unfold keyB
  rw [List.getD_eq_getElem?_getD, List.getElem?_eq_getElem h]; rfl
set_option maxRecDepth 100000 in
set_option maxHeartbeats 4000000 in
theorem rNext_any (a : Option Addr) (c : Nat) (L : List Nat) (w : World) (hL : L.length ≤ 1000000) (hC : CellsAt w a (u32L L)) :
    Calls Try.prog 12 #[.slice a L.length c] w fun e w' => ∃ a' c', e = .returned (.slice a' L.length c') ∧ w'.ownsRow w.heap.size 3 1 (.slice a' L.length c') L.length (i64L (nextL L L.length)) ∧ Ext w w' := by
  obtain ⟨i0, hi, hz0, hz1, hz2⟩ := info_parts infoI
  have cN : Box (∀ fr key w', fr ≤ L.length → Ext w w' → _) := ⟨fun fr key w' h hb => rnext_any a c L fr key w' hL h (hC.ext hb)⟩
  have HC := Box.mk hC
  clear hC
  obtain ⟨n, hn⟩ : ∃ n, n = L.length := ⟨_, rfl⟩
  rw [← hn] at hL cN ⊢
  have HN := Box.mk hn
  clear hn
  go_enter Try.func12, Try.ntmps12
  go_wp2
  go_loopw [3, 4] (fun o i wr => ∃ t : Nat, t ≤ n ∧ i = .int .i64 t ∧ ∃ a' c', o = .slice a' t c' ∧ Box (wr.ownsRow w.heap.size 3 1 (.slice a' t c') t (i64L (nextL L t))) ∧ Box (Ext w wr)) (fun _ i _ => n - (intOf i).toNat)
  case atStart => exact ⟨0, by omega, rfl, none, 0, rfl, ⟨World.ownsRow_nil _ _ _ _⟩, ⟨Below.refl _ _⟩⟩
  case round =>
    obtain ⟨t, ht, rfl, a', c', rfl, hown, hE⟩ := hrel
    by_cases hkn : t < n
    · as_aux_lemma =>
      have hkL : t < L.length := by rw [← HN.out]; exact hkn
      obtain ⟨b1, o1, rfl, hcell⟩ := CellsAt.ext hE.out HC.out t _ (u32L_at hkL)
      have hsn := Box.mk (nextL_succ L t)
      rw [keyB_get L t hkL] at hcell
      have c1 := Box.mk (fun w' h => cN.out (t + 1) (keyB L t) w' hkn h)
      generalize nxB L (keyB L t) (t + 1) = z at *
      generalize keyB L t = x at *
      have hcast : (((t + 1 : Nat)) : Int) = (t : Int) + 1 := by omega
      rw [hcast] at c1
      have n0 : (0 : Int) ≤ (t : Int) := by omega
      have n1 : (t : Int) < (n : Int) := by omega
      have n2 : decide ((t : Int) < (n : Int)) = true := decide_eq_true n1
      have n3 : decide (t < n) = true := decide_eq_true hkn
      have hk5 : t + 1 ≤ 140737488355328 := by omega
      have hk6 : (t + 1) * 8 ≤ 140737488355328 := by omega
      have w5 := b64_one (p := t) (by omega)
      have hsn2 := Box.mk (i64L_snoc (nextL L t) z)
      clear hcast
      go_wp2_with (first
        | (go_at_call 31; (with_reducible refine (c1.out _ hE.out).mono ?_); rintro e w1 ⟨rfl, rfl⟩)
        | (at_builtin; refine wpList_push rfl _ _ 24 rfl w.heap.size 3 i0 (.int .i64 0) 1 8 Try.underlying24 hi hz0 hz1 hz2 rfl (by decide) _ _ _ rfl hown.out [.int .i64 (z : Nat)] rfl rfl (by simp [Value.oneCell']) hk5 hk6 hE.out.size ?_; intro v1 w3 hown3 hg3 hbel3 hs3))
      obtain ⟨a7, c7, rfl⟩ := slice_form hown3
      go_roundw
      case rel => exact ⟨t + 1, by omega, by go_num, a7, c7, rfl, ⟨by rw [hsn.out, hsn2.out]; exact hown3⟩, ⟨Below.trans hE.out hbel3⟩⟩
      case measure =>
        clear w5
        simp [intOf]; omega
    · as_aux_lemma =>
      obtain rfl : t = n := by omega
      have n2 : decide ((t : Int) < (t : Int)) = false := decide_eq_false (by omega)
      have n3 : decide (t < t) = false := decide_eq_false (by omega)
      go_wp2
      go_ret
      exact ⟨a', c', rfl, hown.out, hE.out⟩
set_option maxRecDepth 100000 in
set_option maxHeartbeats 4000000 in
theorem rdiff_any (a : Option Addr) (c : Nat) (L : List Nat) (w : World) (hL : L.length ≤ 1000000) (hC : CellsAt w a (u32L L)) :
    Calls Try.prog 24 #[.slice a L.length c] w fun e w' => e = .returned (.int .i64 (firstB L L.length : Nat)) ∧ w = w' := by
  have cN : Box (∀ key, _) := ⟨fun key => rnext_any a c L 0 key w hL (Nat.zero_le _) hC⟩
  have hle : Box (∀ t, firstB L t ≤ t) := ⟨fun t => by
    have : firstB L t ≤ (List.range t).length := List.countP_le_length
    rwa [List.length_range] at this⟩
  have HC := Box.mk hC
  clear hC
  obtain ⟨n, hn⟩ : ∃ n, n = L.length := ⟨_, rfl⟩
  rw [← hn] at hL cN ⊢
  have HN := Box.mk hn
  clear hn
  go_enter Try.func24, Try.ntmps24
  go_wp2
  go_loopw [3, 4] (fun o i wr => ∃ t : Nat, t ≤ n ∧ i = .int .i64 t ∧ o = .int .i64 (firstB L t : Nat) ∧ w = wr) (fun _ i _ => n - (intOf i).toNat)
  case atStart => exact ⟨0, by omega, rfl, rfl, rfl⟩
  case round =>
    obtain ⟨t, ht, rfl, rfl, rfl⟩ := hrel
    by_cases hkn : t < n
    · have hkL : t < L.length := by rw [← HN.out]; exact hkn
      obtain ⟨b1, o1, rfl, hcell⟩ := HC.out t _ (u32L_at hkL)
      have hs := firstB_succ L t
      rw [keyB_get L t hkL] at hcell
      have c1 := Box.mk (cN.out (keyB L t))
      rw [show ((0 : Nat) : Int) = (0 : Int) from rfl] at c1
      have hf := hle.out t
      generalize nxB L (keyB L t) 0 = z at *
      generalize keyB L t = x at *
      have n0 : (0 : Int) ≤ (t : Int) := by omega
      have n1 : (t : Int) < (n : Int) := by omega
      have n2 : decide ((t : Int) < (n : Int)) = true := decide_eq_true n1
      have n3 : decide (t < n) = true := decide_eq_true hkn
      by_cases hz : z = t
      · as_aux_lemma =>
        rw [if_pos hz] at hs
        have hs2 : Box (firstB L (t + 1) = _) := ⟨hs⟩
        have e1 : ((z : Int) == (t : Int)) = true := by rw [hz]; simp
        have e2 : (z == t) = true := by rw [hz]; simp
        have w6 := b64_one (p := firstB L t) (by omega)
        generalize firstB L t = f at *
        clear hz hs
        go_wp2_with (go_at_call 31; (with_reducible refine c1.out.mono ?_); rintro e w1 ⟨rfl, rfl⟩)
        go_roundw
        case rel => exact ⟨t + 1, by omega, by go_num, by rw [hs2.out]; go_num, by first | rfl | trivial⟩
        case measure =>
          clear w6
          simp [intOf]; omega
      · as_aux_lemma =>
        rw [if_neg hz] at hs
        have hs2 : Box (firstB L (t + 1) = _) := ⟨hs⟩
        have e1 : ((z : Int) == (t : Int)) = false := by rw [beq_eq_false_iff_ne]; omega
        have e2 : (z == t) = false := by rw [beq_eq_false_iff_ne]; exact hz
        generalize firstB L t = f at *
        clear hz hs
        go_wp2_with (go_at_call 31; (with_reducible refine c1.out.mono ?_); rintro e w1 ⟨rfl, rfl⟩)
        go_roundw
        case rel => exact ⟨t + 1, by omega, by go_num, by rw [hs2.out]; rfl, by first | rfl | trivial⟩
        case measure => simp [intOf]; omega
    · as_aux_lemma =>
      obtain rfl : t = n := by omega
      have n2 : decide ((t : Int) < (t : Int)) = false := decide_eq_false (by omega)
      have n3 : decide (t < t) = false := decide_eq_false (by omega)
      go_wp2
      go_ret
      exact ⟨rfl, rfl⟩
end Go.Proofs.Ytbhfpofcebepiaa
