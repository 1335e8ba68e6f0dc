import Derived.Test.YtcofejbkbcdopaaGreatDoorRL
import Derived.Test.YtcofejbkbcdopaaGreatDoorRE
import Derived.RegionIn
import Derived.Test.YtcofejbkbcdopaaGreatDoorProg
/- The iterator over the lines of a text. -/
namespace Go.Proofs.YtcofejbkbcdopaaGreatDoor
open Go.RowKit Go.Shelf
attribute [local go_sem] Oper.semAt_some
theorem idx_cA (l : List UInt8) : (cF 10 l = true ∧ Lib.indexByte l 10 = ((cA 10 l).length : Int) ∧ l = cA 10 l ++ 10 :: cZ 10 l) ∨ (cF 10 l = false ∧ Lib.indexByte l 10 = -1) := by
  induction l with
  | nil => exact Or.inr ⟨rfl, rfl⟩
  | cons c l ih =>
    by_cases hc : c = 10
    · subst hc
      exact Or.inl ⟨by simp [cF], by simp [Lib.indexByte, cA], by simp [cA, cZ]⟩
    · have e1 : cF 10 (c :: l) = cF 10 l := by simp [cF, hc]
      have e2 : cA 10 (c :: l) = c :: cA 10 l := by simp [cA, List.takeWhile_cons, hc]
      have e3 : cZ 10 (c :: l) = cZ 10 l := by simp [cZ, List.dropWhile_cons, hc]
      have e4 : Lib.indexByte (c :: l) 10 = if Lib.indexByte l 10 == -1 then -1 else Lib.indexByte l 10 + 1 := by
        show (if c == 10 then _ else _) = _
        rw [if_neg (by simpa using hc)]
      rw [e1, e2, e3, e4]
      rcases ih with ⟨h1, h2, h3⟩ | ⟨h1, h2⟩
      · refine Or.inl ⟨h1, ?_, ?_⟩
        · have h5 : (((cA 10 l).length : Int) == -1) = false := by rw [beq_eq_false_iff_ne]; omega
          rw [h2, h5]; simp
        · rw [List.cons_append]; exact congrArg _ h3
      · refine Or.inr ⟨h1, ?_⟩
        rw [h2]; rfl
theorem ext_take (l : List UInt8) (k : Nat) (h : k ≤ l.length) : (⟨l.toArray⟩ : ByteArray).extract 0 k = ⟨(l.take k).toArray⟩ := by
  apply ByteArray.ext; apply Array.ext'
  rw [Lib.extract_from_zero]
theorem ext_drop (l : List UInt8) (k : Nat) : (⟨l.toArray⟩ : ByteArray).extract k (⟨l.toArray⟩ : ByteArray).size = ⟨(l.drop k).toArray⟩ := by
  apply ByteArray.ext; apply Array.ext'
  rw [Lib.extract_to_end]
theorem take_at (p r : List UInt8) : (p ++ 10 :: r).take (p.length + 1) = p ++ [10] := by
  rw [List.take_append, List.take_of_length_le (by omega), show p.length + 1 - p.length = 1 by omega]; rfl
theorem drop_at (p r : List UInt8) : (p ++ 10 :: r).drop (p.length + 1) = r := by
  rw [List.drop_append, List.drop_of_length_le (by omega), show p.length + 1 - p.length = 1 by omega]; rfl
set_option maxRecDepth 100000 in
set_option maxHeartbeats 4000000 in
theorem lines_iter (n b : Nat) (hn : 1 ≤ n) (l0 : List UInt8) : IterN Fence.wide n Tryz.prog 39 #[.pointer (some ⟨b, 0, none⟩)] b l0 := by
  intro lp J J1 Jx W hc hput hY h0
  refine callsIn_of_wp Tryz.func39 rfl trivial ?_ rfl
  simp only [Tryz.ntmps39, List.size_toArray, List.length_cons, List.length_nil, Nat.reduceAdd, Nat.reduceSub, Array.replicate_succ, Array.replicate_zero, List.push_toArray, List.append_toArray, List.nil_append, List.cons_append]
  gi_wp2
  gi_loopw [3, 4] (fun _ _ wr => ∃ (l : List UInt8), J l wr) (fun _ _ wr => match wr.cell? ⟨b, 0, none⟩ with | some (.string s) => s.size | _ => 0)
  case atStart => exact ⟨l0, h0⟩
  case round =>
    obtain ⟨l, hJ⟩ := hrel
    obtain ⟨m0, mf, hlen⟩ := hc l _ hJ
    by_cases hl : l = []
    · subst hl
      have HJ := Box.mk hJ
      clear hJ
      gi_wp2
      go_end0
      exact ⟨⟨_, rfl⟩, .inl HJ.out⟩
    · have hp := Box.mk (hput l _ hJ hl)
      have hl0 : 0 < l.length := List.length_pos_iff.2 hl
      have cc : Box (∀ w, Calls Tryz.prog 40 #[.string ⟨l.toArray⟩, .int .u8 10] w fun e w' => e = .returned (.int .i64 (Lib.indexByte l 10)) ∧ w' = w) := ⟨fun w => Tryz.strings_IndexByte ⟨l.toArray⟩ 10 w⟩
      have hz : (⟨l.toArray⟩ : ByteArray).size = l.length := by show l.toArray.size = _; simp
      have s0 : ¬ l.toArray.size = 0 := by simp; omega
      have d0 : decide (0 < ((⟨l.toArray⟩ : ByteArray).size : Int)) = true := decide_eq_true (by omega)
      rcases idx_cA l with ⟨h1, h2, h3⟩ | ⟨h1, h2⟩
      · have hlnA : lnA l = cA 10 l ++ [10] := by unfold lnA; rw [if_pos h1]
        have hlnZ : lnZ l = cZ 10 l := by unfold lnZ; rw [if_pos h1]
        have hk : (cA 10 l).length + 1 ≤ l.length := by
          have := congrArg List.length h3
          simp at this; omega
        have t1 : (⟨l.toArray⟩ : ByteArray).extract 0 ((cA 10 l).length + 1) = ⟨(lnA l).toArray⟩ := by
          have h9 := take_at (cA 10 l) (cZ 10 l)
          rw [← h3] at h9
          rw [ext_take l _ hk, hlnA, h9]
        have t2 : (⟨l.toArray⟩ : ByteArray).extract ((cA 10 l).length + 1) (⟨l.toArray⟩ : ByteArray).size = ⟨(lnZ l).toArray⟩ := by
          have h9 := drop_at (cA 10 l) (cZ 10 l)
          rw [← h3] at h9
          rw [ext_drop l, hlnZ, h9]
        rw [hz] at t2
        rw [h2] at cc
        have HZ := Box.mk (show (lnZ l).length < l.length by
          rw [hlnZ]
          have := congrArg List.length h3
          simp at this; omega)
        have hy0 := Box.mk (hY l)
        clear h1 h2 h3 hlnA hlnZ hput hY hJ h0
        generalize (cA 10 l).length = k at *
        generalize (⟨(lnA l).toArray⟩ : ByteArray) = sa at *
        generalize hsz : (⟨(lnZ l).toArray⟩ : ByteArray) = sz at *
        generalize hsl : (⟨l.toArray⟩ : ByteArray) = sl at *
        have kw : IntKind.i64.wrap ((k : Int) + 1) = (k : Int) + 1 := by rw [IntKind.wrap_i64]; omega
        have k0 : (0 : Int) ≤ (k : Int) + 1 := by omega
        have k1 : (k : Int) + 1 ≤ (sl.size : Int) := by omega
        have k2 : ((k : Int) + 1).toNat = k + 1 := by omega
        have k3 : k + 1 ≤ sl.size := by omega
        have k4 : (0 : Int) ≤ (k : Int) := by omega
        gi_wp2_with (first | (refine ⟨trivial, ?_⟩; gi_at_call 40; (with_reducible refine (callsIn_wide.2 (cc.out _)).mono ?_); rintro e w1 ⟨rfl, rfl⟩))
        gi_region
        obtain ⟨fn, tmps, assign, body, hy, hR⟩ := hy0.out _ hp.out.1
        gi_wp2
        refine hR.mono ?_
        rintro e W3 (⟨rfl, hJ3⟩ | ⟨rfl, hJx3⟩)
        · obtain ⟨m3, mf3, hlen3⟩ := hc _ _ hJ3
          have hJ4 := Box.mk hJ3
          clear hJ3
          gi_wp2
          go_roundw
          case rel => exact ⟨_, hJ4.out⟩
          case measure => rw [m3, m0]; show (lnZ l).toArray.size < sl.size; have := HZ.out; simp; omega
        · gi_wp2
          refine bodyPost_ret (results_none rfl _ _ _) rfl ?_
          exact ⟨⟨_, rfl⟩, .inr hJx3⟩
      · have hlnA : lnA l = l := by unfold lnA; rw [if_neg (by rw [h1]; decide)]
        have hlnZ : lnZ l = [] := by unfold lnZ; rw [if_neg (by rw [h1]; decide)]
        rw [h2] at cc
        have hy0 := Box.mk (hY l)
        rw [hlnA, hlnZ] at hy0
        rw [hlnZ] at hp
        clear h1 h2 hlnA hlnZ hput hY hJ h0
        generalize hsl : (⟨l.toArray⟩ : ByteArray) = sl at *
        gi_wp2_with (first | (refine ⟨trivial, ?_⟩; gi_at_call 40; (with_reducible refine (callsIn_wide.2 (cc.out _)).mono ?_); rintro e w1 ⟨rfl, rfl⟩; obtain ⟨fn, tmps, assign, body, hy, hR⟩ := hy0.out _ hp.out.2))
        refine hR.mono ?_
        rintro e W3 (⟨rfl, hJ3⟩ | ⟨rfl, hJx3⟩)
        · obtain ⟨m3, mf3, hlen3⟩ := hc _ _ hJ3
          have hJ4 := Box.mk hJ3
          clear hJ3
          gi_wp2
          go_roundw
          case rel => exact ⟨_, hJ4.out⟩
          case measure => rw [m3, m0]; show 0 < sl.size; omega
        · gi_wp2
          refine bodyPost_ret (results_none rfl _ _ _) rfl ?_
          exact ⟨⟨_, rfl⟩, .inr hJx3⟩
end Go.Proofs.YtcofejbkbcdopaaGreatDoor
