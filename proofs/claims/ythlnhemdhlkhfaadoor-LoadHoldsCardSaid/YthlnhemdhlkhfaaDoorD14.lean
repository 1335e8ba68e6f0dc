import Derived.Test.YthlnhemdhlkhfaaDoorRC
import Derived.Test.YthlnhemdhlkhfaaDoorD13
import Derived.Test.YthlnhemdhlkhfaaDoorProg
/- The iterator over the words of a line. -/
namespace Go.Proofs.YthlnhemdhlkhfaaDoor
open Go.RowKit Go.Shelf
attribute [local go_sem] Oper.semAt_some

def wEncs (i : Nat) (l : List UInt8) : Array Value := #[.int .i64 i, .string ⟨(cA 32 l).toArray⟩]
theorem cZ_lt {x : UInt8} {l : List UInt8} (h : cF x l = true) : (cZ x l).length + 1 ≤ l.length := by
  induction l with
  | nil => simp [cF] at h
  | cons c l ih =>
    by_cases hc : c = x
    · subst hc; simp [cZ]
    · have h2 : cF x l = true := by simpa [cF, hc] using h
      have := ih h2
      have e : cZ x (c :: l) = cZ x l := by simp [cZ, List.dropWhile_cons, hc]
      rw [e]; simp; omega
set_option maxRecDepth 100000 in
set_option maxHeartbeats 2000000 in
theorem words_iter (n b : Nat) (hn : 1 ≤ n) (l0 : List UInt8) : IterC Fence.wide n Tryd.prog 32 48 #[.pointer (some ⟨b, 0, none⟩)] b wEncs l0 := by
  intro lp J J' Jx W hc hc' hgr hput hY h0
  refine callsIn_of_wp Tryd.func48 rfl trivial ?_ rfl
  simp only [Tryd.ntmps48, List.size_toArray, List.length_cons, List.length_nil, Nat.reduceAdd, Nat.reduceSub, Array.replicate_succ, Array.replicate_zero, List.push_toArray, List.append_toArray, List.nil_append, List.cons_append]
  gi_wp2
  gi_loopw [3] (fun i wr => ∃ (k : Nat) (l : List UInt8), i = .int .i64 k ∧ J k l wr) (fun i _ => 1000001 - (intOf i).toNat)
  case atStart => exact ⟨0, l0, rfl, h0⟩
  case round =>
    obtain ⟨k, l, rfl, hJ⟩ := hrel
    obtain ⟨m0, mf, hlen⟩ := hc k l _ hJ
    have cc : Box _ := ⟨fun w => xcut_any 32 ⟨l.toArray⟩ w (by show l.toArray.size ≤ _; simp; omega)⟩
    rw [show (⟨l.toArray⟩ : ByteArray).data.toList = l from rfl] at cc
    have hF : Box (∀ v, cF 32 l = v → cF 32 l = v) := ⟨fun _ h => h⟩
    cases hf : cF 32 l with
    | true =>
      have hlt := cZ_lt hf
      have Hf := Box.mk hf
      rw [hf] at cc
      clear hf hF
      gi_wp2_with (first | (refine ⟨trivial, ?_⟩; gi_at_call 36; (with_reducible refine (callsIn_wide.2 (cc.out _)).mono ?_); rintro e w1 ⟨rfl, hb⟩; obtain ⟨fn, tmps, assign, body, hy, hR⟩ := hY k l _ (hgr k l _ _ hJ hb); dsimp only [wEncs] at hy))
      refine hR.mono ?_
      rintro e W3 (⟨rfl, hJ3⟩ | ⟨rfl, hJx3⟩)
      · obtain ⟨m3, mf3, hlen3⟩ := hc' k l _ hJ3
        have hp := Box.mk (hput k l _ hJ3 Hf.out)
        gi_wp2
        go_roundw
        case rel => exact ⟨k + 1, cZ 32 l, by go_num, hp.out⟩
        case measure => simp [intOf]; omega
      · gi_wp2
        refine bodyPost_ret (results_none rfl _ _ _) rfl ?_
        exact ⟨⟨_, rfl⟩, .inr hJx3⟩
    | false =>
      have Hf := Box.mk hf
      rw [hf] at cc
      clear hf hF
      gi_wp2_with (first | (refine ⟨trivial, ?_⟩; gi_at_call 36; (with_reducible refine (callsIn_wide.2 (cc.out _)).mono ?_); rintro e w1 ⟨rfl, hb⟩; obtain ⟨fn, tmps, assign, body, hy, hR⟩ := hY k l _ (hgr k l _ _ hJ hb); dsimp only [wEncs] at hy))
      refine hR.mono ?_
      rintro e W3 (⟨rfl, hJ3⟩ | ⟨rfl, hJx3⟩)
      · gi_wp2
        refine bodyPost_ret (results_none rfl _ _ _) rfl ?_
        exact ⟨⟨_, rfl⟩, .inl ⟨k, l, Hf.out, hJ3⟩⟩
      · gi_wp2
        refine bodyPost_ret (results_none rfl _ _ _) rfl ?_
        exact ⟨⟨_, rfl⟩, .inr hJx3⟩
end Go.Proofs.YthlnhemdhlkhfaaDoor
