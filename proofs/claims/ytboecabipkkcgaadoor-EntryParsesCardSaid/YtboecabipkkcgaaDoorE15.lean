import Derived.Test.YtboecabipkkcgaaDoorE14
import Derived.RegionTactic
/- The contract of the reference's split. -/
namespace Go.Proofs.YtboecabipkkcgaaDoor
open Go.RowKit

theorem info_str : (Tryd.prog.info? 9).map (fun i => (i.zero, i.size, i.bytes)) = some (some (.string ⟨#[]⟩), 1, 16) := by kernel_rfl
def strs (ps : List (List UInt8)) : List Value := ps.map fun p => .string ⟨p.toArray⟩
theorem strs_len (ps : List (List UInt8)) : (strs ps).length = ps.length := by simp [strs]
theorem strs_at (ps : List (List UInt8)) (p : List UInt8) : (strs (ps ++ [p]))[ps.length]? = some (.string ⟨p.toArray⟩) := by simp [strs]
theorem strs_set (ps : List (List UInt8)) (p q : List UInt8) : (strs (ps ++ [p])).set ps.length (.string ⟨q.toArray⟩) = strs (ps ++ [q]) := by simp [strs]
theorem strs_snoc (ps : List (List UInt8)) (q : List UInt8) : strs ps ++ [.string ⟨q.toArray⟩] = strs (ps ++ [q]) := by simp [strs]

set_option maxRecDepth 100000 in
set_option maxHeartbeats 4000000 in
theorem split_any (s : ByteArray) (w : World) (hs : s.size ≤ 100000) :
    Calls Tryd.prog 39 #[.string s] w fun e w' => ∃ v, e = .returned v ∧ w'.ownsRow w.heap.size 9 1 v (splitL s.data.toList).length (strs (splitL s.data.toList)) ∧ Ext w w' := by
  obtain ⟨i0, hi, hz0, hz1, hz2⟩ := info_parts info_str
  have hown0 : (w.alloc (.cells #[.string ⟨#[]⟩] 9)).ownsRow w.heap.size 9 1 (.slice (some ⟨w.heap.size, 0, none⟩) 1 1) 1 (strs [[]]) :=
    ⟨rfl, Or.inr ⟨w.heap.size, 1, _, rfl, Nat.le_refl _, newblk w _, Nat.le_refl _, by decide, rfl, rfl⟩⟩
  have HO := Box.mk hown0
  clear hown0
  go_enter Tryd.func39, Tryd.ntmps39
  go_wp2
  go_loopw [3, 4] (fun v i wr => ∃ (k g cap n : Nat) (ps : List (List UInt8)) (p : List UInt8), k ≤ s.size ∧ i = .int .i64 k ∧ v = .slice (some ⟨g, 0, none⟩) (n + 1) cap ∧ Box (n = ps.length ∧ splitL (s.data.toList.take k) = ps ++ [p]) ∧ wr.ownsRow w.heap.size 9 1 (.slice (some ⟨g, 0, none⟩) (n + 1) cap) (n + 1) (strs (ps ++ [p])) ∧ p.length ≤ k ∧ n ≤ k ∧ Ext w wr) (fun _ i _ => s.size - (intOf i).toNat)
  case atStart => exact ⟨0, _, 1, 0, [], [], by omega, rfl, rfl, ⟨rfl, rfl⟩, HO.out, by simp, by omega, Ext.alloc (Below.refl _ _) _⟩
  case round =>
    obtain ⟨k, g, cap, n, ps, p, hk, rfl, rfl, hp, hown, hpl, hnk, hx⟩ := hrel
    have hsz := hx.size
    by_cases hlt : k < s.size
    · have hix := index_at s k hlt
      have htk : s.data.toList.take (k + 1) = s.data.toList.take k ++ [s[k]] := by rw [List.take_succ_eq_append_getElem (by exact hlt)]; rfl
      by_cases hc : s[k] = 32
      · have e1 : ((s[k].toNat : Int) == 32) = true := by rw [hc]; rfl
        have hp2 : Box (n + 1 = (ps ++ [p]).length ∧ splitL (s.data.toList.take (k + 1)) = (ps ++ [p]) ++ [[]]) := ⟨by rw [hp.out.1]; simp, by rw [htk, hc, split_snoc_sp, hp.out.2]⟩
        clear htk hc hp
        generalize (s[k].toNat : Int) = c at *
        go_wp2_with (at_builtin; refine wpList_push rfl _ _ 59 rfl w.heap.size 9 i0 (.string ⟨#[]⟩) 1 16 Tryd.underlying59 hi hz0 hz1 hz2 rfl (by decide) _ _ _ rfl hown [.string ⟨#[]⟩] rfl rfl (by simp [Value.oneCell']) (by omega) (by omega) hsz ?_; intro v1 w2 hown2 hg2 hbel2 hs2)
        rw [show strs (ps ++ [p]) ++ [.string ⟨#[]⟩] = strs ((ps ++ [p]) ++ [[]]) from strs_snoc _ _] at hown2
        obtain ⟨g2, cap2, rfl⟩ : ∃ g2 cap2, v1 = .slice (some ⟨g2, 0, none⟩) (n + 1 + 1) cap2 := by
          rcases hown2.2 with ⟨_, h⟩ | ⟨g2, cap2, cur, hv, _⟩
          · omega
          · exact ⟨g2, cap2, hv⟩
        have hx2 : Ext w w2 := Below.trans hx hbel2
        clear hbel2 hg2 hown
        go_roundw
        case rel => exact ⟨k + 1, g2, cap2, n + 1, ps ++ [p], [], by omega, by go_num, rfl, hp2, hown2, by simp, by omega, hx2⟩
        case measure => simp [intOf]; omega
      · have e1 : ((s[k].toNat : Int) == 32) = false := by
          rw [beq_eq_false_iff_ne]; intro e; exact hc (UInt8.toNat_inj.1 (by show s[k].toNat = 32; omega))
        have hp2 : Box (n = ps.length ∧ splitL (s.data.toList.take (k + 1)) = ps ++ [p ++ [s[k]]]) := ⟨hp.out.1, by rw [htk, split_snoc _ _ hc, hp.out.2, lastAdd_eq]⟩
        have hgb : w.heap.size ≤ g := (hown.lt g rfl).1
        have hcell : wr.cell? ⟨g, n, none⟩ = some (.string ⟨p.toArray⟩) := by rw [hown.cellAt n (by omega), hp.out.1, strs_at]
        have hfz : wr.frozen? ⟨g, n, none⟩ = false := hown.frozenAt n
        have hst := Box.mk (hown.stored n (.string ⟨(p ++ [s[k]]).toArray⟩)).1
        have hcat : (⟨p.toArray⟩ : ByteArray) ++ s.extract k (k + 1) = ⟨(p ++ [s[k]]).toArray⟩ := by
          apply ByteArray.ext
          have h1 : (s.extract k (k + 1)).data.toList = [s[k]] := by
            rw [ByteArray.data_extract, Array.toList_extract, List.extract_eq_take_drop, List.drop_eq_getElem_cons (by exact hlt)]
            simp; rfl
          apply Array.ext'
          rw [ByteArray.data_append, Array.toList_append, h1]
        clear htk hc hp
        have n1 : (0 : Int) ≤ (k : Int) := by omega
        have n2 : (k : Int) + 1 ≤ (s.size : Int) := by omega
        have n3 : (k : Int) ≤ (k : Int) + 1 := by omega
        have n4 : IntKind.i64.wrap ((n : Nat) : Int) = n := IntWalk.i64_in _ (by omega)
        have n5 : IntKind.i64.wrap ((k : Int) + 1) = (k : Int) + 1 := IntWalk.i64_in _ (by omega)
        have n6 : ((k : Int) + 1).toNat = k + 1 := by omega
        have n7 : (0 : Int) ≤ (n : Int) := by omega
        have n8 : (n : Int) < (n : Int) + 1 := by omega
        have n9 : IntKind.i64.wrap ((n : Int) + 1) = (n : Int) + 1 := IntWalk.i64_in _ (by omega)
        have n10 : IntKind.i64.wrap ((n : Int) + 1 - 1) = (n : Int) := by rw [show (n : Int) + 1 - 1 = n by omega]; exact n4
        have n11 : (0 : Int) ≤ (k : Int) + 1 := by omega
        have n12 : ¬ 9223372036854775807 < (⟨p.toArray⟩ : ByteArray).size + (s.extract k (k + 1)).size := by
          have : (⟨p.toArray⟩ : ByteArray).size = p.length := rfl
          rw [this, ByteArray.size_extract]; omega
        go_wp2_with fail
        go_region
        all_goals
          have hst2 := hst.out
          rw [hp2.out.1, strs_set, ← hp2.out.1] at hst2
          have hbel : Ext w ((wr.setCell ⟨g, n, none⟩ (.string ⟨(p ++ [s[k]]).toArray⟩)).drew) := Below.drew (Below.setCell hx (p := ⟨g, n, none⟩) hgb _)
          clear hst hcell hfz hcat n1 n2 n3 n4 n5 n6 n7 n8 n9 n10 n11 n12 hix hown e1
          go_wp2
          go_roundw
          case rel => exact ⟨k + 1, g, cap, n, ps, p ++ [s[k]], by omega, by go_num, rfl, hp2, hst2.drew, by simp; omega, by omega, hbel⟩
          case measure => simp [intOf]; omega
    · obtain rfl : k = s.size := by omega
      have hl : Box (ps.length + 1 = (splitL s.data.toList).length ∧ splitL s.data.toList = ps ++ [p] ∧ n = ps.length) := ⟨by
        have h := hp.out.2
        rw [List.take_of_length_le (Nat.le_of_eq (lst_len s))] at h
        exact ⟨by rw [h]; simp, h, hp.out.1⟩⟩
      clear hp
      go_wp2
      go_ret
      exact ⟨_, rfl, by rw [← hl.out.1, hl.out.2.1, ← hl.out.2.2]; exact hown, hx⟩
end Go.Proofs.YtboecabipkkcgaaDoor
