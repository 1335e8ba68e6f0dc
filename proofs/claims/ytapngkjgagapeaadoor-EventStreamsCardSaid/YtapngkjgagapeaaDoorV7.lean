import Derived.Test.YtapngkjgagapeaaDoorV6
import Derived.Test.YtapngkjgagapeaaDoorE15
/- The reference's split and bytes. -/
namespace Go.Proofs.YtapngkjgagapeaaDoor
open Go.RowKit

theorem extract_list (s : ByteArray) (f k : Nat) : (s.extract f k).data.toList = (s.data.toList.take k).drop f := by
  rw [ByteArray.data_extract, Array.toList_extract, List.extract_eq_take_drop]
  rw [← List.drop_take]
theorem extract_snoc (s : ByteArray) (f k : Nat) (h : k < s.size) (hf : f ≤ k) : (s.extract f (k + 1)).data.toList = (s.extract f k).data.toList ++ [s[k]] := by
  rw [extract_list, extract_list, take_snoc s k h, List.drop_append_of_le_length (by rw [List.length_take]; show f ≤ min k s.size; omega)]
theorem extract_none (s : ByteArray) (k : Nat) : (s.extract k k).data.toList = [] := by
  rw [extract_list, List.drop_eq_nil_of_le (by rw [List.length_take]; omega)]
theorem strs_snoc' (ps : List (List UInt8)) (x : ByteArray) : strs ps ++ [.string x] = strs (ps ++ [x.data.toList]) := by
  simp [strs]
set_option maxRecDepth 100000 in
set_option maxHeartbeats 4000000 in
theorem rsplit_any (s : ByteArray) (w : World) (hs : s.size ≤ 200000) :
    Calls Tryd.prog 36 #[.string s] w fun e w' => ∃ v, e = .returned v ∧ w'.ownsRow w.heap.size 9 1 v (splitL s.data.toList).length (strs (splitL s.data.toList)) ∧ Ext w w' := by
  obtain ⟨i0, hi, hz0, hz1, hz2⟩ := info_parts info_str
  have hlen : s.data.toList.length = s.size := rfl
  go_enter Tryd.func36, Tryd.ntmps36
  go_wp2
  go_loopw [3, 4, 5] (fun v fr i wr => ∃ (k f n : Nat) (ps : List (List UInt8)), i = .int .i64 k ∧ fr = .int .i64 f ∧ k ≤ s.size + 1 ∧ n ≤ k ∧ Box (n = ps.length) ∧ wr.ownsRow w.heap.size 9 1 v n (strs ps) ∧ Ext w wr ∧ Box ((k ≤ s.size ∧ f ≤ k ∧ splitL (s.data.toList.take k) = ps ++ [(s.extract f k).data.toList]) ∨ (k = s.size + 1 ∧ splitL s.data.toList = ps))) (fun _ _ i _ => s.size + 1 - (intOf i).toNat)
  case atStart => exact ⟨0, 0, 0, [], rfl, rfl, by omega, by omega, ⟨rfl⟩, World.ownsRow_nil _ _ _ _, Below.refl _ _, ⟨.inl ⟨by omega, by omega, by rw [extract_none]; rfl⟩⟩⟩
  case round =>
    obtain ⟨k, f, n, ps, rfl, rfl, hk, hnk, hn, hown, hx, hb⟩ := hrel
    have hsz := hx.size
    rcases Nat.lt_or_ge k (s.size + 1) with hlt | hge
    · obtain ⟨hks, hfk, hsp⟩ : k ≤ s.size ∧ f ≤ k ∧ Box (splitL (s.data.toList.take k) = ps ++ [(s.extract f k).data.toList]) := by
        rcases hb.out with ⟨h1, h2, h3⟩ | ⟨h1, _⟩
        · exact ⟨h1, h2, ⟨h3⟩⟩
        · omega
      clear hb
      have b1 : (0 : Int) ≤ (f : Int) := by omega
      have b2 : (f : Int) ≤ (k : Int) := by omega
      have b3 : (k : Int) ≤ (s.size : Int) := by omega
      rcases Nat.lt_or_ge k s.size with hl2 | hge2
      · have e0 : ((k : Int) == (s.size : Int)) = false := by rw [beq_eq_false_iff_ne]; omega
        have hix := index_at s k hl2
        by_cases hc : s[k] = 32
        · have e1 : ((s[k].toNat : Int) == 32) = true := by rw [hc]; rfl
          have hp2 : Box (splitL (s.data.toList.take (k + 1)) = (ps ++ [(s.extract f k).data.toList]) ++ [(s.extract (k + 1) (k + 1)).data.toList]) := ⟨by rw [take_snoc s k hl2, hc, split_snoc_sp, hsp.out, extract_none]⟩
          have hn2 : Box (n + 1 = (ps ++ [(s.extract f k).data.toList]).length) := ⟨by rw [hn.out]; simp⟩
          clear hc hsp hn
          generalize (s[k].toNat : Int) = c at *
          generalize hq : s.extract f k = q at *
          go_wp2_with (at_builtin; refine wpList_push rfl _ _ 73 rfl w.heap.size 9 i0 (.string ⟨#[]⟩) 1 16 Tryd.underlying73 hi hz0 hz1 hz2 rfl (by decide) _ _ _ rfl hown [.string q] rfl rfl (by simp [Value.oneCell']) (by omega) (by omega) hsz ?_; intro v1 w2 hown2 hg2 hbel2 hs2)
          rw [strs_snoc'] at hown2
          have hx2 : Ext w w2 := Below.trans hx hbel2
          clear hbel2 hg2 hown
          go_roundw
          case rel => exact ⟨k + 1, k + 1, n + 1, _, by go_num, by go_num, by omega, by omega, hn2, hown2, hx2, ⟨.inl ⟨by omega, by omega, hp2.out⟩⟩⟩
          case measure => simp [intOf]; omega
        · have e1 : ((s[k].toNat : Int) == 32) = false := by
            rw [beq_eq_false_iff_ne]; intro e; exact hc (UInt8.toNat_inj.1 (by show s[k].toNat = 32; omega))
          have hp2 : Box (splitL (s.data.toList.take (k + 1)) = ps ++ [(s.extract f (k + 1)).data.toList]) := ⟨by rw [take_snoc s k hl2, split_snoc _ _ hc, hsp.out, lastAdd_eq, extract_snoc s f k hl2 hfk]⟩
          clear hc hsp
          generalize (s[k].toNat : Int) = c at *
          go_wp2
          go_roundw
          case rel => exact ⟨k + 1, f, n, ps, by go_num, rfl, by omega, by omega, hn, hown, hx, ⟨.inl ⟨by omega, by omega, hp2.out⟩⟩⟩
          case measure => simp [intOf]; omega
      · obtain rfl : k = s.size := by omega
        have hp2 : Box (splitL s.data.toList = ps ++ [(s.extract f s.size).data.toList]) := ⟨by rw [← hsp.out, ← hlen, List.take_length]⟩
        have hn2 : Box (n + 1 = (ps ++ [(s.extract f s.size).data.toList]).length) := ⟨by rw [hn.out]; simp⟩
        clear hsp hn
        generalize hq : s.extract f s.size = q at *
        go_wp2_with (at_builtin; refine wpList_push rfl _ _ 73 rfl w.heap.size 9 i0 (.string ⟨#[]⟩) 1 16 Tryd.underlying73 hi hz0 hz1 hz2 rfl (by decide) _ _ _ rfl hown [.string q] rfl rfl (by simp [Value.oneCell']) (by omega) (by omega) hsz ?_; intro v1 w2 hown2 hg2 hbel2 hs2)
        rw [strs_snoc'] at hown2
        have hx2 : Ext w w2 := Below.trans hx hbel2
        clear hbel2 hg2 hown
        go_roundw
        case rel => exact ⟨s.size + 1, s.size + 1, n + 1, _, by go_num, by go_num, by omega, by omega, hn2, hown2, hx2, ⟨.inr ⟨rfl, hp2.out⟩⟩⟩
        case measure => simp [intOf] <;> omega
    · obtain rfl : k = s.size + 1 := by omega
      have hfin : Box (splitL s.data.toList = ps) := by
        rcases hb.out with ⟨h1, _⟩ | ⟨_, h⟩
        · omega
        · exact ⟨h⟩
      clear hb
      go_wp2
      go_ret
      exact ⟨_, rfl, by rw [hfin.out, ← hn.out]; exact hown, hx⟩
end Go.Proofs.YtapngkjgagapeaaDoor
