import Derived.Test.YtnblbneehogadaaH14
import Derived.Deep.QuietTactic
import Derived.BigQuiet
/- The law's fits. -/
namespace Go.Proofs.Ytnblbneehogadaa
open Go.RowKit Go.ChangeMaps
theorem pre_eq (s pre : ByteArray) (h : pre.size ≤ s.size) : ((s.extract 0 pre.size).toList == pre.toList) = pre.data.toList.isPrefixOf s.data.toList := by
  have e1 : (s.extract 0 pre.size) = ⟨(s.data.toList.take pre.size).toArray⟩ := by
    apply ByteArray.ext
    apply Array.ext'
    simp
  have h2 : pre.size = pre.data.toList.length := by simp
  by_cases hp : pre.data.toList.isPrefixOf s.data.toList = true
  · rw [hp]
    have h3 := List.prefix_iff_eq_take.1 (List.isPrefixOf_iff_prefix.1 hp)
    rw [e1, h2, ← h3]
    simp
  · rw [Bool.not_eq_true] at hp
    rw [hp, beq_eq_false_iff_ne]
    intro he
    have h4 : s.extract 0 pre.size = pre := by
      apply ByteArray.ext
      apply Array.ext'
      have := he
      rw [Lib.toList_data, Lib.toList_data] at this
      exact this
    rw [e1] at h4
    have h5 : s.data.toList.take pre.size = pre.data.toList := by
      have := congrArg (fun b => b.data.toList) h4
      simpa using this
    have h6 : pre.data.toList.isPrefixOf s.data.toList = true := by
      rw [List.isPrefixOf_iff_prefix, ← h5]
      exact List.take_prefix _ _
    rw [hp] at h6
    cases h6
theorem isK_snoc (ks : List Int) (k : Int) (i : Nat) (hi : i < ks.length) : (decide (ks = []) || decide (k ∈ ks.take (i + 1))) = (decide (ks = []) || decide (k ∈ ks.take i) || (ks[i] == k)) := by
  rw [List.take_succ_eq_append_getElem hi, Bool.or_assoc]
  congr 1
  by_cases h : k ∈ ks.take i
  · have h' : k ∈ ks.take i ++ [ks[i]] := List.mem_append.2 (Or.inl h)
    rw [decide_eq_true h, decide_eq_true h']
    rfl
  · simp only [List.mem_append, h, List.mem_singleton, false_or, decide_false, Bool.false_or]
    by_cases e : k = ks[i]
    · simp [← e]
    · rw [decide_eq_false e]
      symm
      rw [beq_eq_false_iff_ne]
      exact fun x => e x.symm
set_option maxRecDepth 20000 in
set_option maxHeartbeats 4000000 in
theorem lfits_any (pre : ByteArray) (ka : Option Addr) (kc : Nat) (ks : List Int) (room : Int) (old : Bool) (k : Int) (s : ByteArray) (ua : Option Addr) (n uc b d t : Nat) (w : World) (hC : CellsAt w ka (ks.map (Value.int .i64))) (hn : ks.length ≤ 10) (hp : pre.size ≤ 300) (hs : s.size ≤ 300) :
    Calls Try.prog 10 #[.agg #[.string pre, .slice ka ks.length kc, .int .i64 room, .bool old], .agg #[.int .i64 k, .string s, .slice ua n uc, .int .u64 b, .int .u64 d, .int .u64 t]] w fun e w' => e = .returned (.bool (fitsB pre ks s k)) ∧ Ext w w' := by
  have hx : Ext w ((w.alloc (.cells #[.string pre, .slice ka ks.length kc, .int .i64 room, .bool old] 24)).alloc (.cells #[.int .i64 k, .string s, .slice ua n uc, .int .u64 b, .int .u64 d, .int .u64 t] 30)) := Ext.alloc (Ext.alloc (Below.refl _ _) _) _
  have hR : ((w.alloc (.cells #[.string pre, .slice ka ks.length kc, .int .i64 room, .bool old] 24)).alloc (.cells #[.int .i64 k, .string s, .slice ua n uc, .int .u64 b, .int .u64 d, .int .u64 t] 30)).heap[w.heap.size]? = some (.cells #[.string pre, .slice ka ks.length kc, .int .i64 room, .bool old] 24 (0, 0)) := Ext.blk (Ext.alloc (Below.refl _ _) _) (newblk w _)
  have hE : ((w.alloc (.cells #[.string pre, .slice ka ks.length kc, .int .i64 room, .bool old] 24)).alloc (.cells #[.int .i64 k, .string s, .slice ua n uc, .int .u64 b, .int .u64 d, .int .u64 t] 30)).heap[w.heap.size + 1]? = some (.cells #[.int .i64 k, .string s, .slice ua n uc, .int .u64 b, .int .u64 d, .int .u64 t] 30 (0, 0)) := by
    have h1 := newblk (w.alloc (.cells #[.string pre, .slice ka ks.length kc, .int .i64 room, .bool old] 24)) (.cells #[.int .i64 k, .string s, .slice ua n uc, .int .u64 b, .int .u64 d, .int .u64 t] 30)
    rw [show (w.alloc (.cells #[.string pre, .slice ka ks.length kc, .int .i64 room, .bool old] 24)).heap.size = w.heap.size + 1 by simp] at h1
    exact h1
  obtain ⟨z0, z1, z2, z3, _⟩ := blk4 hR
  have HC := Box.mk hC
  have hks : Box (((ks.length : Int) == 0) = decide (ks = [])) := ⟨by
    cases ks with
    | nil => rfl
    | cons a l => rw [decide_eq_false (by simp), beq_eq_false_iff_ne]; simp; omega⟩
  obtain ⟨e0, he0⟩ : ∃ e0, e0 = ((ks.length : Int) == 0) := ⟨_, rfl⟩
  obtain ⟨w2, hw2⟩ : ∃ w2, w2 = ((w.alloc (.cells #[.string pre, .slice ka ks.length kc, .int .i64 room, .bool old] 24)).alloc (.cells #[.int .i64 k, .string s, .slice ua n uc, .int .u64 b, .int .u64 d, .int .u64 t] 30)) := ⟨_, rfl⟩
  have hx2 : Ext w w2 := by rw [hw2]; exact hx
  replace hx2 := Box.mk hx2
  have hb0 : Box (Ext w2 ((w.alloc (.cells #[.string pre, .slice ka ks.length kc, .int .i64 room, .bool old] 24)).alloc (.cells #[.int .i64 k, .string s, .slice ua n uc, .int .u64 b, .int .u64 d, .int .u64 t] 30))) := ⟨by rw [hw2]; exact Below.refl _ _⟩
  rw [← hw2] at hR hE
  replace hR := Box.mk hR; replace hE := Box.mk hE
  clear hw2 hx hC
  go_enter Try.func10, Try.ntmps10
  go_wp2
  clear z0 z1 z2 z3
  go_loopw [5, 6] (fun sv iv wr => ∃ i : Nat, i ≤ ks.length ∧ iv = .int .i64 (i : Nat) ∧ sv = .bool (decide (ks = []) || decide (k ∈ ks.take i)) ∧ Box (Ext w2 wr)) (fun _ iv _ => ks.length - (intOf iv).toNat)
  case atStart => exact ⟨0, Nat.zero_le _, rfl, by rw [hks.out]; simp, hb0⟩
  case round =>
    obtain ⟨i, hi, rfl, rfl, hb⟩ := hrel
    obtain ⟨m0, m1, m2, m3, _⟩ := blk4 (Ext.blk hb.out hR.out)
    obtain ⟨n0, n1, n2, n3, n4, n5⟩ := blk6 (Ext.blk hb.out hE.out)
    by_cases hlt : i < ks.length
    · obtain ⟨q, o, rfl, hc⟩ := (CellsAt.ext (Ext.trans' hx2.out hb.out) HC.out) i (.int .i64 ks[i]) (by rw [List.getElem?_map, List.getElem?_eq_getElem hlt]; rfl)
      have h0 : (0 : Int) ≤ (i : Int) := by omega
      have h1 : (i : Int) < (ks.length : Int) := by omega
      have hnx := Box.mk (isK_snoc ks k i hlt)
      obtain ⟨p, hpp⟩ : ∃ p, p = (decide (ks = []) || decide (k ∈ ks.take i)) := ⟨_, rfl⟩
      rw [← hpp] at hnx ⊢
      replace hpp := Box.mk hpp
      have hi10 : i < 10 := by omega
      have hmm : Box (i + 1 ≤ ks.length) := ⟨hlt⟩
      generalize ks[i] = y at *
      go_upto_region 5 with (fail)
      cases p
      · go_quiet (fail)
        go_wp2
        go_round
        case rel => exact ⟨i + 1, hmm.out, by go_num, by rw [hnx.out]; rfl, ⟨Ext.drewN hb.out _⟩⟩
        case measure => simp [intOf]; omega
      · go_quiet (fail)
        go_wp2
        go_round
        case rel => exact ⟨i + 1, hmm.out, by go_num, by rw [hnx.out]; rfl, ⟨Ext.drewN hb.out _⟩⟩
        case measure => simp [intOf]; omega
    · obtain rfl : i = ks.length := by omega
      rw [List.take_length]
      obtain ⟨p, hpp⟩ : ∃ p, p = (decide (ks = []) || decide (k ∈ ks)) := ⟨_, rfl⟩
      rw [← hpp]
      obtain ⟨f, hf⟩ : ∃ f, f = pre.data.toList.isPrefixOf s.data.toList := ⟨_, rfl⟩
      have hfin : Box (fitsB pre ks s k = (f && p)) := ⟨by rw [hf, hpp]; rfl⟩
      replace hpp := Box.mk hpp
      go_upto_region 6 with (fail)
      by_cases hle : pre.size ≤ s.size
      · have d1 : decide ((s.size : Int) ≥ (pre.size : Int)) = true := decide_eq_true (by omega)
        have d2 : decide ((pre.size : Int) ≤ (s.size : Int)) = true := decide_eq_true (by omega)
        have d3 : decide (pre.size ≤ s.size) = true := decide_eq_true hle
        have hq : ((s.extract 0 pre.size).toList == pre.toList) = f := by rw [pre_eq s pre hle, hf]
        have g1 : (0 : Int) ≤ (pre.size : Int) := by omega
        have g2 : (pre.size : Int) ≤ (s.size : Int) := by omega
        cases p
        · go_quiet (fail)
          go_wp2
          go_ret
          exact ⟨ret_bool (by rw [hfin.out]; simp), Ext.drewN (Ext.trans' hx2.out hb.out) _⟩
        · go_quiet (fail)
          go_wp2
          go_ret
          exact ⟨ret_bool (by rw [hfin.out, hf]; simp), Ext.drewN (Ext.trans' hx2.out hb.out) _⟩
      · have d1 : decide ((s.size : Int) ≥ (pre.size : Int)) = false := decide_eq_false (by omega)
        have d2 : decide ((pre.size : Int) ≤ (s.size : Int)) = false := decide_eq_false (by omega)
        have d3 : decide (pre.size ≤ s.size) = false := decide_eq_false hle
        have hf0 : Box (f = false) := ⟨by
          rw [hf]
          cases hh : pre.data.toList.isPrefixOf s.data.toList with
          | false => rfl
          | true =>
            exfalso
            have h3 := (List.isPrefixOf_iff_prefix.1 hh).length_le
            simp at h3
            omega⟩
        cases p
        · go_quiet (fail)
          go_wp2
          go_ret
          exact ⟨ret_bool (by rw [hfin.out]; simp), Ext.drewN (Ext.trans' hx2.out hb.out) _⟩
        · go_quiet (fail)
          go_wp2
          go_ret
          exact ⟨ret_bool (by rw [hfin.out, hf0.out]; rfl), Ext.drewN (Ext.trans' hx2.out hb.out) _⟩
end Go.Proofs.Ytnblbneehogadaa
