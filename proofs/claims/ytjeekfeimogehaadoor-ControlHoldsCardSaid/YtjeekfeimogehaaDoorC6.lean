import Derived.Test.YtjeekfeimogehaaDoorC5
import Derived.Lib.AppendIntMem
/- The text of a group. -/
namespace Go.Proofs.YtjeekfeimogehaaDoor
open Go.RowKit

theorem info_str : (Tryd.prog.info? 9).map (fun i => (i.zero, i.size, i.bytes)) = some (some (.string ⟨#[]⟩), 1, 16) := by kernel_rfl

def Tabs (w : World) : Prop := Lib.TabIs Tryd.prog w "internal/strconv.uint64pow10" .u64 Lib.pow10Tab
theorem gTab : Tryd.prog.globalNamed "internal/strconv.uint64pow10" = some 0 := by kernel_rfl
theorem Tabs.ext {w w' : World} (h : Tabs w) (hb : Ext w w') : Tabs w' := by
  unfold Tabs Lib.TabIs World.var? at h ⊢
  rw [gTab] at h ⊢
  simp only [Option.bind_some] at h ⊢
  have hlt : 0 < w.heap.size := by
    rcases Nat.lt_or_ge 0 w.heap.size with h' | h'
    · exact h'
    · rw [Array.getElem?_eq_none h'] at h; cases h
  rw [hb.block 0 hlt]
  exact h

theorem itoa_any (n : Nat) (w : World) (hn : n < 256) (h : Tabs w) : Calls Tryd.prog 40 #[.int .i64 n] w fun e w' => e = .returned (.string (digs n)) ∧ Ext w w' := by
  refine (Tryd.strconv_Itoa n (by omega) (by omega) w h).mono ?_
  rintro e w' ⟨rfl, k, os, rfl⟩
  refine ⟨?_, Lib.below_grow _ _ (Nat.le_refl _) _ _⟩
  unfold digs Lib.itoa
  rw [if_neg (by omega), Int.toNat_natCast]

def toks (l : Nat → Nat) (k : Nat) : List ByteArray := (List.range k).map fun i => tok (l i)
def strs (xs : List ByteArray) : List Value := xs.map .string
theorem toks_succ (l : Nat → Nat) (k : Nat) : toks l (k + 1) = toks l k ++ [tok (l k)] := by unfold toks; rw [List.range_succ, List.map_append]; rfl
theorem toks_len (l : Nat → Nat) (k : Nat) : (toks l k).length = k := by simp [toks]
theorem strs_len (xs : List ByteArray) : (strs xs).length = xs.length := by simp [strs]
theorem strs_append (xs ys : List ByteArray) : strs (xs ++ ys) = strs xs ++ strs ys := by simp [strs]

theorem join_out (l : Nat → Nat) : (⟨(Lib.join ((toks l 8).map (·.data.toList)) [32]).toArray⟩ : ByteArray) = outB l 8 := by
  unfold toks
  rw [show List.range 8 = [0, 1, 2, 3, 4, 5, 6, 7] from rfl]
  simp only [List.map_cons, List.map_nil, Lib.join_cons, Lib.joinTail, List.flatten_cons, List.flatten_nil, outB]
  generalize tok (l 0) = t0; generalize tok (l 1) = t1; generalize tok (l 2) = t2; generalize tok (l 3) = t3
  generalize tok (l 4) = t4; generalize tok (l 5) = t5; generalize tok (l 6) = t6; generalize tok (l 7) = t7
  apply ByteArray.ext
  apply Array.ext'
  simp [ByteArray.data_append, List.append_assoc]

set_option maxHeartbeats 4000000 in
theorem text_bad (W : Int) (w : World) (h0 : 0 ≤ W) (h1 : W < 18446744073709551616) (hv : WM.validN W.toNat = false) :
    Calls Tryd.prog 25 #[.int .u64 W] w fun e w' => e = .returned (.tuple #[.string ⟨#[]⟩, .int .i64 2]) ∧ w = w' := by
  have c1 : Box _ := ⟨fun w => valid_any W w h0 h1⟩
  rw [hv] at c1
  clear h0 h1 hv
  go_enter Tryd.func25, Tryd.ntmps25
  go_wp2_with (first | (go_at_call 8; (with_reducible refine (c1.out _).mono ?_); rintro e w' ⟨rfl, rfl⟩))
  go_ret2
  exact ⟨rfl, rfl⟩

theorem index_A8 (l : Nat → Nat) (k : Nat) (hk : k < 8) (w : World) : (Instr.index 44 (A8 l) (.int .i64 k)).run Tryd.prog w = .ok (.int .u8 (l k)) w := by
  unfold A8
  generalize h0 : l 0 = l0; generalize h1 : l 1 = l1; generalize h2 : l 2 = l2; generalize h3 : l 3 = l3
  generalize h4 : l 4 = l4; generalize h5 : l 5 = l5; generalize h6 : l 6 = l6; generalize h7 : l 7 = l7
  rcases lt8_nat k hk with rfl | rfl | rfl | rfl | rfl | rfl | rfl | rfl
  · rw [h0]; kernel_rfl
  · rw [h1]; kernel_rfl
  · rw [h2]; kernel_rfl
  · rw [h3]; kernel_rfl
  · rw [h4]; kernel_rfl
  · rw [h5]; kernel_rfl
  · rw [h6]; kernel_rfl
  · rw [h7]; kernel_rfl

set_option maxHeartbeats 8000000 in
theorem text_any (W : Int) (w : World) (h0 : 0 ≤ W) (h1 : W < 18446744073709551616) (hv : WM.validN W.toNat = true) (htab : Tabs w) :
    Calls Tryd.prog 25 #[.int .u64 W] w fun e w' => e = .returned (.tuple #[.string (outB (WM.lane W.toNat) 8), .int .i64 0]) ∧ Below w.heap.size w w' := by
  have c1 : Box _ := ⟨fun w => valid_any W w h0 h1⟩
  rw [hv] at c1
  have c0 : Box _ := ⟨fun w => bytes_any W w h0 h1⟩
  have hl := WM.lane_lt W.toNat
  generalize WM.lane W.toNat = l at *
  have ci : Box (∀ i w, Tabs w → Calls Tryd.prog 40 #[.int .i64 (l i)] w fun e w' => e = .returned (.string (digs (l i))) ∧ Ext w w') := ⟨fun i w h => itoa_any _ w (hl i) h⟩
  have hix : Box _ := ⟨index_A8 l⟩
  obtain ⟨ys, hys⟩ : ∃ ys, A8 l = .agg ys := ⟨_, rfl⟩
  rw [hys] at c0 hix
  have Hl := Box.mk hl
  have Ht := Box.mk htab
  obtain ⟨i0, hi, hz0, hz1, hz2⟩ := info_parts info_str
  clear h0 h1 hl hv htab hys
  go_enter Tryd.func25, Tryd.ntmps25
  go_wp2_with (first | (go_at_call 8; (with_reducible refine (c1.out _).mono ?_); rintro e w' ⟨rfl, rfl⟩) | (go_at_call 39; (with_reducible refine (c0.out _).mono ?_); rintro e w1 ⟨rfl, hb⟩))
  go_loopw [4, 12] (fun v i wr => ∃ k : Nat, k ≤ 8 ∧ i = .int .i64 k ∧ wr.ownsRow w.heap.size 9 1 v k (strs (toks l k)) ∧ Below w.heap.size w wr) (fun _ i _ => 8 - (intOf i).toNat)
  case atStart => exact ⟨0, by omega, rfl, World.ownsRow_nil _ _ _ _, hb⟩
  case round =>
    obtain ⟨k, hk, rfl, hown, hbel⟩ := hrel
    have hsz := hbel.size
    by_cases hlt : k < 8
    · have hcn := Box.mk (fun w h => ci.out k w h)
      obtain ⟨k1, hk1⟩ : ∃ k1, Box (k1 = k + 1) := ⟨_, ⟨rfl⟩⟩
      have hs : Box (strs (toks l k1) = strs (toks l k) ++ [.string (tok (l k))]) := ⟨by rw [hk1.out, toks_succ, strs_append]; rfl⟩
      have hL := Hl.out k
      have ht : tok (l k) = if l k = 128 then ⟨#[45]⟩ else if l k = 254 then ⟨#[120]⟩ else digs (l k) := rfl
      have hT := Box.mk (Ht.out.ext hbel)
      generalize strs (toks l k) = xs at *
      have hxk := hix.out k hlt
      clear Hl c0 c1 ci Ht
      by_cases h1 : l k = 128
      · have e1 : ((l k : Int) == 128) = true := by simp; omega
        have ht' := Box.mk (ht.trans (if_pos h1))
        clear ht h1
        go_wp2_with (at_builtin; refine wpList_push rfl _ _ 51 rfl w.heap.size 9 i0 (.string ⟨#[]⟩) 1 16 Tryd.underlying51 hi hz0 hz1 hz2 rfl (by decide) _ _ _ rfl hown [.string ⟨#[45]⟩] rfl rfl (by simp [Value.oneCell']) (by omega) (by omega) hsz ?_; intro v1 w2 hown1 hg1 hbel1 hs1)
        go_roundw
        case rel => exact ⟨k1, by have := hk1.out; omega, by rw [hk1.out]; go_num, by rw [hs.out, ht'.out, hk1.out]; exact hown1, hbel.trans hbel1⟩
        case measure => simp [intOf]; omega
      · have e1 : ((l k : Int) == 128) = false := by simp; omega
        by_cases h2 : l k = 254
        · have e2 : ((l k : Int) == 254) = true := by simp; omega
          have ht' := Box.mk ((ht.trans (if_neg h1)).trans (if_pos h2))
          clear ht h1 h2
          go_wp2_with (at_builtin; refine wpList_push rfl _ _ 51 rfl w.heap.size 9 i0 (.string ⟨#[]⟩) 1 16 Tryd.underlying51 hi hz0 hz1 hz2 rfl (by decide) _ _ _ rfl hown [.string ⟨#[120]⟩] rfl rfl (by simp [Value.oneCell']) (by omega) (by omega) hsz ?_; intro v1 w2 hown1 hg1 hbel1 hs1)
          go_roundw
          case rel => exact ⟨k1, by have := hk1.out; omega, by rw [hk1.out]; go_num, by rw [hs.out, ht'.out, hk1.out]; exact hown1, hbel.trans hbel1⟩
          case measure => simp [intOf]; omega
        · have e2 : ((l k : Int) == 254) = false := by simp; omega
          have ht' := Box.mk ((ht.trans (if_neg h1)).trans (if_neg h2))
          clear ht h1 h2
          generalize digs (l k) = d at *
          go_wp2_with (first | (go_at_call 40; (with_reducible refine (hcn.out _ hT.out).mono ?_); rintro e w3 ⟨rfl, hb3⟩; have hown3 := ownsRow_ext hb3 hown; have hbel3 := Ext.trans' hbel hb3; have hsz3 := hbel3.size) | (at_builtin; refine wpList_push rfl _ _ 51 rfl w.heap.size 9 i0 (.string ⟨#[]⟩) 1 16 Tryd.underlying51 hi hz0 hz1 hz2 rfl (by decide) _ _ _ rfl hown3 [.string d] rfl rfl (by simp [Value.oneCell']) (by omega) (by omega) hsz3 ?_; intro v1 w2 hown1 hg1 hbel1 hs1))
          go_roundw
          case rel => exact ⟨k1, by have := hk1.out; omega, by rw [hk1.out]; go_num, by rw [hs.out, ht'.out, hk1.out]; exact hown1, hbel3.trans hbel1⟩
          case measure => simp [intOf]; omega
    · obtain rfl : k = 8 := by omega
      obtain ⟨a, c, rfl, hn, hnc, hcell⟩ := Sl.owns hown (by omega)
      obtain ⟨b, o, rfl, hc0⟩ := hcell 0 (.string (tok (l 0))) (by simp [strs, toks])
      have hj : Box (Calls Tryd.prog 41 #[.slice (some ⟨b, o, none⟩) 8 c, .string ⟨#[32]⟩] wr fun e w' => e = .returned (.string (outB l 8)) ∧ Below wr.heap.size wr w') := ⟨by
        have hlen : (Lib.join ((toks l 8).map (·.data.toList)) [32]).length ≤ 140737488355328 := by
          have := outB_size l Hl.out 8
          rw [← join_out] at this
          exact Nat.le_trans this (by decide)
        have key := Tryd.strings_Join b o c (toks l 8) ⟨#[32]⟩ wr (fun j x hx => by
            obtain ⟨b', o', he, h⟩ := hcell j (.string x) (by simp [strs, hx])
            cases he; exact h) (lt_of_cell hc0) (by rw [toks_len]; decide) (by rw [toks_len]; exact hnc) hlen
        rw [toks_len] at key
        exact key.mono fun e w' ⟨he, hb⟩ => ⟨he.trans (congrArg (fun s => Ending.returned (.string s)) (join_out l)), hb⟩⟩
      clear hcell hc0 ci c0 c1 hix Hl hown
      go_wp2_with (first | (go_at_call 41; (with_reducible refine hj.out.mono ?_); rintro e w2 ⟨rfl, hb2⟩))
      go_ret2
      exact ⟨rfl, Ext.trans' hbel hb2⟩
end Go.Proofs.YtjeekfeimogehaaDoor
