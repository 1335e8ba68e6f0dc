import Derived.Test.YtapngkjgagapeaaDoorVU
import Derived.Deep.RegionHeld3
import Derived.Deep.CutRange
import Derived.Deep.CutBlock
import Derived.Deep.QuietTactic
import Derived.BigQuiet
/- The walk of EventStreams. -/
namespace Go.Proofs.YtapngkjgagapeaaDoor
open Go.RowKit
theorem cells8 {w : World} {B : Nat} {c0 c1 c2 c3 c4 c5 c6 c7 : Value} {T : TypeId} (h : w.heap[B]? = some (.cells #[c0, c1, c2, c3, c4, c5, c6, c7] T (0, 0))) : w.cell? ⟨B, 0, none⟩ = some c0 ∧ w.cell? ⟨B, 1, none⟩ = some c1 ∧ w.cell? ⟨B, 2, none⟩ = some c2 ∧ w.cell? ⟨B, 3, none⟩ = some c3 ∧ w.cell? ⟨B, 4, none⟩ = some c4 ∧ w.cell? ⟨B, 5, none⟩ = some c5 ∧ w.cell? ⟨B, 6, none⟩ = some c6 ∧ w.cell? ⟨B, 7, none⟩ = some c7 := by
  refine ⟨?_, ?_, ?_, ?_, ?_, ?_, ?_, ?_⟩ <;> (rw [Lib.cell_of_heap h]; rfl)
theorem SubRow.fits {w : World} {base s n c : Nat} {e : TypeId} {a : Option Addr} {ys : List Value} (h : SubRow w base e s (.slice a n c) n ys) : n ≤ c := by
  rcases h.2 with ⟨hv, h0⟩ | ⟨g, o, cap, cur, hv, hbg, hg, hnc, _⟩
  · omega
  · simp only [Value.slice.injEq] at hv
    obtain ⟨_, _, rfl⟩ := hv
    exact hnc
theorem StE.xs {W w : World} {S c : Nat} {L M : List Nd} {cs : Nat → Nat} {a : Option Addr} (h : StE W w S L cs (.slice a M.length c) M) (hM : M.length ≤ 1048576) : Xs w (.slice a M.length c) (M.map Nd.x) := by
  refine ⟨a, c, by rw [List.length_map], by rw [List.length_map]; exact hM, by rw [List.length_map]; exact h.row.fits, by rw [← evs_xs]; exact h.row.cells, fun x hx => ?_⟩
  obtain ⟨m, hm, rfl⟩ := List.mem_map.1 hx
  obtain ⟨h1, h2⟩ := h.ownM m hm
  exact ⟨(Nd.x_ok h2).1, h1.shape, h1.by (by have := h2.len; omega)⟩
def cnt (cs : Nat → Nat) (j : Nat) : Nat := if 1 ≤ j ∧ j ≤ 5 then cs j else 0
theorem cnC_at (cs : Nat → Nat) (j : Nat) (hj : j < 7) : (cnC cs)[j]? = some (.int .u64 (cnt cs j : Nat)) := by
  obtain rfl | rfl | rfl | rfl | rfl | rfl | rfl : j = 0 ∨ j = 1 ∨ j = 2 ∨ j = 3 ∨ j = 4 ∨ j = 5 ∨ j = 6 := by omega
  all_goals rfl
theorem count_all (S : Nat) (L : List Nd) (cs : Nat → Nat) (n j : Nat) (hj : j < 7) (w : World) (h : Strm w S L cs n) : Calls Tryd.prog 21 #[.pointer (some ⟨S, 0, none⟩), .int .i64 (j : Nat)] w fun e w' => e = .returned (.int .u64 (cnt cs j : Nat)) ∧ w' = w := by
  by_cases h1 : 1 ≤ j ∧ j ≤ 5
  · have h9 := count_any S L cs n j h1.1 h1.2 w h
    unfold cnt
    rw [if_pos h1]
    exact h9.mono (by rintro e w' ⟨he, hw⟩; exact ⟨he, hw.symm⟩)
  · have hk : kB (j : Int) = false := by
      obtain rfl | rfl : j = 0 ∨ j = 6 := by omega
      · decide
      · decide
    have h9 := count_no S L cs n (j : Int) hk w h
    unfold cnt
    rw [if_neg h1]
    exact h9.mono (by rintro e w' ⟨he, hw⟩; exact ⟨he, hw.symm⟩)
/-- The copy goes on, the old stream goes its own way. -/
theorem StE.swap {W w w5 w6 w7 : World} {S n6 : Nat} {L L' M : List Nd} {cs : Nat → Nat} {lv : Value} (h : StE W w S L cs lv M) (h5 : StE W w5 w.heap.size L' cs lv M) (hx : Ext w w5) {t : Nat} (hT : Strm w6 S (L.drop t) cs n6) (hM1 : Mut (fun j => j = S) w5 w6) (hM2 : Mut (Own S (L.drop t)) w6 w7) : StE W w7 w.heap.size L' cs lv M := by
  have hlt : S < w.heap.size := blk_lt h.strm.hd
  have a := h5.apart hM1 (fun j e => by
    subst e
    exact ⟨h.sge, hlt, _, _, (h.strm.ext hx).hd, Or.inl rfl⟩)
  refine a.apart hM2 (fun j hj => ⟨?_, ?_, hT.types hj⟩)
  · rcases hj with rfl | ⟨m, hm, rfl⟩
    · exact h.sge
    · exact h.own _ (Or.inr ⟨m, List.mem_of_mem_drop hm, rfl⟩)
  · rcases hj with rfl | ⟨m, hm, rfl⟩
    · exact hlt
    · exact h.strm.lt m (List.mem_of_mem_drop hm)
theorem tS_cnt : ¬ tS 57 := by unfold tS; decide
theorem es_of {w : World} {B B' c n : Nat} {a : Option Addr} {M : List Nd} (hr : SubRow w B 28 6 (.slice a M.length c) M.length (evs M)) (hO : OwnL B' w M) (hn : n ≤ M.length) (hM : M.length ≤ 1048576) : Es w (.slice a n c) (M.take n) := by
  have hl : (M.take n).length = n := List.length_take_of_le hn
  have hf := hr.fits
  refine ⟨a, c, by rw [hl], by omega, by omega, fun j u hj => hr.cells j u ?_, fun m hm => ?_⟩
  · have h9 := evs_append (M.take n) (M.drop n)
    rw [List.take_append_drop] at h9
    rw [h9, List.getElem?_append_left (List.getElem?_eq_some_iff.1 hj).1]
    exact hj
  · obtain ⟨h1, h2⟩ := hO m (List.mem_of_mem_take hm)
    exact ⟨h1.shape, h1.by (by have := h2.len; omega)⟩
set_option maxHeartbeats 2000000 in
theorem take_neg (S : Nat) (L : List Nd) (cs : Nat → Nat) (n : Nat) (k : Int) (hk : k < 0) (w : World) (h : Strm w S L cs n) : Calls Tryd.prog 19 #[.pointer (some ⟨S, 0, none⟩), .int .i64 k] w fun e w' => e = .returned (.tuple #[.slice none 0 0, .int .i64 2]) ∧ w = w' := by
  obtain ⟨s0, s1, s8, s9, _⟩ := h.cells
  have c1 : Box _ := ⟨none_any S w s9⟩
  have d : decide (k < 0) = true := decide_eq_true hk
  clear h hk
  go_enter Tryd.func19, Tryd.ntmps19
  go_wp2_with (first | (go_at_call 46; (with_reducible refine (c1.out).mono ?_); rintro e w' ⟨rfl, rfl⟩))
  go_ret2
  exact ⟨rfl, rfl⟩
set_option maxHeartbeats 2000000 in
theorem takes_neg (S : Nat) (L : List Nd) (cs : Nat → Nat) (n : Nat) (k : Int) (hk : k < 0) (w : World) (h : Strm w S L cs n) : Calls Tryd.prog 32 #[.pointer (some ⟨S, 0, none⟩), .int .i64 k, .slice none 0 0, .int .i64 2] w fun e w' => e = .returned (.bool true) ∧ Ext w w' := by
  have c1 : Box _ := ⟨take_neg S L cs n k hk w h⟩
  have c2 : Box (∀ w, Calls Tryd.prog 34 #[.slice none 0 0, .slice none 0 0] w fun e w' => e = .returned (.bool true) ∧ Ext w w') := ⟨fun w => sameAll_any _ _ [] [] w (Es.nil w) (Es.nil w) rfl⟩
  clear h hk
  go_enter Tryd.func32, Tryd.ntmps32
  go_wp2_with (first
    | (go_at_call 19; (with_reducible refine (c1.out).mono ?_); rintro e w' ⟨rfl, rfl⟩)
    | (go_at_call 34; (with_reducible refine (c2.out _).mono ?_); rintro e w2 ⟨rfl, hb⟩))
  go_ret
  exact ⟨rfl, hb⟩
theorem meas_dec (m t : Nat) (h : t < m) : m - (((t : Nat) : Int) + 1).toNat < m - ((t : Nat) : Int).toNat := by omega
theorem inc_u8 (x : UInt8) : ((x.toNat : Int) + 1) % 256 = ((x + 1).toNat : Int) := by
  rw [UInt8.toNat_add]; simp
def ldC : Op := Op.load 25 (Operand.tmp 70)
set_option maxRecDepth 100000 in
set_option maxHeartbeats 16000000 in
theorem streams_core (v : Value) (Y : List ActI) (W : World) (hY : ActsArg W v Y) (hn : Y.length ≤ 40) (ht : EnvV W) :
    Calls Tryd.prog 8 #[v] W fun e W' => e = .returned (.bool true) ∧ Ext W W' := by
  obtain ⟨a, c, rfl, hLc, hc, hC, hQ⟩ := hY
  have ck : Box (∀ w, Ext W w → Calls Tryd.prog 11 #[] w fun e w' => e = .returned (.bool true) ∧ Ext w w') := ⟨fun w h => known_any w (ht.ext h)⟩
  have cN : Box (Calls Tryd.prog 16 #[] W fun e w' => e = .returned (.pointer (some ⟨W.heap.size, 0, none⟩)) ∧ Strm w' W.heap.size [] (fun _ => 0) 0 ∧ Ext W w') := ⟨new_any W⟩
  have d0 : decide ((Y.length : Int) > 40) = false := decide_eq_false (by omega)
  have d1 : decide ((40 : Int) < (Y.length : Int)) = false := decide_eq_false (by omega)
  have d2 : decide (40 < Y.length) = false := decide_eq_false (by omega)
  replace hC := Box.mk hC
  replace hQ := Box.mk hQ
  clear ht hLc hc
  go_enter Tryd.func8, Tryd.ntmps8
  go_wp2_with (first
    | (go_at_call 16; (with_reducible refine (cN.out).mono ?_); rintro e w1 ⟨rfl, hS1, hx1⟩))
  have hK0 := newblk w1 (.cells #[.int .u64 0, .int .u64 0, .int .u64 0, .int .u64 0, .int .u64 0, .int .u64 0, .int .u64 0] 57)
  have hx2 : Ext W (w1.alloc (.cells #[.int .u64 0, .int .u64 0, .int .u64 0, .int .u64 0, .int .u64 0, .int .u64 0, .int .u64 0] 57)) := Ext.alloc hx1 _
  have hS2 := hS1.ext (Ext.alloc (Below.refl _ _) _ : Ext w1 (w1.alloc (.cells #[.int .u64 0, .int .u64 0, .int .u64 0, .int .u64 0, .int .u64 0, .int .u64 0, .int .u64 0] 57)))
  have hKW : W.heap.size < w1.heap.size := blk_lt hS1.hd
  generalize w1.heap.size = K at *
  go_loopw [3, 4, 6] (fun sv lv iv wr => ∃ (t S : Nat) (L : List Nd) (cs : Nat → Nat) (a5 : Option Addr) (c5 : Nat) (M : List Nd), t ≤ Y.length ∧ iv = .int .i64 t ∧ sv = .pointer (some ⟨S, 0, none⟩) ∧ lv = .slice a5 M.length c5 ∧ L.length ≤ t ∧ Box (StE W wr S L cs (.slice a5 M.length c5) M) ∧ Box (M.map (·.v) = L.map (·.v)) ∧ Box (∀ k, cs k ≤ t) ∧ Box (wr.heap[K]? = some (.cells (cnC cs) 57 (0, 0)))) (fun _ _ iv _ => Y.length - (intOf iv).toNat)
  case atStart =>
    exact ⟨0, W.heap.size, [], fun _ => 0, none, 0, [], Nat.zero_le _, rfl, rfl, rfl, Nat.le_refl _, ⟨⟨hx2, Nat.le_refl _, hS2, fun m hm => (by cases hm), SubRow.nil _ _ _ _, fun m hm => (by cases hm)⟩⟩, ⟨rfl⟩, ⟨fun _ => Nat.zero_le _⟩, ⟨hK0⟩⟩
  case round =>
    obtain ⟨t, S, L, cs, a5, c5, M, htY, rfl, rfl, rfl, hLt, hE, hML, hcs, hKb⟩ := hrel
    obtain ⟨wo, rfl⟩ : ∃ wo, wo = wr := ⟨_, rfl⟩
    by_cases htn : t < Y.length
    · have n0 : (0 : Int) ≤ (t : Int) := by omega
      have n1 : (t : Int) < (Y.length : Int) := by omega
      have n2 : decide ((t : Int) < (Y.length : Int)) = true := decide_eq_true n1
      have n3 : decide (t < Y.length) = true := decide_eq_true htn
      have n4 : IntKind.i64.wrap ((t : Int) + 1) = (t : Int) + 1 := by rw [IntKind.wrap_i64]; omega
      obtain ⟨b, o, rfl, hrow⟩ := rows_row aC 8 aC_len (by decide) hC.out t htn
      have hq := hQ.out _ (List.getElem_mem htn)
      obtain ⟨⟨q1, q2⟩, hxw⟩ := hq
      obtain ⟨ua, un, uc, hu, hun, hul⟩ := by_of_ints hxw.u
      have p0 : wo.cell? ⟨b, o + t * 8, none⟩ = some (.int .i64 Y[t].w) := Ext.cell hE.out.ext (hrow 0 _ rfl)
      have p1 := Ext.cell hE.out.ext (hrow 1 _ rfl)
      have p2 := Ext.cell hE.out.ext (hrow 2 _ rfl)
      have p3 := Ext.cell hE.out.ext (hrow 3 _ rfl)
      have p4 := Ext.cell hE.out.ext (hrow 4 _ rfl)
      have p5 := Ext.cell hE.out.ext (hrow 5 _ rfl)
      have p6 := Ext.cell hE.out.ext (hrow 6 _ rfl)
      have p7 := Ext.cell hE.out.ext (hrow 7 _ rfl)
      rw [hu] at p4
      have hs := hxw.s
      have hbd := hxw.b
      have hdd := hxw.d
      have htd := hxw.t
      generalize Y[t] = y at *
      obtain ⟨yw, yn, ⟨k, s, u, bi, de, at_⟩⟩ := y
      simp only at p0 p1 p2 p3 p4 p5 p6 p7 hu hs hbd hdd htd q1 q2
      have cL : Box (∀ w, _) := ⟨fun w => light_any k s ua un uc bi de at_ w hs hun⟩
      clear hrow hxw
      cases hlt : lightB s.size un with
      | false =>
        rw [hlt] at cL
        have hxe := Box.mk hE.out.ext
        go_wp2_with (first
          | (go_at_call 22; (with_reducible refine (cL.out _).mono ?_); rintro e w3 ⟨rfl, hb3⟩)
          | (go_at_call 11; (with_reducible refine (ck.out _ (Ext.trans' (Ext.alloc hxe.out _) hb3)).mono ?_); rintro e w4 ⟨rfl, hb4⟩))
        go_ret
        exact ⟨rfl, Ext.trans' (Ext.trans' (Ext.alloc hxe.out _) hb3) hb4⟩
      | true =>
        rw [hlt] at cL
        have hlt2 : s.size ≤ 300 ∧ un ≤ 1000 := by unfold lightB at hlt; simpa using hlt
        obtain ⟨l, rfl, hby⟩ := hul (by omega)
        have hin : EvX.In ⟨k, s, .slice ua l.length uc, l, bi, de, at_⟩ := ⟨by show s.size ≤ _; omega, by show l.length ≤ _; omega, hbd, hdd, htd⟩
        have hA := newblk wo (.cells #[.int .i64 yw, .int .i64 yn, .int .i64 k, .string s, .slice ua l.length uc, .int .u64 bi, .int .u64 de, .int .u64 at_] 59)
        have hE1 := hE.out.ext' (Ext.alloc (Below.refl _ _) _ : Ext wo (wo.alloc (.cells #[.int .i64 yw, .int .i64 yn, .int .i64 k, .string s, .slice ua l.length uc, .int .u64 bi, .int .u64 de, .int .u64 at_] 59)))
        have hK1 := Ext.blk (Ext.alloc (Below.refl _ _) _ : Ext wo (wo.alloc (.cells #[.int .i64 yw, .int .i64 yn, .int .i64 k, .string s, .slice ua l.length uc, .int .u64 bi, .int .u64 de, .int .u64 at_] 59))) hKb.out
        replace hE1 := Box.mk hE1
        replace hK1 := Box.mk hK1
        replace hA := Box.mk hA
        replace hin := Box.mk hin
        replace hby := Box.mk hby
        obtain ⟨b0, f0, hb0⟩ : ∃ b0, (yw == 0) = b0 ∧ Box (b0 = true ↔ yw = 0) := ⟨yw == 0, rfl, ⟨beq_iff_eq⟩⟩
        go_upto_block 2 with (first
          | (go_at_call 22; (with_reducible refine (cL.out _).mono ?_); rintro e w3 ⟨rfl, hb3⟩; replace hE1 := Box.mk (hE1.out.ext' hb3); replace hK1 := Box.mk (Ext.blk hb3 hK1.out); replace hA := Box.mk (Ext.blk hb3 hA.out); obtain ⟨x0, x1, x2, x3, x4, x5, x6, x7⟩ := cells8 hA.out; clear hb3))
        go_cut [3, 4, 8, 9, 10, 11, 12] from 25 to 129 (fun s3 s4 _ _ _ _ _ wx => ∃ (S' : Nat) (L' : List Nd) (cs' : Nat → Nat) (a6 : Option Addr) (c6 : Nat) (M' : List Nd), s3 = .pointer (some ⟨S', 0, none⟩) ∧ s4 = .slice a6 M'.length c6 ∧ L'.length ≤ t + 1 ∧ Box (StE W wx S' L' cs' (.slice a6 M'.length c6) M') ∧ Box (M'.map (·.v) = L'.map (·.v)) ∧ Box (∀ k, cs' k ≤ t + 1) ∧ Box (wx.heap[K]? = some (.cells (cnC cs') 57 (0, 0))))
        case first =>
          obtain ⟨b1, f1, hb1⟩ : ∃ b1, (yw == 1) = b1 ∧ Box (b1 = true ↔ yw = 1) := ⟨yw == 1, rfl, ⟨beq_iff_eq⟩⟩
          have hgd : Box (∀ m ∈ L, Good m.v) := ⟨fun m hm => (hE1.out.ownL m hm).2⟩
          have hlm : Box (M.length = L.length) := ⟨by
            have := congrArg List.length hML.out
            simpa using this⟩
          cases b0 with
          | true =>
            have hby2 := hby.out
            rw [hu] at hby2
            have hl9 : l.length ≤ 100000 := hin.out.l
            have hs9 : s.size ≤ 100000 := hin.out.s
            have cCp : Box (Calls Tryd.prog 23 #[.agg #[.int .i64 k, .string s, .slice ua l.length uc, .int .u64 bi, .int .u64 de, .int .u64 at_]] w3 fun e w' => ∃ a' c', e = .returned (.agg #[.int .i64 k, .string s, .slice a' l.length c', .int .u64 bi, .int .u64 de, .int .u64 at_]) ∧ OwnB w3.heap.size w' (.slice a' l.length c') l ∧ Ext w3 w') := ⟨rvcopy_any k s ua l uc bi de at_ w3 (hby2.ext hE1.out.ext) hl9⟩
            have cV : Box (∀ a' c' w', Calls Tryd.prog 24 #[.agg #[.int .i64 k, .string s, .slice a' l.length c', .int .u64 bi, .int .u64 de, .int .u64 at_]] w' fun e w'' => e = .returned (.bool (okV k s.size l.length bi de at_)) ∧ Ext w' w'') := ⟨fun a' c' w' => rvalid_any k s a' l.length c' bi de at_ w' (by omega) (by omega) hdd htd⟩
            go_upto_region 21 with (first
              | (go_at_call 23; (with_reducible refine (cCp.out).mono ?_); rintro e w5 ⟨ga, gc, rfl, hO5, hb5⟩))
            have hx6 : Ext w3 (w5.alloc (.cells #[.int .i64 k, .string s, .slice ga l.length gc, .int .u64 bi, .int .u64 de, .int .u64 at_] 28)) := Ext.alloc hb5 _
            have hG6 := Box.mk (newblk w5 (.cells #[.int .i64 k, .string s, .slice ga l.length gc, .int .u64 bi, .int .u64 de, .int .u64 at_] 28))
            have hE6 := Box.mk (hE1.out.ext' hx6)
            have hK6 := Box.mk (Ext.blk hx6 hK1.out)
            have hO6 := Box.mk (hO5.ext (Ext.alloc (Below.refl _ _) (.cells #[.int .i64 k, .string s, .slice ga l.length gc, .int .u64 bi, .int .u64 de, .int .u64 at_] 28)))
            have hlt6 : w3.heap.size ≤ w5.heap.size := hb5.size
            have hszW : W.heap.size ≤ w3.heap.size := hE1.out.ext.size
            have hSlt3 : S < w3.heap.size := blk_lt hE1.out.strm.hd
            have hLlt3 := Box.mk hE1.out.strm.lt
            have hAL3 : Box (∀ g, Value.ownBlock (.slice ga l.length gc) = some g → Avoid g L ∧ Avoid g M ∧ w3.heap.size ≤ g ∧ g < w5.heap.size) := ⟨fun g hg => by
              have h1 := hO5.lt g hg
              exact ⟨hE1.out.ownL.avoid h1.1, hE1.out.ownM.avoid h1.1, h1⟩⟩
            clear hO5 hb5 hx6 cCp x0 x1 x2 x3 x4 x5 x6 x7
            obtain ⟨G, hGe⟩ : ∃ G, G = w5.heap.size := ⟨_, rfl⟩
            rw [← hGe] at hG6 hlt6 hAL3
            have hszG : (w5.alloc (.cells #[.int .i64 k, .string s, .slice ga l.length gc, .int .u64 bi, .int .u64 de, .int .u64 at_] 28)).heap.size = G + 1 := by rw [hGe]; simp
            simp only [← hGe]
            generalize w5.alloc (.cells #[.int .i64 k, .string s, .slice ga l.length gc, .int .u64 bi, .int .u64 de, .int .u64 at_] 28) = w6 at *
            clear hGe
            obtain ⟨m0, m1, m2, m3, m4, m5⟩ := blk6 hG6.out
            cases hok : okV k s.size l.length bi de at_
            · rw [hok] at cV
              have cA : Box (∀ a' c' w', Ext w6 w' → Calls Tryd.prog 17 #[.pointer (some ⟨S, 0, none⟩), .agg #[.int .i64 k, .string s, .slice a' l.length c', .int .u64 bi, .int .u64 de, .int .u64 at_]] w' fun e w'' => e = .returned (.int .i64 2) ∧ Ext w' w'') := ⟨fun a' c' w' hx => Add_bad S L cs L.length k s a' l.length c' bi de at_ w' (hE6.out.strm.ext hx) (by omega) (by omega) hbd hdd htd hok⟩
              go_wp2_with (first
                | (go_at_call 24; (with_reducible refine (cV.out _ _ _).mono ?_); rintro e w7 ⟨rfl, hb7⟩; obtain ⟨m0, m1, m2, m3, m4, m5⟩ := blk6 (Ext.blk hb7 hG6.out))
                | (go_at_call 17; (with_reducible refine (cA.out _ _ _ hb7).mono ?_); rintro e w8 ⟨rfl, hb8⟩))
              have hx8 := Ext.trans' hb7 hb8
              have hEz := Box.mk (hE6.out.ext' hx8)
              have hKz := Box.mk (Ext.blk hx8 hK6.out)
              have hGz := Box.mk (Ext.blk hx8 hG6.out)
              have hOz := Box.mk (hO6.out.ext hx8)
              have hAz : Box (∀ g, Value.ownBlock (.slice ga l.length gc) = some g → Avoid g L ∧ Avoid g M ∧ w3.heap.size ≤ g ∧ g < G) := hAL3
              have hLz : Box (L.length ≤ t + 1) := ⟨by omega⟩
              have hMz : Box (M.map (·.v) = L.map (·.v)) := hML
              have hcz : Box (∀ k, cs k ≤ t + 1) := ⟨fun k => by have := hcs.out k; omega⟩
              have hzK : K < G := by have := blk_lt hK1.out; omega
              clear cA hb7 hb8 hx8 hE6 hK6 hG6 hO6 m0 m1 m2 m3 m4 m5 cV hok
              generalize w8 = wz at *
              clear hAL3
              obtain ⟨cG, hGz2, hcG2⟩ : ∃ cG : Array Value, Box (wz.heap[G]? = some (.cells cG 28 (0, 0))) ∧ Box (cG[2]? = some (.slice ga l.length gc)) := ⟨_, hGz, ⟨rfl⟩⟩
              clear hGz
              go_loopw [10] (fun iv wr => ∃ i : Nat, i ≤ l.length ∧ iv = .int .i64 (i : Nat) ∧ (∃ l' : List UInt8, Box (l'.length = l.length) ∧ Box (wr.ownsRow w3.heap.size 5 1 (.slice ga l.length gc) l.length ((nums l').map (Value.int .u8)))) ∧ Box (StE W wr S L cs (.slice a5 M.length c5) (M)) ∧ Box (wr.heap[K]? = some (.cells (cnC cs) 57 (0, 0))) ∧ Box (wr.heap[G]? = some (.cells cG 28 (0, 0)))) (fun iv _ => l.length - (intOf iv).toNat)
              case atStart => exact ⟨0, Nat.zero_le _, rfl, ⟨l, ⟨rfl⟩, hOz⟩, hEz, hKz, hGz2⟩
              case round =>
                obtain ⟨i, hil, rfl, ⟨l', hl', hown⟩, hEr, hKr, hGr⟩ := hrel
                have g2 : wr.cell? ⟨G, 2, none⟩ = some (.slice ga l.length gc) := (Lib.cell_of_heap hGr.out 2).trans hcG2.out
                by_cases hlt9 : i < l.length
                · have hlt' : i < l'.length := by rw [hl'.out]; exact hlt9
                  obtain ⟨g, rfl⟩ : ∃ g, ga = some ⟨g, 0, none⟩ := by
                    rcases hown.out.2 with ⟨_, h0⟩ | ⟨g, cap, cur, hv, _⟩
                    · omega
                    · simp only [Value.slice.injEq] at hv; exact ⟨g, hv.1⟩
                  have hcell : wr.cell? ⟨g, i, none⟩ = some (.int .u8 (l'[i].toNat : Int)) := by
                    rw [hown.out.cellAt i (by omega)]; simp [nums, hlt']
                  have hfz : wr.frozen? ⟨g, i, none⟩ = false := hown.out.frozenAt i
                  obtain ⟨hst1, hst2⟩ := hown.out.stored i (.int .u8 ((l'[i] + 1).toNat : Int))
                  have hset : ((nums l').map (Value.int .u8)).set i (.int .u8 ((l'[i] + 1).toNat : Int)) = (nums (l'.set i (l'[i] + 1))).map (Value.int .u8) := by simp [nums, List.map_set]
                  rw [hset] at hst1
                  have hlen2 : Box ((l'.set i (l'[i] + 1)).length = l.length) := ⟨by rw [List.length_set]; exact hl'.out⟩
                  have hz1 := (hAz.out g rfl).2.2
                  have hE9 := hEr.out.bytes (B := w3.heap.size) (u := .slice (some ⟨g, 0, none⟩) l.length gc) (l := l') (by show wr.ownsRow _ _ _ _ l'.length _; rw [hl'.out]; exact hown.out) hszW hst2 (fun g' h => ⟨(hAz.out g' h).1, (hAz.out g' h).2.1⟩)
                  have hKlt9 : K < w3.heap.size := blk_lt hK1.out
                  have hK9 := (hst2.block K (blk_lt hKr.out) (fun e => by simp only [Value.ownBlock, Option.some.injEq] at e; omega)).trans hKr.out
                  have hG9 := (hst2.block G (blk_lt hGr.out) (fun e => by simp only [Value.ownBlock, Option.some.injEq] at e; omega)).trans hGr.out
                  have hi := inc_u8 l'[i]
                  have hw : IntKind.u8.wrap ((l'[i].toNat : Int) + 1) = ((l'[i] + 1).toNat : Int) := by rw [IntKind.wrap_u8]; exact hi
                  have j0' : (0 : Int) ≤ (i : Int) := by omega
                  have j1' : (i : Int) < (l.length : Int) := by omega
                  have j4' : IntKind.i64.wrap ((i : Int) + 1) = (i : Int) + 1 := by have := hl9; rw [IntKind.wrap_i64]; omega
                  have hms := meas_dec l.length i hlt9
                  replace hst1 := Box.mk hst1; replace hE9 := Box.mk hE9; replace hK9 := Box.mk hK9; replace hG9 := Box.mk hG9
                  generalize l'.set i (l'[i] + 1) = l2 at *
                  generalize ((l'[i] + 1).toNat : Int) = q at *
                  generalize (l'[i].toNat : Int) = p at *
                  clear hst2 hset hi hown
                  go_wp2
                  exact ⟨⟨i + 1, hlt9, congrArg (Value.int .i64) (Int.natCast_succ i).symm, ⟨l2, hlen2, hst1⟩, hE9, hK9, hG9⟩, hms⟩
                · obtain rfl : i = l.length := by omega
                  go_wp2
                  go_meet
                  exact ⟨S, L, cs, a5, c5, M, rfl, rfl, hLz.out, hEr, hMz, hcz, hKr⟩
            · have hin9 := hin.out
              obtain ⟨⟨j, hj, hj1, hj5⟩, _⟩ := okV_parts hok
              subst hj
              rw [hok] at cV
              have hgood : Box (Good ⟨j, ⟨s.data.toList, l, de, bi⟩, at_⟩) := ⟨Good.of_x (x := ⟨(j : Nat), s, .slice none 0 0, l, bi, de, at_⟩) hok ⟨hin9.s, hin9.l, hin9.b, hin9.d, hin9.t⟩⟩
              have cA : Box (∀ a' c' w', By w' (.slice a' l.length c') l → Ext w6 w' → Calls Tryd.prog 17 #[.pointer (some ⟨S, 0, none⟩), .agg #[.int .i64 (j : Nat), .string s, .slice a' l.length c', .int .u64 bi, .int .u64 de, .int .u64 at_]] w' fun e w'' => e = .returned (.int .i64 0) ∧ ∃ m : Nd, m.v = ⟨j, ⟨s.data.toList, l, de, bi⟩, at_⟩ ∧ Strm w'' S (L ++ [m]) (bump cs j) (L.length + 1) ∧ OwnB w'.heap.size w'' m.u m.v.e.val ∧ Mut (Own S L) w' w'') := ⟨fun a' c' w' hb hx => Add_x S L cs L.length ⟨(j : Nat), s, .slice a' l.length c', l, bi, de, at_⟩ a' c' w' (hE6.out.strm.ext hx) (by omega) (fun k => by have := hcs.out k; omega) hok ⟨hin9.s, hin9.l, hin9.b, hin9.d, hin9.t⟩ hb⟩
              clear hok hin9
              go_upto_region 27 with (first
                | (go_at_call 24; (with_reducible refine (cV.out _ _ _).mono ?_); rintro e w7 ⟨rfl, hb7⟩; have hby7 := (hO6.out.ext hb7).by (by omega); replace hb7 := Box.mk hb7; obtain ⟨m0, m1, m2, m3, m4, m5⟩ := blk6 (Ext.blk hb7.out hG6.out))
                | (go_at_call 17; (with_reducible refine (cA.out _ _ _ hby7 hb7.out).mono ?_); rintro e w8 ⟨rfl, m, hmv, hS8, hOm, hM8⟩))
              have hE7 := hE6.out.ext' hb7.out
              have hG7 := Ext.blk hb7.out hG6.out
              have hK7 := Ext.blk hb7.out hK6.out
              have hO7 := hO6.out.ext hb7.out
              have hE8 := hE7.add hS8 hOm (by rw [hmv]; exact hgood.out) hM8
              have hG8 := (hM8.other G (blk_lt hG7) (hE7.strm.apart hG7 (by decide) (by decide))).trans hG7
              have hK8 := (Keep.of_mut (T := tS) hM8 (fun j hj => hE7.strm.types hj)).same hK7 tS_cnt
              have hO8 := hO7.mut hM8 (fun j hj => by
                rcases hj with rfl | ⟨n, hn, rfl⟩
                · exact hSlt3
                · exact hLlt3.out n hn)
              have hA8 : Box (∀ g, Value.ownBlock (.slice ga l.length gc) = some g → Avoid g (L ++ [m]) ∧ Avoid g M ∧ w3.heap.size ≤ g ∧ g < G) := ⟨fun g hg => by
                obtain ⟨h1, h2, h3, h4⟩ := hAL3.out g hg
                refine ⟨h1.app (hOm.avoid ?_), h2, h3, h4⟩
                have := hb7.out.size
                omega⟩
              have hL8 : Box ((L ++ [m]).length ≤ t + 1) := ⟨by rw [List.length_append]; simp only [List.length_cons, List.length_nil]; omega⟩
              have hM8' : Box (∀ u, (M ++ [(⟨0, u, ⟨j, ⟨s.data.toList, l, de, bi⟩, at_⟩⟩ : Nd)]).map (·.v) = (L ++ [m]).map (·.v)) := ⟨fun u => by rw [List.map_append, List.map_append, hML.out]; simp [hmv]⟩
              have hc8 : Box (∀ k, bump cs j k ≤ t + 1) := ⟨fun k => bump_le hcs.out j k⟩
              have hMt : M.length ≤ 1000 := by rw [hlm.out]; omega
              have hKlt : K < w3.heap.size := blk_lt hK1.out
              have hKW9 : W.heap.size ≤ K := Nat.le_of_lt hKW
              have hcsj := hcs.out j
              have hrowb : Box (∀ g, Value.ownBlock (.slice a5 M.length c5) = some g → g ≠ G ∧ g ≠ K ∧ g < w8.heap.size) := ⟨fun g hg => by
                obtain ⟨_, c9, hb⟩ := hE1.out.row.block hg
                refine ⟨fun e => ?_, fun e => ?_, ?_⟩
                · have := blk_lt hb; omega
                · rw [e, hK1.out] at hb
                  simp only [Option.some.injEq, Obj.cells.injEq] at hb
                  exact absurd hb.2.1 (by decide)
                · have h1 := blk_lt hb
                  have h2 := blk_lt hG8
                  omega⟩
              generalize hLz : L ++ [m] = Lz at *
              generalize hcz : bump cs j = csz at *
              have hcsz : Box (bump cs j = csz) := ⟨hcz⟩
              replace hE8 := Box.mk hE8; replace hG8 := Box.mk hG8; replace hK8 := Box.mk hK8; replace hO8 := Box.mk hO8
              clear hE7 hG7 hK7 hO7 hS8 hOm hM8 hmv hLz hcz cA cV hb7 hby7 hE6 hG6 hK6 hO6 m0 m1 m2 m3 m4 m5 hAL3 hLlt3
              have cCA : Box (∀ w', Ext w8 w' → Calls Tryd.prog 23 #[.agg #[.int .i64 (j : Nat), .string s, .slice ga l.length gc, .int .u64 bi, .int .u64 de, .int .u64 at_]] w' fun e w'' => ∃ a2 c2, e = .returned (.agg #[.int .i64 (j : Nat), .string s, .slice a2 l.length c2, .int .u64 bi, .int .u64 de, .int .u64 at_]) ∧ Ext w8 w'' ∧ OwnB w8.heap.size w'' (.slice a2 l.length c2) l ∧ ∃ (a4 : Option Addr) (c4 : Nat) (w4 : World), (Builtin.append_ #[41, 41] 41 #[.slice a5 M.length c5, .slice (some ⟨w''.heap.size, 0, none⟩) 1 1]).run Tryd.prog (w''.alloc (.cells #[.int .i64 (j : Nat), .string s, .slice a2 l.length c2, .int .u64 bi, .int .u64 de, .int .u64 at_] 28)) = .ok (.slice a4 (M.length + 1) c4) w4 ∧ StE W w4 S Lz csz (.slice a4 (M.length + 1) c4) (M ++ [⟨0, .slice a2 l.length c2, ⟨j, ⟨s.data.toList, l, de, bi⟩, at_⟩⟩]) ∧ Keep tE w'' w4 ∧ ∀ B, B < w''.heap.size → Value.ownBlock (.slice a5 M.length c5) ≠ some B → w4.heap[B]? = w''.heap[B]?) := ⟨fun w' hx => (rvcopy_any (j : Nat) s ga l gc bi de at_ w' ((hO8.out.ext hx).by (by omega)) hl9).mono (by
                rintro e w'' ⟨a2, c2, he, h1, h2⟩
                have h3 := Ext.trans' hx h2
                have h4 := h1.mono hx.size
                obtain ⟨a4, c4, w4, g1, g2, g3, g4⟩ := hE8.out.more h3 hMt h4 hgood.out
                exact ⟨a2, c2, he, h3, h4, a4, c4, w4, g1, g2, g3, g4⟩)⟩
              have j0 : (0 : Int) ≤ (j : Int) := by omega
              have j1 : (j : Int) < 7 := by omega
              have j2 : j < 7 := by omega
              have j3 : IntKind.u64.wrap ((cs j : Int) + 1) = (cs j : Int) + 1 := by rw [IntKind.wrap_u64]; omega
              obtain ⟨m0, m1, m2, m3, m4, m5⟩ := blk6 hG8.out
              have kc0 : w8.drew.cell? ⟨K, j, none⟩ = some (.int .u64 (cs j : Nat)) := (Lib.cell_of_heap hK8.out j).trans (cnC_get cs j hj1 hj5)
              have hKG : K ≠ G := by omega
              go_cut [4] from 61 to 73 (fun s4 wx => ∃ (a2 a4 : Option Addr) (c2 c4 : Nat), s4 = .slice a4 (M.length + 1) c4 ∧ Box (StE W wx S Lz csz (.slice a4 (M.length + 1) c4) (M ++ [⟨0, .slice a2 l.length c2, ⟨j, ⟨s.data.toList, l, de, bi⟩, at_⟩⟩])) ∧ Box (OwnB w8.heap.size wx (.slice a2 l.length c2) l) ∧ Box (wx.heap[K]? = some (.cells (cnC csz) 57 (0, 0))) ∧ Box (wx.heap[G]? = some (.cells #[.int .i64 (j : Nat), .string s, .slice ga l.length gc, .int .u64 bi, .int .u64 de, .int .u64 at_] 28 (0, 0))) ∧ Box (OwnB w3.heap.size wx (.slice ga l.length gc) l))
              case first =>
                rw [show Op.load 25 (Operand.tmp 70) = ldC from rfl]
                have hop : ldC = Op.load 25 (Operand.tmp 70) := rfl
                have hE8x := hE8
                go_region_held3 (fun w' => (w'.cell? ⟨G, 0, none⟩ = some (.int .i64 (j : Nat)) ∧ w'.cell? ⟨G, 1, none⟩ = some (.string s) ∧ w'.cell? ⟨G, 2, none⟩ = some (.slice ga l.length gc) ∧ w'.cell? ⟨G, 3, none⟩ = some (.int .u64 bi) ∧ w'.cell? ⟨G, 4, none⟩ = some (.int .u64 de) ∧ w'.cell? ⟨G, 5, none⟩ = some (.int .u64 at_)))
                  (first
                    | (with_reducible exact ⟨keepd m0, keepd m1, keepd m2, keepd m3, keepd m4, keepd m5⟩)
                    | (with_reducible exact ⟨n0, n1, n2', n3', n4', n5⟩)
                    | (with_reducible exact ⟨keepa n0, keepa n1, keepa n2', keepa n3', keepa n4', keepa n5⟩)
                    | (with_reducible exact ⟨o0, o1, o2, o3, o4, o5⟩)
                    | (with_reducible exact ⟨keeps hKG o0, keeps hKG o1, keeps hKG o2, keeps hKG o3, keeps hKG o4, keeps hKG o5⟩))
                  (first
                    | (refine step_append_run rfl _ _ _ rfl (.slice a5 M.length c5) (.slice (some ⟨w9.heap.size, 0, none⟩) 1 1) _ _ rfl rfl (by with_reducible exact hrun) ?_)
                    | (go_at_call 23; (with_reducible refine (cCA.out _ (Ext.drew1 (Below.refl _ _))).mono ?_); rintro e w9 ⟨a2, c2, rfl, hx9, hO9, a4, c4, w4, hrun, hE4, hkE, hob⟩; obtain ⟨f1, f2, f3, f4, f5, f6, f7⟩ := fin0 hE4 hkE hob hx9 hK8.out hG8.out hO9 hO8.out (fun e => (hrowb.out _ e).1 rfl) (fun e => (hrowb.out _ e).2.1 rfl) hKW9 hKG hj1 hj5; rw [hcsz.out] at f3; replace f1 := Box.mk f1; replace f2 := Box.mk f2; replace f3 := Box.mk f3; replace f4 := Box.mk f4; replace f5 := Box.mk f5; obtain ⟨n0, n1, n2', n3', n4', n5⟩ := blk6 (Ext.blk hx9 hG8.out); obtain ⟨o0, o1, o2, o3, o4, o5⟩ := blk6 f7; have kc1 : w9.cell? ⟨K, j, none⟩ = some (.int .u64 (cs j : Nat)) := (Lib.cell_of_heap (Ext.blk hx9 hK8.out) j).trans (cnC_get cs j hj1 hj5); have kc3 : w4.cell? ⟨K, j, none⟩ = some (.int .u64 (cs j : Nat)) := (Lib.cell_of_heap f6 j).trans (cnC_get cs j hj1 hj5); have kfz : w4.frozen? ⟨K, j, none⟩ = false := Lib.frozen_of_heap f6 j; have kl9 : K < w9.heap.size := lt_of_cell kc1; clear hE4 hkE hob hx9 hO9 f6 f7))
                all_goals
                  go_wp2_with (fail)
                  go_meet
                  exact ⟨a2, a4, c2, c4, rfl, f1, f2, f3, f4, f5⟩
              case rest =>
                obtain ⟨a2, a4, c2, c4, rfl, hEz, hO9, hKz, hGz, hOz⟩ := hcut
                have hAz : Box (∀ g, Value.ownBlock (.slice ga l.length gc) = some g → Avoid g Lz ∧ Avoid g (M ++ [⟨0, .slice a2 l.length c2, ⟨j, ⟨s.data.toList, l, de, bi⟩, at_⟩⟩]) ∧ w3.heap.size ≤ g ∧ g < G) := ⟨fun g hg => by
                  obtain ⟨h1, h2, h3, h4⟩ := hA8.out g hg
                  have := blk_lt hG8.out
                  exact ⟨h1, h2.app (hO9.out.avoid (by omega)), h3, h4⟩⟩
                have hMz := Box.mk (hM8'.out (Value.slice a2 l.length c2))
                have hnz : Box ((M ++ [(⟨0, .slice a2 l.length c2, ⟨j, ⟨s.data.toList, l, de, bi⟩, at_⟩⟩ : Nd)]).length = M.length + 1) := ⟨List.length_append.trans rfl⟩
                clear kc0 m0 m1 m2 m3 m4 m5 cCA
                generalize M ++ [(⟨0, .slice a2 l.length c2, ⟨j, ⟨s.data.toList, l, de, bi⟩, at_⟩⟩ : Nd)] = Mz at *
                go_wp2
                generalize wc = wz at *
                obtain ⟨cG, hGz2, hcG2⟩ : ∃ cG : Array Value, Box (wz.heap[G]? = some (.cells cG 28 (0, 0))) ∧ Box (cG[2]? = some (.slice ga l.length gc)) := ⟨_, hGz, ⟨rfl⟩⟩
                clear hGz
                go_loopw [10] (fun iv wr => ∃ i : Nat, i ≤ l.length ∧ iv = .int .i64 (i : Nat) ∧ (∃ l' : List UInt8, Box (l'.length = l.length) ∧ Box (wr.ownsRow w3.heap.size 5 1 (.slice ga l.length gc) l.length ((nums l').map (Value.int .u8)))) ∧ Box (StE W wr S Lz csz (.slice a4 (M.length + 1) c4) (Mz)) ∧ Box (wr.heap[K]? = some (.cells (cnC csz) 57 (0, 0))) ∧ Box (wr.heap[G]? = some (.cells cG 28 (0, 0)))) (fun iv _ => l.length - (intOf iv).toNat)
                case atStart => exact ⟨0, Nat.zero_le _, rfl, ⟨l, ⟨rfl⟩, hOz⟩, hEz, hKz, hGz2⟩
                case round =>
                  obtain ⟨i, hil, rfl, ⟨l', hl', hown⟩, hEr, hKr, hGr⟩ := hrel
                  have g2 : wr.cell? ⟨G, 2, none⟩ = some (.slice ga l.length gc) := (Lib.cell_of_heap hGr.out 2).trans hcG2.out
                  by_cases hlt9 : i < l.length
                  · have hlt' : i < l'.length := by rw [hl'.out]; exact hlt9
                    obtain ⟨g, rfl⟩ : ∃ g, ga = some ⟨g, 0, none⟩ := by
                      rcases hown.out.2 with ⟨_, h0⟩ | ⟨g, cap, cur, hv, _⟩
                      · omega
                      · simp only [Value.slice.injEq] at hv; exact ⟨g, hv.1⟩
                    have hcell : wr.cell? ⟨g, i, none⟩ = some (.int .u8 (l'[i].toNat : Int)) := by
                      rw [hown.out.cellAt i (by omega)]; simp [nums, hlt']
                    have hfz : wr.frozen? ⟨g, i, none⟩ = false := hown.out.frozenAt i
                    obtain ⟨hst1, hst2⟩ := hown.out.stored i (.int .u8 ((l'[i] + 1).toNat : Int))
                    have hset : ((nums l').map (Value.int .u8)).set i (.int .u8 ((l'[i] + 1).toNat : Int)) = (nums (l'.set i (l'[i] + 1))).map (Value.int .u8) := by simp [nums, List.map_set]
                    rw [hset] at hst1
                    have hlen2 : Box ((l'.set i (l'[i] + 1)).length = l.length) := ⟨by rw [List.length_set]; exact hl'.out⟩
                    have hz1 := (hAz.out g rfl).2.2
                    have hE9 := hEr.out.bytes (B := w3.heap.size) (u := .slice (some ⟨g, 0, none⟩) l.length gc) (l := l') (by show wr.ownsRow _ _ _ _ l'.length _; rw [hl'.out]; exact hown.out) hszW hst2 (fun g' h => ⟨(hAz.out g' h).1, (hAz.out g' h).2.1⟩)
                    have hKlt9 : K < w3.heap.size := blk_lt hK1.out
                    have hK9 := (hst2.block K (blk_lt hKr.out) (fun e => by simp only [Value.ownBlock, Option.some.injEq] at e; omega)).trans hKr.out
                    have hG9 := (hst2.block G (blk_lt hGr.out) (fun e => by simp only [Value.ownBlock, Option.some.injEq] at e; omega)).trans hGr.out
                    have hi := inc_u8 l'[i]
                    have hw : IntKind.u8.wrap ((l'[i].toNat : Int) + 1) = ((l'[i] + 1).toNat : Int) := by rw [IntKind.wrap_u8]; exact hi
                    have j0' : (0 : Int) ≤ (i : Int) := by omega
                    have j1' : (i : Int) < (l.length : Int) := by omega
                    have j4' : IntKind.i64.wrap ((i : Int) + 1) = (i : Int) + 1 := by have := hl9; rw [IntKind.wrap_i64]; omega
                    have hms := meas_dec l.length i hlt9
                    replace hst1 := Box.mk hst1; replace hE9 := Box.mk hE9; replace hK9 := Box.mk hK9; replace hG9 := Box.mk hG9
                    generalize l'.set i (l'[i] + 1) = l2 at *
                    generalize ((l'[i] + 1).toNat : Int) = q at *
                    generalize (l'[i].toNat : Int) = p at *
                    clear hst2 hset hi hown
                    go_wp2
                    exact ⟨⟨i + 1, hlt9, congrArg (Value.int .i64) (Int.natCast_succ i).symm, ⟨l2, hlen2, hst1⟩, hE9, hK9, hG9⟩, hms⟩
                  · obtain rfl : i = l.length := by omega
                    go_wp2
                    go_meet
                    exact ⟨S, Lz, csz, a4, c4, Mz, rfl, by rw [hnz.out], hL8.out, ⟨by rw [hnz.out]; exact hEr.out⟩, hMz, hc8, hKr⟩
          | false =>
            cases b1 with
            | true =>
              by_cases hneg : yn < 0
              · have g1 : decide (yn < 0) = true := decide_eq_true hneg
                have cTn := Box.mk (takes_neg S L cs L.length yn hneg w3 hE1.out.strm)
                clear hneg
                go_wp2_with (first
                  | (go_at_call 32; (with_reducible refine (cTn.out).mono ?_); rintro e w5 ⟨rfl, hx5⟩))
                go_meet
                exact ⟨S, L, cs, a5, c5, M, rfl, rfl, by omega, ⟨hE1.out.ext' hx5⟩, hML, ⟨fun k => by have := hcs.out k; omega⟩, ⟨Ext.blk hx5 hK1.out⟩⟩
              · obtain ⟨q, rfl⟩ : ∃ q : Nat, yn = (q : Int) := ⟨yn.toNat, by omega⟩
                have g1 : decide ((q : Int) < 0) = false := decide_eq_false hneg
                obtain ⟨n, hn⟩ : ∃ n, n = min q M.length := ⟨_, rfl⟩
                have hmn : min (q : Int) (M.length : Int) = (n : Int) := by omega
                have hnM : n ≤ M.length := by omega
                have hnL : min q L.length = n := by rw [← hlm.out]; exact hn.symm
                have cTk : Box (∀ w', Ext w3 w' → Calls Tryd.prog 32 #[.pointer (some ⟨S, 0, none⟩), .int .i64 (q : Nat), .slice a5 n c5, .int .i64 0] w' fun e w'' => e = .returned (.bool true) ∧ Strm w'' S (L.drop n) cs (L.length - n) ∧ Mut (fun j => j = S) w' w'') := ⟨fun w' hx => by
                  have hE' := hE1.out.ext' hx
                  have h9 := takes_any S L (M.take n) cs q (.slice a5 n c5) w' hE'.strm (by omega) (by omega) (fun w2 hm => by
                    have hk := Keep.strm1 hE'.strm hm
                    exact es_of (hE'.rowB hk tS_ev) (hE'.ownM.keep hk tS_u8) hnM (by rw [hlm.out]; omega)) (by
                    rw [hnL, List.map_take, List.map_take, hML.out])
                  rw [hnL] at h9
                  exact h9⟩
                replace hn := Box.mk hn
                replace hnL := Box.mk hnL
                clear hneg
                have hSlt : S < wo.heap.size := blk_lt hE.out.strm.hd
                have hA5 : Box (∀ w5, Mut (fun j => j = S) w3.drew w5 → w5.cell? ⟨wo.heap.size, 1, none⟩ = some (.int .i64 (q : Nat))) := ⟨fun w5 hm => by
                  have hb : w3.drew.heap[wo.heap.size]? = _ := hA.out
                  rw [Lib.cell_of_heap ((hm.other _ (blk_lt hb) (fun e => by omega)).trans hb)]
                  rfl⟩
                have hfit := hE1.out.row.fits
                have s1 : n ≤ c5 := by omega
                have s2 : (n : Int) ≤ (c5 : Int) := by omega
                have s3 : (0 : Int) ≤ (n : Int) := by omega
                have s4 : (n : Int) ≤ (M.length : Int) := by omega
                have hend : Box (∀ w5 v', Strm w5 S (L.drop n) cs (L.length - n) → Mut (fun j => j = S) w3.drew w5 → (∀ w, SubRow w W.heap.size 28 6 (.slice a5 M.length c5) M.length (evs M) → SubRow w W.heap.size 28 6 v' (M.length - n) ((evs M).drop (n * 6))) → StE W w5 S (L.drop n) cs v' (M.drop n) ∧ (M.drop n).map (·.v) = (L.drop n).map (·.v) ∧ w5.heap[K]? = some (.cells (cnC cs) 57 (0, 0))) := ⟨fun w5 v' h1 h2 h3 => by
                  have hD := hE1.out.ext' (Ext.drew1 (Below.refl _ _) : Ext w3 w3.drew)
                  have h9 := hD.take (by rw [← hlm.out]; exact hnM) h1 h2
                  have hk := Keep.strm1 hD.strm h2
                  refine ⟨h9.from hnM (h3 w5 h9.row), by rw [List.map_drop, List.map_drop, hML.out], hk.same hK1.out tS_cnt⟩⟩
                go_upto_region 37 with (fail)
                rcases hE1.out.row.from n hnM with ⟨hM0, hnil⟩ | ⟨g, o9, cap, A, hv, hcap, hAd, _, _⟩
                · obtain rfl : M = [] := List.length_eq_zero_iff.1 hM0
                  simp only [Value.slice.injEq] at hnil
                  obtain ⟨rfl, -, rfl⟩ := hnil
                  obtain rfl : n = 0 := by
                    have : n ≤ ([] : List Nd).length := hnM
                    simpa using this
                  go_region_held3 (fun w' => w'.cell? ⟨wo.heap.size, 1, none⟩ = some (.int .i64 (q : Nat)))
                    (first
                      | (with_reducible exact x1)
                      | (with_reducible exact x1d)
                      | go_keep)
                    (first
                      | (go_at_call 32; (with_reducible refine (cTk.out _ (Ext.drew1 (Below.refl _ _))).mono ?_); rintro e w5 ⟨rfl, hT5, hM5⟩; have x1d := hA5.out w5 hM5))
                  obtain ⟨r1, r2, r3⟩ := hend.out w5 (.slice none 0 0) hT5 hM5 (fun w _ => SubRow.nil _ _ _ _)
                  replace r1 := Box.mk r1
                  replace r2 := Box.mk r2
                  replace r3 := Box.mk r3
                  clear hT5 hM5 x1d
                  go_wp2_with (fail)
                  go_meet
                  exact ⟨S, L.drop 0, cs, none, 0, [], rfl, rfl, by rw [List.length_drop]; omega, r1, r2, ⟨fun k => by have := hcs.out k; omega⟩, r3⟩
                · simp only [Value.slice.injEq] at hv
                  obtain ⟨rfl, -, rfl⟩ := hv
                  go_region_held3 (fun w' => w'.cell? ⟨wo.heap.size, 1, none⟩ = some (.int .i64 (q : Nat)))
                    (first
                      | (with_reducible exact x1)
                      | (with_reducible exact x1d)
                      | go_keep)
                    (first
                      | (go_at_call 32; (with_reducible refine (cTk.out _ (Ext.drew1 (Below.refl _ _))).mono ?_); rintro e w5 ⟨rfl, hT5, hM5⟩; have x1d := hA5.out w5 hM5))
                  obtain ⟨r1, r2, r3⟩ := hend.out w5 (.slice (some A) (M.length - n) (c5 - n)) hT5 hM5 (fun w hr => by
                    rcases hr.from n hnM with ⟨_, hnil⟩ | ⟨g', o', cap', A', hv', _, hA', hs', _⟩
                    · simp at hnil
                    · simp only [Value.slice.injEq, Option.some.injEq, Addr.mk.injEq] at hv'
                      obtain ⟨⟨rfl, rfl, -⟩, -, rfl⟩ := hv'
                      rw [hAd] at hA'
                      cases hA'
                      exact hs')
                  have e9 : (M.drop n).length = M.length - n := List.length_drop
                  replace r1 := Box.mk r1
                  replace r2 := Box.mk r2
                  replace r3 := Box.mk r3
                  replace e9 := Box.mk e9
                  clear hT5 hM5 x1d
                  go_wp2_with (fail)
                  go_meet
                  exact ⟨S, L.drop n, cs, some A, c5 - n, M.drop n, rfl, by rw [e9.out], by rw [List.length_drop]; omega, ⟨by rw [e9.out]; exact r1.out⟩, r2, ⟨fun k => by have := hcs.out k; omega⟩, r3⟩
            | false =>
              have cCp : Box (Calls Tryd.prog 33 #[.pointer (some ⟨S, 0, none⟩)] w3 fun e w' => e = .returned (.pointer (some ⟨w3.heap.size, 0, none⟩)) ∧ ∃ L' : List Nd, L'.map (·.v) = L.map (·.v) ∧ StE W w' w3.heap.size L' cs (.slice a5 M.length c5) M ∧ Ext w3 w') := ⟨(scopy_any S L cs L.length w3 hE1.out.strm (by omega) hgd.out).mono (by
                rintro e w' ⟨L', he, h1, h2, h3, h4⟩
                exact ⟨he, L', h2, hE1.out.copy h1 h2 h3 h4, h4⟩)⟩
              have cTk : Box (∀ w', Ext w3 w' → Calls Tryd.prog 19 #[.pointer (some ⟨S, 0, none⟩), .int .i64 1] w' fun e w'' => ∃ v, e = .returned (.tuple #[v, .int .i64 0]) ∧ Strm w'' S (L.drop (min 1 L.length)) cs (L.length - min 1 L.length) ∧ Mut (fun j => j = S) w' w'') := ⟨fun w' hx => (take_any S L cs 1 w' (hE1.out.strm.ext hx) (by omega) (by decide)).mono (by
                rintro e w'' ⟨v, h1, _, h3, h4⟩
                exact ⟨v, h1, h3, h4⟩)⟩
              have cAd : Box (∀ w' , Strm w' S (L.drop (min 1 L.length)) cs (L.length - min 1 L.length) → Calls Tryd.prog 17 #[.pointer (some ⟨S, 0, none⟩), .agg #[.int .i64 4, .string ⟨#[120]⟩, .slice none 0 0, .int .u64 1, .int .u64 18446744073709551615, .int .u64 0]] w' fun e w'' => e = .returned (.int .i64 0) ∧ Mut (Own S (L.drop (min 1 L.length))) w' w'') := ⟨fun w' h => (Add_x S _ cs _ ⟨4, ⟨#[120]⟩, .slice none 0 0, [], 1, 18446744073709551615, 0⟩ none 0 w' h (by omega) (fun k => by have := hcs.out k; omega) (by decide) ⟨by decide, by decide, by decide, by decide, by decide⟩ (By.nil w')).mono (by
                rintro e w'' ⟨he, m, _, _, _, h4⟩
                exact ⟨he, h4⟩)⟩
              go_wp2_with (first
                | (go_at_call 33; (with_reducible refine (cCp.out).mono ?_); rintro e w5 ⟨rfl, L2, hL2, hE5, hx5⟩)
                | (go_at_call 19; (with_reducible refine (cTk.out _ hx5).mono ?_); rintro e w6 ⟨v6, rfl, hT6, hM6⟩)
                | (go_at_call 17; (with_reducible refine (cAd.out _ hT6).mono ?_); rintro e w7 ⟨rfl, hM7⟩))
              have hK5 := Ext.blk hx5 hK1.out
              have hK6 := (Keep.of_mut (T := tS) hM6 (fun j e => by subst e; exact ⟨_, _, (hE1.out.strm.ext hx5).hd, Or.inl rfl⟩)).same hK5 tS_cnt
              have hK7 := (Keep.of_mut (T := tS) hM7 (fun j hj => hT6.types hj)).same hK6 tS_cnt
              have hE7 := hE1.out.swap hE5 hx5 hT6 hM6 hM7
              have hl2 : L2.length = L.length := by
                have := congrArg List.length hL2
                simpa using this
              go_meet
              exact ⟨_, L2, cs, a5, c5, M, rfl, rfl, by omega, ⟨hE7⟩, ⟨hML.out.trans hL2.symm⟩, ⟨fun k => by have := hcs.out k; omega⟩, ⟨hK7⟩⟩
        case rest =>
          obtain ⟨S', L', cs', a6, c6, M', rfl, rfl, hL2, hE2, hML2, hcs2, hK2⟩ := hcut
          have hlm : M'.length = L'.length := by
            have := congrArg List.length hML2.out
            simpa using this
          have hL3 : L'.length ≤ 1048576 := by omega
          have hgd : ∀ m ∈ L', Good m.v := fun m hm => (hE2.out.ownL m hm).2
          have cLen := Box.mk (len_any S' L' cs' L'.length wc hE2.out.strm)
          have cLi := Box.mk (list_any S' L' cs' wc hE2.out.strm hL3 hgd)
          have cSA : Box (∀ v w' X, w'.ownsRow wc.heap.size 28 6 v L'.length (xs X) → X.map EvX.evt = L'.map (·.v) → (∀ x ∈ X, x.In ∧ x.ok = true ∧ OwnB wc.heap.size w' x.u x.l) → Ext wc w' → Calls Tryd.prog 34 #[v, .slice a6 M'.length c6] w' fun e w'' => e = .returned (.bool true) ∧ Ext w' w'') := ⟨fun v w' X h1 h2 h3 h4 => by
            have hX : X.length = L'.length := by
              have := congrArg List.length h2
              simpa using this
            have hxs : Xs w' v X := Xs.of_row (by rw [hX]; exact h1) (by rw [hX]; exact hL3) (fun x hx => ⟨(h3 x hx).1, (h3 x hx).2.2.shape, (h3 x hx).2.2.by (by have := (h3 x hx).1.l; omega)⟩)
            exact sameX_any v _ X (M'.map Nd.x) w' hxs ((hE2.out.ext' h4).xs (by omega)) (cores (fun x hx => ⟨(h3 x hx).1, (h3 x hx).2.1⟩) (nds_ok fun m hm => (hE2.out.ownM m hm).2) (by rw [nds_evt, h2, hML2.out]))⟩
          rw [← hlm] at cLen
          replace hgd := Box.mk hgd
          replace hlm := Box.mk hlm
          go_wp2_with (first
            | (go_at_call 20; (with_reducible refine (cLen.out).mono ?_); rintro e w5 ⟨rfl, rfl⟩)
            | (go_at_call 35; (with_reducible refine (cLi.out).mono ?_); rintro e w6 ⟨vL, X, rfl, hr1, hr2, hr3, hb6⟩; replace hr1 := Box.mk hr1; replace hr2 := Box.mk hr2; replace hr3 := Box.mk hr3; replace hb6 := Box.mk hb6)
            | (go_at_call 34; (with_reducible refine (cSA.out _ _ _ hr1.out hr2.out hr3.out hb6.out).mono ?_); rintro e w7 ⟨rfl, hb7⟩; replace hb7 := Box.mk (Ext.trans' hb6.out hb7)))
          have hE4 := Box.mk (hE2.out.ext' hb7.out)
          have hK4 := Box.mk (Ext.blk hb7.out hK2.out)
          have cC : Box (∀ (j : Nat) w', j < 7 → Ext w7 w' → Calls Tryd.prog 21 #[.pointer (some ⟨S', 0, none⟩), .int .i64 (j : Nat)] w' fun e w'' => e = .returned (.int .u64 (cnt cs' j : Nat)) ∧ w'' = w') := ⟨fun j w' hj hx => count_all S' L' cs' L'.length j hj w' (hE4.out.ext' hx).strm⟩
          clear hr1 hr2 hr3 hb6 hb7 cSA cLi cLen
          go_loopw [13] (fun jv wq => ∃ j : Nat, j ≤ 7 ∧ jv = .int .i64 (j : Nat) ∧ Box (Ext w7 wq)) (fun jv _ => 7 - (intOf jv).toNat)
          case atStart => exact ⟨0, by decide, rfl, ⟨Below.refl _ _⟩⟩
          case round =>
            obtain ⟨j, hj7, rfl, hq⟩ := hrel
            by_cases hj : j < 7
            · have j0 : (0 : Int) ≤ (j : Int) := by omega
              have j1 : (j : Int) < 7 := by omega
              have j2 : decide ((j : Int) < 7) = true := decide_eq_true j1
              have j3 : decide (j < 7) = true := decide_eq_true hj
              have j4 : IntKind.i64.wrap ((j : Int) + 1) = (j : Int) + 1 := by rw [IntKind.wrap_i64]; omega
              have hcl : wr.cell? ⟨K, j, none⟩ = some (.int .u64 (cnt cs' j : Nat)) := by
                rw [Lib.cell_of_heap (Ext.blk hq.out hK4.out)]
                exact cnC_at cs' j hj
              have cJ : Box (∀ w', Ext w7 w' → _) := ⟨fun w' hx => cC.out j w' hj hx⟩
              generalize cnt cs' j = x at *
              have z1 : ((x : Int) != (x : Int)) = false := by simp
              go_wp2_with (fail)
              go_quiet (first | (go_at_call 21; exact Calls.quiet_of_same (cJ.out _ (Ext.drewN hq.out _))))
              go_wp2_with (fail)
              go_roundw
              case rel => exact ⟨j + 1, by omega, by go_num, ⟨Ext.drewN hq.out _⟩⟩
              case measure =>
                clear j4 n4
                simp [intOf]; omega
            · obtain rfl : j = 7 := by omega
              have hE5 := Box.mk (hE4.out.ext' hq.out)
              have hK5 := Box.mk (Ext.blk hq.out hK4.out)
              go_wp2_with (fail)
              go_roundw
              case rel => exact ⟨t + 1, S', L', cs', a6, c6, M', by omega, by go_num, rfl, rfl, hL2, hE5, hML2, hcs2, hK5⟩
              case measure =>
                clear n4
                simp [intOf]; omega
    · obtain rfl : t = Y.length := by omega
      have n2 : decide ((Y.length : Int) < (Y.length : Int)) = false := decide_eq_false (by omega)
      have n3 : decide (Y.length < Y.length) = false := decide_eq_false (by omega)
      have hxe := hE.out.ext
      go_wp2_with (first
        | (go_at_call 11; (with_reducible refine (ck.out _ hxe).mono ?_); rintro e w4 ⟨rfl, hb4⟩))
      go_ret
      exact ⟨rfl, Ext.trans' hxe hb4⟩
set_option maxRecDepth 100000 in
set_option maxHeartbeats 1000000 in
theorem lawEventStreams_walk (v : Value) (W : World) (hv : ∃ Y, ActsArg W v Y) (ht : EnvV W) :
    Calls Tryd.prog 8 #[v] W fun e W' => e = .returned (.bool true) ∧ Below W.heap.size W W' := by
  obtain ⟨Y, hY⟩ := hv
  by_cases hn : Y.length ≤ 40
  · exact streams_core v Y W hY hn ht
  · obtain ⟨a, c, rfl, hLc, hc, hC, hQ⟩ := hY
    have ck : Box (∀ w, Ext W w → Calls Tryd.prog 11 #[] w fun e w' => e = .returned (.bool true) ∧ Ext w w') := ⟨fun w h => known_any w (ht.ext h)⟩
    have d0 : decide ((Y.length : Int) > 40) = true := decide_eq_true (by omega)
    have d1 : decide ((40 : Int) < (Y.length : Int)) = true := decide_eq_true (by omega)
    have d2 : decide (40 < Y.length) = true := decide_eq_true (by omega)
    clear hC hQ ht hn
    go_enter Tryd.func8, Tryd.ntmps8
    go_wp2_with (first
      | (go_at_call 11; (with_reducible refine (ck.out _ (Below.refl _ _)).mono ?_); rintro e w4 ⟨rfl, hb4⟩))
    go_ret
    exact ⟨rfl, hb4⟩
end Go.Proofs.YtapngkjgagapeaaDoor
