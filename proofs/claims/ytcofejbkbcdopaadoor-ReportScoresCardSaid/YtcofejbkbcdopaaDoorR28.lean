import Derived.Test.YtcofejbkbcdopaaDoorR27
import Derived.Test.YtcofejbkbcdopaaDoorR21
/- Contract: the law's readScore. -/
namespace Go.Proofs.YtcofejbkbcdopaaDoor
open Go.RowKit
theorem infoSc : (Tryd.prog.info? 33).map (·.size) = some 4 := by kernel_rfl
theorem rowSc : (Tryd.prog.underlying 33).map (·.isRow) = some true := by kernel_rfl
theorem oneSc (a b c d : Int) : (#[.int .i64 a, .int .i64 b, .int .i64 c, .int .i64 d] : Array Value).all (·.oneCell') = true := by simp [Value.oneCell']
theorem row_range {w : World} {g : Nat} {cs : List Value} {t : TypeId} (h : w.heap[g]? = some (.cells cs.toArray t (0, 0))) : w.rangeAt g 0 cs := fun j v hv => by
  rw [Nat.zero_add, Lib.cell_of_heap h]
  simpa using hv
theorem i64_ten {n d : Nat} (hn : n < 1099511627776) (hd : d ≤ 9) : IntKind.i64.wrap (10 * (n : Int) + (d : Int)) = ((10 * n + d : Nat) : Int) := by rw [IntKind.wrap_i64]; omega
theorem i64_mul {n : Nat} (hn : n < 1099511627776) : IntKind.i64.wrap (10 * (n : Int)) = 10 * (n : Int) := by rw [IntKind.wrap_i64]; omega
theorem w64_mul {n : Nat} (hn : n < 1099511627776) : wrap64 (10 * (n : Int)) = 10 * (n : Int) := by unfold wrap64; omega
theorem w64_small {p : Nat} (h : p ≤ 1000) : wrap64 (p : Int) = (p : Int) := by unfold wrap64; omega
theorem i64_small {p : Nat} (h : p ≤ 1000) : IntKind.i64.wrap (p : Int) = (p : Int) := by rw [IntKind.wrap_i64]; omega
set_option maxRecDepth 100000 in
set_option maxHeartbeats 40000000 in
theorem lread_any (s : ByteArray) (hs : s.size ≤ 1000) (w : World) : Calls Tryd.prog 14 #[.string s] w fun e w' => e = .returned (rdV (readL s.data.toList)) ∧ Ext w w' := by
  have hE0 : Box (Ext w ((w.alloc (.cells #[.int .i64 0, .int .i64 0, .int .i64 0, .int .i64 0] 33)).alloc (.cells #[.int .i64 0, .int .i64 0, .int .i64 0] 61))) := ⟨Ext.alloc (Ext.alloc (Below.refl _ _) _) _⟩
  have hZ0 : Box (((w.alloc (.cells #[.int .i64 0, .int .i64 0, .int .i64 0, .int .i64 0] 33)).alloc (.cells #[.int .i64 0, .int .i64 0, .int .i64 0] 61)).heap[w.heap.size]? = some (.cells #[.int .i64 0, .int .i64 0, .int .i64 0, .int .i64 0] 33 (0, 0))) := ⟨Ext.blk (Ext.alloc (Below.refl _ _) _) (newblk _ _)⟩
  have hN0 : Box (((w.alloc (.cells #[.int .i64 0, .int .i64 0, .int .i64 0, .int .i64 0] 33)).alloc (.cells #[.int .i64 0, .int .i64 0, .int .i64 0] 61)).heap[w.heap.size + 1]? = some (.cells (C3 (nq3 st0)) 61 (0, 0))) := ⟨by
    have := newblk (w.alloc (.cells #[.int .i64 0, .int .i64 0, .int .i64 0, .int .i64 0] 33)) (.cells #[.int .i64 0, .int .i64 0, .int .i64 0] 61)
    rwa [World.size_alloc] at this⟩
  have cO : Box _ := ⟨lline_ok⟩
  have cB : Box _ := ⟨lline_bad⟩
  obtain ⟨dS, huS, hdS⟩ := und_row rowSc
  go_enter Tryd.func14, Tryd.ntmps14
  go_wp2
  generalize hNN : w.heap.size + 1 = N at *
  generalize hZZ : w.heap.size = Z at hZ0 ⊢
  have hZs : w.heap.size ≤ Z := Nat.le_of_eq hZZ
  have hNs : w.heap.size ≤ N := by omega
  have hZN : Z < N := by omega
  clear hNN hZZ
  go_loopw [5, 6, 7] (fun av dv iv wr => ∃ k : Nat, k ≤ s.size ∧ iv = .int .i64 k ∧ ∃ st : S3, Box (st = scan3 (s.data.toList.take k) st0) ∧ Box (S3Ok st) ∧ st.at_ ≤ k ∧ av = .int .i64 ((st.at_ : Int) - 1) ∧ dv = .bool st.dig ∧ Box (wr.heap[N]? = some (.cells (C3 (nq3 st)) 61 (0, 0))) ∧ Box (wr.heap[Z]? = some (.cells #[.int .i64 0, .int .i64 0, .int .i64 0, .int .i64 0] 33 (0, 0))) ∧ Box (Ext w wr)) (fun _ _ iv _ => s.size - (intOf iv).toNat)
  case atStart => exact ⟨0, by omega, rfl, st0, ⟨rfl⟩, ⟨st0_ok⟩, Nat.le_refl _, rfl, rfl, hN0, hZ0, hE0⟩
  case round =>
    clear hN0 hZ0 hE0
    obtain ⟨k, hk, rfl, st, hst, hok, hak, rfl, rfl, hN, hZ, hE⟩ := hrel
    by_cases hkn : k < s.size
    · as_aux_lemma =>
      have n1 : (0 : Int) ≤ (k : Int) := by omega
      have n2 : (k : Int) < (s.size : Int) := by omega
      have n2' : decide ((k : Int) < (s.size : Int)) = true := decide_eq_true n2
      have n3' : decide (k < s.size) = true := decide_eq_true hkn
      have hg : ∀ h, s[k]'h = s.data.toList.getD k 0 := fun h => get_getD s k h
      have hnx : Box (st.step (s.data.toList.getD k 0) = scan3 (s.data.toList.take (k + 1)) st0) := ⟨by rw [hst.out]; exact (scan3_take _ k hkn).symm⟩
      have hokn : Box (S3Ok (st.step (s.data.toList.getD k 0))) := ⟨step_ok _ hok.out⟩
      have hdg := Box.mk (fun h => step_dg (st := st) (c := s.data.toList.getD k 0) h hok.out)
      have hnon := Box.mk (fun h => step_non (st := st) (c := s.data.toList.getD k 0) h)
      generalize s.data.toList.getD k 0 = c at *
      have hlt := c.toNat_lt
      by_cases hd : 48 ≤ c.toNat ∧ c.toNat ≤ 57
      · obtain ⟨e1, e2⟩ := hd
        have d9 : c.toNat - 48 ≤ 9 := by omega
        have k1 : k + 1 ≤ s.size := hkn
        have k2 : ∀ p, p ≤ k → p + 1 ≤ k + 1 := fun p h => Nat.succ_le_succ h
        have k3 : s.size - (k + 1) < s.size - k := by omega
        have a1 : decide ((c.toNat : Int) < 48) = false := decide_eq_false (by omega)
        have a2 : decide ((57 : Int) < (c.toNat : Int)) = false := decide_eq_false (by omega)
        have a3 : decide (c.toNat < 48) = false := decide_eq_false (by omega)
        have a4 : decide (57 < c.toNat) = false := decide_eq_false (by omega)
        obtain ⟨h1, h2, h3⟩ := hdg.out ⟨e1, e2⟩
        have q1 : IntKind.u8.wrap ((c.toNat : Int) - 48) = ((c.toNat - 48 : Nat) : Int) := by rw [IntKind.wrap_u8]; omega
        have q2 : IntKind.i64.wrap ((c.toNat - 48 : Nat) : Int) = ((c.toNat - 48 : Nat) : Int) := by rw [IntKind.wrap_i64]; omega
        have q5 : wrap64 ((c.toNat - 48 : Nat) : Int) = ((c.toNat - 48 : Nat) : Int) := by unfold wrap64; omega
        have hp : (st.dig = true ∧ (st.at_ : Int) - 1 = (pS st : Int)) ∨ (st.dig = false ∧ (st.at_ : Int) - 1 = (pS st : Int) - 1) := by
          unfold pS
          have := hok.out.1
          cases hd : st.dig with
          | true => rw [hd] at this; have := this rfl; left; exact ⟨rfl, by simp; omega⟩
          | false => right; exact ⟨rfl, by simp⟩
        replace hp := Box.mk hp
        have hb := hok.out.2
        have hpk : pS st ≤ k := by unfold pS; split <;> omega
        have w1 : Box (wrap64 (pS st : Int) = (pS st : Int)) := ⟨w64_small (Nat.le_trans hpk (Nat.le_trans (Nat.le_of_lt hkn) hs))⟩
        have w2 : Box (IntKind.i64.wrap (pS st : Int) = (pS st : Int)) := ⟨i64_small (Nat.le_trans hpk (Nat.le_trans (Nat.le_of_lt hkn) hs))⟩
        have hav : Box (∀ p : Nat, (st.step c).at_ = p + 1 → Value.int .i64 (p : Int) = Value.int .i64 (((st.step c).at_ : Int) - 1)) := ⟨fun p h => by rw [h]; congr 1; omega⟩
        have hdv : Box (Value.bool true = Value.bool (st.step c).dig) := ⟨by rw [h2]⟩
        clear hdg hnon
        generalize hpp : pS st = p at *
        generalize st.step c = st2 at *
        generalize nq3 st = n at *
        have hp3 : (p < 3 ∧ n p < 1099511627776) ∨ (p < 3 ∧ 1099511627776 ≤ n p) ∨ 3 ≤ p := by omega
        rcases hp3 with ⟨p3, pl⟩ | ⟨p3, pl⟩ | p3
        · have b1 : decide ((p : Int) < 3) = true := decide_eq_true (by omega)
          have b2 : (p : Int) < 3 := by omega
          have b3 : (0 : Int) ≤ (p : Int) := by omega
          have b4 : decide (p < 3) = true := decide_eq_true p3
          have cN := c3_cell hN.out p p3
          have fN := Lib.frozen_of_heap hN.out p
          have b5 : decide ((n p : Int) < 1099511627776) = true := decide_eq_true (by omega)
          have b6 : decide (n p < 1099511627776) = true := decide_eq_true pl
          have q3 : IntKind.i64.wrap (10 * (n p : Int)) = 10 * (n p : Int) := i64_mul pl
          have q4 : IntKind.i64.wrap (10 * (n p : Int) + ((c.toNat - 48 : Nat) : Int)) = ((10 * n p + (c.toNat - 48) : Nat) : Int) := i64_ten pl d9
          have q6 : wrap64 (10 * (n p : Int)) = 10 * (n p : Int) := w64_mul pl
          have hcs : C3 (up3 n p (10 * n p + (c.toNat - 48))) = C3 (nq3 st2) := C3_congr fun j hj => by
            rw [h3 j hj]
            unfold up3 cap40
            by_cases e : j = p
            · subst e; rw [if_pos rfl, if_pos rfl, if_pos pl]
            · rw [if_neg e, if_neg e]
          have hNn : Box (((wr.setCell ⟨N, p, none⟩ (.int .i64 ((10 * n p + (c.toNat - 48) : Nat) : Int))).drew).heap[N]? = some (.cells (C3 (nq3 st2)) 61 (0, 0))) := ⟨by
            refine Ext.blk (Ext.drew1 (Below.refl _ _)) ?_
            rw [heap_setCell_same _ N p _ _ _ hN.out, C3_set n p _ p3, hcs]⟩
          have hZn : Box (((wr.setCell ⟨N, p, none⟩ (.int .i64 ((10 * n p + (c.toNat - 48) : Nat) : Int))).drew).heap[Z]? = some (.cells #[.int .i64 0, .int .i64 0, .int .i64 0, .int .i64 0] 33 (0, 0))) := ⟨Ext.blk (Ext.drew1 (Below.refl _ _)) (blk_put2 hZ.out (by omega))⟩
          have hEn : Box (Ext w ((wr.setCell ⟨N, p, none⟩ (.int .i64 ((10 * n p + (c.toNat - 48) : Nat) : Int))).drew)) := ⟨Ext.drew1 (Ext.put hE.out hNs p _)⟩
          clear h3 hb hcs
          rcases hp.out with ⟨hd, hA⟩ | ⟨hd, hA⟩
          all_goals as_aux_lemma =>
            rw [hd, hA]
            go_wp2
            go_region
            go_wp2
            go_roundw
            case rel => exact ⟨k + 1, k1, by go_num, st2, hnx, hokn, by rw [h1]; exact k2 p hpk, hav.out p h1, hdv.out, hNn, hZn, hEn⟩
            case measure =>
              clear q1 q2 q5
              (try clear q3 q4 q6)
              (try clear w1 w2)
              simp [intOf]; omega
        · have b1 : decide ((p : Int) < 3) = true := decide_eq_true (by omega)
          have b2 : (p : Int) < 3 := by omega
          have b3 : (0 : Int) ≤ (p : Int) := by omega
          have b4 : decide (p < 3) = true := decide_eq_true p3
          have cN := c3_cell hN.out p p3
          have b5 : decide ((n p : Int) < 1099511627776) = false := decide_eq_false (by omega)
          have b6 : decide (n p < 1099511627776) = false := decide_eq_false (by omega)
          have hNn : Box (wr.heap[N]? = some (.cells (C3 (nq3 st2)) 61 (0, 0))) := ⟨by
            have hcs : C3 n = C3 (nq3 st2) := C3_congr fun j hj => by
              rw [h3 j hj]
              by_cases e : j = p
              · rw [if_pos e, e]; unfold cap40; rw [if_neg (by omega)]
              · rw [if_neg e]
            rw [← hcs]
            exact hN.out⟩
          clear h3 hb
          rcases hp.out with ⟨hd, hA⟩ | ⟨hd, hA⟩
          all_goals as_aux_lemma =>
            rw [hd, hA]
            go_wp2
            go_roundw
            case rel => exact ⟨k + 1, k1, by go_num, st2, hnx, hokn, by rw [h1]; exact k2 p hpk, hav.out p h1, hdv.out, hNn, hZ, hE⟩
            case measure =>
              clear q1 q2 q5
              (try clear q3 q4 q6)
              (try clear w1 w2)
              simp [intOf]; omega
        · have b1 : decide ((p : Int) < 3) = false := decide_eq_false (by omega)
          have b4 : decide (p < 3) = false := decide_eq_false (by omega)
          have hNn : Box (wr.heap[N]? = some (.cells (C3 (nq3 st2)) 61 (0, 0))) := ⟨by
            have hcs : C3 n = C3 (nq3 st2) := C3_congr fun j hj => by rw [h3 j hj, if_neg (by omega)]
            rw [← hcs]
            exact hN.out⟩
          clear h3 hb
          rcases hp.out with ⟨hd, hA⟩ | ⟨hd, hA⟩
          all_goals as_aux_lemma =>
            rw [hd, hA]
            replace w1 := w1.out
            replace w2 := w2.out
            go_wp2
            go_roundw
            case rel => exact ⟨k + 1, k1, by go_num, st2, hnx, hokn, by rw [h1]; exact k2 p hpk, hav.out p h1, hdv.out, hNn, hZ, hE⟩
            case measure =>
              clear q1 q2 q5
              (try clear q3 q4 q6)
              (try clear w1 w2)
              simp [intOf]; omega
      · have hk2 : (decide ((c.toNat : Int) < 48) = true ∧ decide (c.toNat < 48) = true) ∨ (decide ((c.toNat : Int) < 48) = false ∧ decide (c.toNat < 48) = false ∧ decide ((57 : Int) < (c.toNat : Int)) = true ∧ decide (57 < c.toNat) = true) := by
          by_cases h : c.toNat < 48
          · exact Or.inl ⟨decide_eq_true (by omega), decide_eq_true h⟩
          · exact Or.inr ⟨decide_eq_false (by omega), decide_eq_false h, decide_eq_true (by omega), decide_eq_true (by omega)⟩
        have hse := hnon.out (by omega)
        rw [hse] at hnx hokn
        have hNn : Box (wr.heap[N]? = some (.cells (C3 (nq3 { st with dig := false })) 61 (0, 0))) := ⟨hN.out⟩
        clear hdg hnon hd
        rcases hk2 with ⟨a1, a2⟩ | ⟨a1, a2, a3, a4⟩
        all_goals as_aux_lemma =>
          go_wp2
          go_roundw
          case rel => exact ⟨k + 1, by omega, by go_num, _, hnx, hokn, by show st.at_ ≤ k + 1; omega, rfl, rfl, hNn, hZ, hE⟩
          case measure => simp [intOf]; omega
    · as_aux_lemma =>
      obtain rfl : k = s.size := by omega
      have d1 : decide ((s.size : Int) < (s.size : Int)) = false := decide_eq_false (by omega)
      have d2 : decide (s.size < s.size) = false := decide_eq_false (by omega)
      have hfull : st = scan3 s.data.toList st0 := by
        rw [hst.out]
        congr 1
        exact List.take_of_length_le (Nat.le_refl _)
      have hrd : Box (readL s.data.toList = kindFrom s.data.toList st.n0 st.n1 st.n2 1 8) := ⟨by rw [hfull]; rfl⟩
      have cN0 : wr.cell? ⟨N, 0, none⟩ = some (.int .i64 (st.n0 : Nat)) := c3_cell hN.out 0 (by omega)
      have cN1 : wr.cell? ⟨N, 1, none⟩ = some (.int .i64 (st.n1 : Nat)) := c3_cell hN.out 1 (by omega)
      have cN2 : wr.cell? ⟨N, 2, none⟩ = some (.int .i64 (st.n2 : Nat)) := c3_cell hN.out 2 (by omega)
      have hcel : Box (wr.cell? ⟨N, 0, none⟩ = some (.int .i64 (st.n0 : Nat)) ∧ wr.cell? ⟨N, 1, none⟩ = some (.int .i64 (st.n1 : Nat)) ∧ wr.cell? ⟨N, 2, none⟩ = some (.int .i64 (st.n2 : Nat))) := ⟨⟨cN0, cN1, cN2⟩⟩
      generalize st.n0 = x0 at *
      generalize st.n1 = x1 at *
      generalize st.n2 = x2 at *
      generalize hrr : readL s.data.toList = R at *
      replace hrr := Box.mk hrr
      clear cN0 cN1 cN2 hN hst hok hfull hak
      obtain ⟨Post, hP⟩ : ∃ P : Ending → World → Prop, P = fun e w' => e = .returned (rdV R) ∧ Ext w w' := ⟨_, rfl⟩
      replace hP := Box.mk hP
      go_wp2
      generalize hav : Value.int .i64 ((st.at_ : Int) - 1) = av at *
      generalize hdv : Value.bool st.dig = dv at *
      clear hav hdv hP Post
      go_loopw [8, 9, 10, 11] (fun kv _ _ _ wv => ∃ j : Nat, 1 ≤ j ∧ j ≤ 9 ∧ kv = .int .i64 j ∧ Box (R = kindFrom s.data.toList x0 x1 x2 j (9 - j)) ∧ Box (wv.cell? ⟨N, 0, none⟩ = some (.int .i64 (x0 : Nat)) ∧ wv.cell? ⟨N, 1, none⟩ = some (.int .i64 (x1 : Nat)) ∧ wv.cell? ⟨N, 2, none⟩ = some (.int .i64 (x2 : Nat))) ∧ Box (wv.heap[Z]? = some (.cells #[.int .i64 0, .int .i64 0, .int .i64 0, .int .i64 0] 33 (0, 0))) ∧ Box (Ext w wv)) (fun kv _ _ _ _ => 9 - (intOf kv).toNat)
      case atStart => exact ⟨1, by omega, by omega, rfl, hrd, hcel, hZ, hE⟩
      case round =>
        clear hrd hcel hZ hE
        obtain ⟨j, hj1, hj9, rfl, hrd, hcel, hZ, hE⟩ := hrel
        by_cases hj : j ≤ 8
        · obtain ⟨c0, c1, c2⟩ := hcel.out
          have b1 : decide ((j : Int) ≤ 8) = true := decide_eq_true (by omega)
          have b2 : decide (j ≤ 8) = true := decide_eq_true hj
          have b3 : (j : Int) ≤ 8 := by omega
          have hstep : Box (R = if (⟨j, x0, x1, x2⟩ : Sc).ok ∧ (⟨j, x0, x1, x2⟩ : Sc).line = s.data.toList then some ⟨j, x0, x1, x2⟩ else kindFrom s.data.toList x0 x1 x2 (j + 1) (9 - (j + 1))) := ⟨by
            have := hrd.out
            rw [show 9 - j = (9 - (j + 1)) + 1 by omega] at this
            exact this⟩
          have xA := Ext.alloc (Below.refl wr.heap.size wr) (.cells #[.int .i64 (j : Nat), .int .i64 (x0 : Nat), .int .i64 (x2 : Nat), .int .i64 (x1 : Nat)] 33)
          have hY := newblk wr (.cells #[.int .i64 (j : Nat), .int .i64 (x0 : Nat), .int .i64 (x2 : Nat), .int .i64 (x1 : Nat)] 33)
          have hE2 := Box.mk (Ext.trans' hE.out xA)
          have hZ2 := Box.mk (Ext.blk xA hZ.out)
          have hcel2 : Box _ := ⟨(⟨Ext.cell xA c0, Ext.cell xA c1, Ext.cell xA c2⟩ : _ ∧ _ ∧ _)⟩
          obtain ⟨y0, y1, y2, y3⟩ := blk4 hY
          have hYb := Box.mk hY
          clear hY hZ hE hrd
          by_cases hok : (⟨j, x0, x1, x2⟩ : Sc).ok
          · have cl : Box _ := ⟨fun w => cO.out ⟨j, x0, x1, x2⟩ hok w⟩
            by_cases hli : (⟨j, x0, x1, x2⟩ : Sc).line = s.data.toList
            · as_aux_lemma =>
              have hRR : R = some ⟨j, x0, x1, x2⟩ := by rw [hstep.out, if_pos ⟨hok, hli⟩]
              have hcmp : ((⟨(⟨j, x0, x1, x2⟩ : Sc).line.toArray⟩ : ByteArray).toList == s.toList) = true := by
                rw [Lib.toList_data, Lib.toList_data, beq_iff_eq]; exact hli
              generalize (⟨(⟨j, x0, x1, x2⟩ : Sc).line.toArray⟩ : ByteArray) = yl at *
              clear hstep hli hok
              go_wp2_with (first
                | (go_at_call 12; (with_reducible refine (cl.out _).mono ?_); rintro e w3 ⟨rfl, hb⟩; replace hZ2 := Box.mk (Ext.blk hb hZ2.out); replace hE2 := Box.mk (Ext.trans' hE2.out hb); replace y0 := Ext.cell hb y0; replace y1 := Ext.cell hb y1; replace y2 := Ext.cell hb y2; replace y3 := Ext.cell hb y3; clear c0 c1 c2 hb)
                | (refine wpList_store_row rfl 33 (.tmp 2) (.tmp 76) rfl Z #[.int .i64 (j : Nat), .int .i64 (x0 : Nat), .int .i64 (x2 : Nat), .int .i64 (x1 : Nat)] rfl rfl 33 #[.int .i64 0, .int .i64 0, .int .i64 0, .int .i64 0] hZ2.out infoSc rfl (oneSc _ _ _ _) ?_))
              have hZf := Box.mk (row_range (setRow_heap w3 Z #[.int .i64 0, .int .i64 0, .int .i64 0, .int .i64 0] #[.int .i64 (j : Nat), .int .i64 (x0 : Nat), .int .i64 (x2 : Nat), .int .i64 (x1 : Nat)] 33 (0, 0) hZ2.out))
              refine bodyPost_ret (v := .tuple #[.agg #[.int .i64 (j : Nat), .int .i64 (x0 : Nat), .int .i64 (x2 : Nat), .int .i64 (x1 : Nat)], .bool true]) ?_ rfl ⟨by rw [hrr.out, hRR]; rfl, Ext.setRow hE2.out hZs _⟩
              rw [results_cell_tmp rfl]
              simp [asAddr, Act.put, Result.andThen, run_loadVar_mid (w3.setRow Z #[.int .i64 (j : Nat), .int .i64 (x0 : Nat), .int .i64 (x2 : Nat), .int .i64 (x1 : Nat)]) Z 0 33 [.int .i64 (j : Nat), .int .i64 (x0 : Nat), .int .i64 (x2 : Nat), .int .i64 (x1 : Nat)] dS hZf.out huS hdS infoSc]
            · as_aux_lemma =>
              have hRR : Box (R = kindFrom s.data.toList x0 x1 x2 (j + 1) (9 - (j + 1))) := ⟨by rw [hstep.out, if_neg (fun h => hli h.2)]⟩
              have hcmp : ((⟨(⟨j, x0, x1, x2⟩ : Sc).line.toArray⟩ : ByteArray).toList == s.toList) = false := by
                rw [Lib.toList_data, Lib.toList_data, beq_eq_false_iff_ne]; exact hli
              generalize (⟨(⟨j, x0, x1, x2⟩ : Sc).line.toArray⟩ : ByteArray) = yl at *
              clear hstep hli hok
              go_wp2_with (first
                | (go_at_call 12; (with_reducible refine (cl.out _).mono ?_); rintro e w3 ⟨rfl, hb⟩; replace hZ2 := Box.mk (Ext.blk hb hZ2.out); replace hE2 := Box.mk (Ext.trans' hE2.out hb); replace hcel2 := Box.mk (⟨Ext.cell hb hcel2.out.1, Ext.cell hb hcel2.out.2.1, Ext.cell hb hcel2.out.2.2⟩ : _ ∧ _ ∧ _); clear c0 c1 c2 hb))
              go_roundw
              case rel => exact ⟨j + 1, by omega, by omega, by go_num, hRR, hcel2, hZ2, hE2⟩
              case measure => simp [intOf]; omega
          · as_aux_lemma =>
            have hRR : Box (R = kindFrom s.data.toList x0 x1 x2 (j + 1) (9 - (j + 1))) := ⟨by rw [hstep.out, if_neg (fun h => hok h.1)]⟩
            have hsb : scB (j : Int) (x0 : Int) (x2 : Int) (x1 : Int) = false := by
              rw [scB_ok ⟨j, x0, x1, x2⟩]; exact decide_eq_false hok
            have cl : Box _ := ⟨fun w => cB.out (j : Int) (x0 : Int) (x2 : Int) (x1 : Int) hsb w⟩
            clear hstep hok hsb
            go_wp2_with (first
              | (go_at_call 12; (with_reducible refine (cl.out _).mono ?_); rintro e w3 ⟨rfl, hb⟩; replace hZ2 := Box.mk (Ext.blk hb hZ2.out); replace hE2 := Box.mk (Ext.trans' hE2.out hb); replace hcel2 := Box.mk (⟨Ext.cell hb hcel2.out.1, Ext.cell hb hcel2.out.2.1, Ext.cell hb hcel2.out.2.2⟩ : _ ∧ _ ∧ _); clear c0 c1 c2 hb))
            go_roundw
            case rel => exact ⟨j + 1, by omega, by omega, by go_num, hRR, hcel2, hZ2, hE2⟩
            case measure => simp [intOf]; omega
        · as_aux_lemma =>
          obtain rfl : j = 9 := by omega
          have hRR : R = none := hrd.out
          have hZf := Box.mk (row_range (setRow_heap wr Z #[.int .i64 0, .int .i64 0, .int .i64 0, .int .i64 0] #[.int .i64 0, .int .i64 0, .int .i64 0, .int .i64 0] 33 (0, 0) hZ.out))
          go_wp2_with (first
            | (refine wpList_store_row rfl 33 (.tmp 2) (.tmp 77) rfl Z #[.int .i64 0, .int .i64 0, .int .i64 0, .int .i64 0] rfl rfl 33 #[.int .i64 0, .int .i64 0, .int .i64 0, .int .i64 0] hZ.out infoSc rfl (oneSc _ _ _ _) ?_))
          refine bodyPost_ret (v := .tuple #[.agg #[.int .i64 0, .int .i64 0, .int .i64 0, .int .i64 0], .bool false]) ?_ rfl ⟨by rw [hrr.out, hRR]; rfl, Ext.setRow hE.out hZs _⟩
          rw [results_cell_tmp rfl]
          simp [asAddr, Act.put, Result.andThen, run_loadVar_mid (wr.setRow Z #[.int .i64 0, .int .i64 0, .int .i64 0, .int .i64 0]) Z 0 33 [.int .i64 0, .int .i64 0, .int .i64 0, .int .i64 0] dS hZf.out huS hdS infoSc]
end Go.Proofs.YtcofejbkbcdopaaDoor
