import Derived.Test.YtbhfpofcebepiaaB29
/- The walk of the reference's Turns. -/
namespace Go.Proofs.Ytbhfpofcebepiaa
open Go.RowKit
theorem optTs_take (L : List Nat) (k t : Nat) (h : t < L.length) : (optTs L k).take (t + 1) = (optTs L k).take t ++ [optT L k t] := by
  have hl : t < (optTs L k).length := by simpa [optTs] using h
  rw [List.take_succ_eq_append_getElem hl]
  congr 1
  simp [optTs]
/-- The key that leaves, of the first ones. -/
def bst (L : List Nat) (i : Nat) (O : List Nat) (u : Nat) : Nat := vicF L i ((O.drop 1).take u) (O.getD 0 0)
theorem bst_step (L : List Nat) (i : Nat) (O : List Nat) (t : Nat) (h : t + 1 < O.length) : bst L i O (t + 1) = if befB L i (O.getD (t + 1) 0) (bst L i O t) then O.getD (t + 1) 0 else bst L i O t := by
  have hlast : (O.drop 1).take (t + 1) = (O.drop 1).take t ++ [O.getD (t + 1) 0] := by
    rw [List.take_add_one, List.getElem?_drop, List.getElem?_eq_getElem (by omega)]
    rw [List.getD_eq_getElem?_getD, List.getElem?_eq_getElem h]
    simp only [Nat.add_comm 1 t]
    rfl
  have hfold : ∀ (l : List Nat) (x b : Nat), vicF L i (l ++ [x]) b = if befB L i x (vicF L i l b) then x else vicF L i l b := by
    intro l
    induction l with
    | nil => intro x b; rfl
    | cons y l ihl => intro x b; exact ihl x _
  unfold bst
  rw [hlast, hfold]
theorem bst_all (L : List Nat) (i : Nat) (O : List Nat) (h : 0 < O.length) : bst L i O (O.length - 1) = vicB L i O := by
  cases O with
  | nil => simp at h
  | cons x l =>
    unfold bst
    have : ((x :: l).drop 1).take ((x :: l).length - 1) = l := by simp
    rw [this]
    rfl
theorem own_ne {W : World} {base s n : Nat} {e e' : TypeId} {v : Value} {xs : List Value} {X : Nat} {cs : Array Value} {fz : Nat × Nat} (h : W.ownsRow base e s v n xs) (hX : W.heap[X]? = some (.cells cs e' fz)) (hne : e' ≠ e) : v.ownBlock ≠ some X := by
  intro e9
  rcases h.2 with ⟨rfl, _⟩ | ⟨g', cap', cur', rfl, _, hgb', _⟩
  · cases e9
  · simp only [Value.ownBlock, Option.some.injEq] at e9
    subst e9
    rw [hX] at hgb'
    simp only [Option.some.injEq, Obj.cells.injEq] at hgb'
    exact hne hgb'.2.1
theorem u32_getD (L : List Nat) (t : Nat) (h : t < L.length) : L[t] = L.getD t 0 := by
  rw [List.getD_eq_getElem?_getD, List.getElem?_eq_getElem h]; rfl
set_option maxRecDepth 100000 in
set_option maxHeartbeats 8000000 in
theorem rturns_any (a : Option Addr) (c : Nat) (L : List Nat) (k : Nat) (w : World) (hL : L.length ≤ 100000) (h1 : 1 ≤ k) (h2 : k ≤ 1024) (hC : CellsAt w a (u32L L)) :
    Calls Try.prog 16 #[.slice a L.length c, .int .i64 (k : Nat)] w fun e w' => ∃ a' c', e = .returned (.slice a' L.length c') ∧ CellsAt w' a' (rows TnB.cs (optTs L k)) ∧ Ext w w' := by
  obtain ⟨i0, hi, hz0, hz1, hz2⟩ := info_parts infoU32
  obtain ⟨i1, hi1, hz3, hz4, hz5⟩ := info_parts infoTn
  have hol : (optTs L k).length = L.length := by simp [optTs]
  replace hC := Box.mk hC
  go_enter Try.func16, Try.ntmps16
  go_wp2
  go_loopw [5, 6, 7] (fun o ks i wr => ∃ t : Nat, t ≤ L.length ∧ i = .int .i64 t ∧ ∃ a5 c5 a6 c6, o = .slice a5 t c5 ∧ ks = .slice a6 (optS L k t).length c6 ∧ Box (RtR w ((optTs L k).take t) t (optS L k t) a5 c5 a6 c6 wr)) (fun _ _ i _ => L.length - (intOf i).toNat)
  case atStart => exact ⟨0, by omega, rfl, none, 0, none, 0, rfl, rfl, ⟨⟨Below.refl _ _, rfl, World.ownsRow_nil _ _ _ _, World.ownsRow_nil _ _ _ _⟩⟩⟩
  case round =>
    obtain ⟨t, ht, rfl, a5, c5, a6, c6, rfl, rfl, hR⟩ := hrel
    by_cases htn : t < L.length
    · have n0 : (0 : Int) ≤ (t : Int) := by omega
      have n1 : (t : Int) < (L.length : Int) := by omega
      have n2 : decide ((t : Int) < (L.length : Int)) = true := decide_eq_true n1
      have n3 : decide (t < L.length) = true := decide_eq_true htn
      have n4 : IntKind.i64.wrap ((t : Int) + 1) = (t : Int) + 1 := b64_one (by omega)
      obtain ⟨b1, o1, rfl, hcell⟩ := CellsAt.keep hR.out.ext hC.out t _ (u32L_at htn)
      rw [keyB_get L t htn] at hcell
      obtain ⟨hnd, hlen⟩ := optS_ok L k h1 t
      have htk := optTs_take L k t htn
      have hml : ((optTs L k).take t).length = t := by rw [List.length_take, hol]; omega
      have hmw : ∀ m : Nat, m ≤ 1000000 → m + 1 ≤ 140737488355328 ∧ (m + 1) * 8 ≤ 140737488355328 ∧ (m + 1) * 4 ≤ 140737488355328 := fun m hm => by omega
      have hkL : (optS L k t).length ≤ 100000 := by omega
      have cH := Box.mk (rhas_any a6 c6 (optS L k t) (keyB L t) wr (by omega) (own_cells hR.out.keys))
      by_cases hin : keyB L t ∈ optS L k t
      · rw [decide_eq_true hin] at cH
        obtain ⟨hT, hS⟩ := optT_hit L k t hin
        have hSb := Box.mk hS
        rw [hT] at htk
        have hml2 : ((optTs L k).take t).length ≤ 1000000 := by omega
        have hk1 : t + 1 ≤ 140737488355328 := by omega
        have hk2 : (t + 1) * 8 ≤ 140737488355328 := by omega
        have hlk : Box ((optTs L k).take (t + 1) = (optTs L k).take t ++ [⟨true, false, 0⟩]) := ⟨htk⟩
        clear hin hT hS hnd hlen htk hmw hml hkL
        go_wp2_with (first
          | (go_at_call 39; (with_reducible refine (cH.out).mono ?_); rintro e w1 ⟨rfl, rfl⟩)
          | (at_builtin; refine wpList_push rfl _ _ 31 rfl w.heap.size 50 i1 (.agg #[.bool false, .bool false, .int .u32 0]) 3 8 Try.underlying31 hi1 hz3 hz4 hz5 rfl (by decide) _ _ _ rfl hR.out.out [.bool true, .bool false, .int .u32 0] rfl rfl (by simp [Value.oneCell']) hk1 hk2 hR.out.ext.size ?_; intro v1 w3 hown3 hg3 hbel3 hs3; obtain ⟨a9, c9, rfl, hR9⟩ := hR.out.grow_out (x := ⟨true, false, 0⟩) hg3 hbel3 hown3; replace hR9 := Box.mk hR9; clear hown3 hg3 hbel3 hs3))
        go_roundw
        case rel => exact ⟨t + 1, by omega, by go_num, a9, c9, a6, c6, rfl, by rw [hSb.out], by rw [hlk.out, hSb.out]; exact hR9⟩
        case measure =>
          clear n4
          simp [intOf]; omega
      · rw [decide_eq_false hin] at cH
        have hxA : Ext wr (wr.alloc (.cells #[.bool false, .bool false, .int .u32 0] 50)) := Ext.alloc (Below.refl _ _) _
        have hXb := newblk wr (.cells #[.bool false, .bool false, .int .u32 0] 50)
        have hRA := hR.out.of_ext hxA
        have hk1 : t + 1 ≤ 140737488355328 := by omega
        have hk2 : (t + 1) * 8 ≤ 140737488355328 := by omega
        have hk3 : (optS L k t).length + 1 ≤ 140737488355328 := by omega
        have hk4 : ((optS L k t).length + 1) * 4 ≤ 140737488355328 := by omega
        by_cases hfull : (optS L k t).length = k
        · -- there is no room
          obtain ⟨hT, hS⟩ := optT_full L k t hin hfull
          rw [hT] at htk
          have hlk : Box ((optTs L k).take (t + 1) = (optTs L k).take t ++ [⟨false, true, vicB L (t + 1) (optS L k t)⟩]) := ⟨htk⟩
          have hSb := Box.mk hS
          have hvb := Box.mk (bst_all L (t + 1) (optS L k t) (by omega))
          have r1 : (((optS L k t).length : Int) == (k : Int)) = true := by rw [hfull]; simp
          have r2 : ((optS L k t).length == k) = true := by rw [hfull]; simp
          have hkc := own_cells hRA.keys
          obtain ⟨b6, o6, rfl, hk0⟩ := hkc 0 _ (u32L_at (show 0 < (optS L k t).length by omega))
          rw [u32_getD _ 0 (by omega)] at hk0
          have hk0' : (wr.alloc (.cells #[.bool false, .bool false, .int .u32 0] 50)).cell? ⟨b6, o6, none⟩ = some (.int .u32 (bst L (t + 1) (optS L k t) 0 : Nat)) := by
            have e : bst L (t + 1) (optS L k t) 0 = (optS L k t).getD 0 0 := by unfold bst; rw [List.take_zero]; rfl
            rw [e]; simpa using hk0
          have hcA := Ext.cell hxA hcell
          have hkcb := Box.mk hkc
          have hdr : Box (∀ u, u < (optS L k t).length → ∃ x, x = (optS L k t).getD u 0 ∧ (wr.alloc (.cells #[.bool false, .bool false, .int .u32 0] 50)).cell? ⟨b6, o6 + u, none⟩ = some (.int .u32 (x : Nat))) := ⟨fun u hu => by
            obtain ⟨b3, o3, e3, hc3⟩ := hkcb.out u _ (u32L_at hu)
            cases e3
            rw [u32_getD _ u hu] at hc3
            exact ⟨_, rfl, hc3⟩⟩
          have hstp : Box (∀ u, 1 ≤ u → u < (optS L k t).length → bst L (t + 1) (optS L k t) u = if befB L (t + 1) ((optS L k t).getD u 0) (bst L (t + 1) (optS L k t) (u - 1)) then (optS L k t).getD u 0 else bst L (t + 1) (optS L k t) (u - 1)) := ⟨fun u h1 h2 => by
            obtain ⟨v, rfl⟩ : ∃ v, u = v + 1 := ⟨u - 1, by omega⟩
            exact bst_step L (t + 1) (optS L k t) v h2⟩
          have cX : Box (∀ key w, CellsAt w (some ⟨b1, o1, none⟩) (u32L L) → Calls Try.prog 31 #[.slice (some ⟨b1, o1, none⟩) L.length c, .int .i64 ((t : Int) + 1), .int .u32 (key : Nat)] w fun e w' => e = .returned (.int .i64 (nxB L key (t + 1) : Nat)) ∧ w = w') := ⟨fun key w hc => by
            have := rnext_any (some ⟨b1, o1, none⟩) c L (t + 1) key w (by omega) (by omega) hc
            rw [show (((t + 1 : Nat)) : Int) = (t : Int) + 1 by omega] at this
            exact this⟩
          have hCA := Box.mk (CellsAt.keep (Ext.trans' hR.out.ext hxA) hC.out)
          have hb6 := lt_of_cell hk0
          have hm1 : 1 ≤ (optS L k t).length := by omega
          replace hRA := Box.mk hRA
          replace hXb := Box.mk hXb
          have n5 : (0 : Int) < ((optS L k t).length : Int) := by omega
          clear hin hT hS hnd hlen htk hmw hml hfull hkc hk0
          generalize hOm : (optS L k t).length = m at *
          replace hOm := Box.mk hOm
          go_wp2_with (first
            | (go_at_call 39; (with_reducible refine (cH.out).mono ?_); rintro e w1 ⟨rfl, rfl⟩))
          go_loopw [9, 10] (fun bv iv wq => ∃ u : Nat, 1 ≤ u ∧ u ≤ m ∧ iv = .int .i64 (u : Nat) ∧ bv = .int .u32 (bst L (t + 1) (optS L k t) (u - 1) : Nat) ∧ (wr.alloc (.cells #[.bool false, .bool false, .int .u32 0] 50)) = wq) (fun _ iv _ => m - (intOf iv).toNat)
          case atStart => exact ⟨1, Nat.le_refl _, hm1, rfl, rfl, rfl⟩
          case round =>
            obtain ⟨u, hu1, hum, rfl, rfl, rfl⟩ := hrel
            have u0 : (0 : Int) ≤ (u : Int) := by omega
            have u4 : IntKind.i64.wrap ((u : Int) + 1) = (u : Int) + 1 := b64_one (by omega)
            by_cases hul : u < m
            · obtain ⟨x, hxe, hxc⟩ := hdr.out u hul
              have hst := hstp.out u hu1 hul
              rw [← hxe] at hst
              have u1 : (u : Int) < (m : Int) := by omega
              have u2 : decide ((u : Int) < (m : Int)) = true := decide_eq_true u1
              have u3 : decide (u < m) = true := decide_eq_true hul
              have hsu : Box (bst L (t + 1) (optS L k t) (u + 1 - 1) = bst L (t + 1) (optS L k t) u) := ⟨rfl⟩
              generalize bst L (t + 1) (optS L k t) (u - 1) = bb at *
              have c1 := Box.mk (cX.out x _ hCA.out)
              have c2 := Box.mk (cX.out bb _ hCA.out)
              have hbf : befB L (t + 1) x bb ↔ nxB L bb (t + 1) < nxB L x (t + 1) ∨ (nxB L x (t + 1) = nxB L bb (t + 1) ∧ x < bb) := Iff.rfl
              obtain ⟨na, hna⟩ : ∃ na, na = nxB L x (t + 1) := ⟨_, rfl⟩
              obtain ⟨nb, hnb⟩ : ∃ nb, nb = nxB L bb (t + 1) := ⟨_, rfl⟩
              rw [← hna, ← hnb] at hbf
              rw [← hna] at c1
              rw [← hnb] at c2
              clear hxe hna hnb
              by_cases hc1 : nb < na
              · rw [if_pos (hbf.2 (Or.inl hc1))] at hst
                have e1 : decide ((na : Int) > (nb : Int)) = true := decide_eq_true (by omega)
                have e2 : decide ((nb : Int) < (na : Int)) = true := decide_eq_true (by omega)
                have e3 : decide (nb < na) = true := decide_eq_true hc1
                replace hst := Box.mk hst
                clear hc1 hbf
                go_wp2_with (first
                  | (go_at_call 31; (first | with_reducible refine (c1.out).mono ?_ | with_reducible refine (c2.out).mono ?_); rintro e w1 ⟨rfl, rfl⟩))
                go_roundw
                case rel => exact ⟨u + 1, by omega, by omega, by go_num, by rw [hsu.out, hst.out], by first | rfl | trivial⟩
                case measure =>
                  clear u4 n4
                  simp [intOf]; omega
              · have e1 : decide ((na : Int) > (nb : Int)) = false := decide_eq_false (by omega)
                have e2 : decide ((nb : Int) < (na : Int)) = false := decide_eq_false (by omega)
                have e3 : decide (nb < na) = false := decide_eq_false hc1
                by_cases hc2 : na = nb
                · have e4 : ((na : Int) == (nb : Int)) = true := by rw [hc2]; simp
                  have e5 : (na == nb) = true := by rw [hc2]; simp
                  by_cases hc3 : x < bb
                  · rw [if_pos (hbf.2 (Or.inr ⟨hc2, hc3⟩))] at hst
                    have e6 : decide ((x : Int) < (bb : Int)) = true := decide_eq_true (by omega)
                    have e7 : decide (x < bb) = true := decide_eq_true hc3
                    replace hst := Box.mk hst
                    clear hc1 hc2 hc3 hbf
                    go_wp2_with (first
                      | (go_at_call 31; (first | with_reducible refine (c1.out).mono ?_ | with_reducible refine (c2.out).mono ?_); rintro e w1 ⟨rfl, rfl⟩))
                    go_roundw
                    case rel => exact ⟨u + 1, by omega, by omega, by go_num, by rw [hsu.out, hst.out], by first | rfl | trivial⟩
                    case measure =>
                      clear u4 n4
                      simp [intOf]; omega
                  · rw [if_neg (fun h => (hbf.1 h).elim hc1 (fun h => hc3 h.2))] at hst
                    have e6 : decide ((x : Int) < (bb : Int)) = false := decide_eq_false (by omega)
                    have e7 : decide (x < bb) = false := decide_eq_false hc3
                    replace hst := Box.mk hst
                    clear hc1 hc2 hc3 hbf
                    go_wp2_with (first
                      | (go_at_call 31; (first | with_reducible refine (c1.out).mono ?_ | with_reducible refine (c2.out).mono ?_); rintro e w1 ⟨rfl, rfl⟩))
                    go_roundw
                    case rel => exact ⟨u + 1, by omega, by omega, by go_num, by rw [hsu.out, hst.out], by first | rfl | trivial⟩
                    case measure =>
                      clear u4 n4
                      simp [intOf]; omega
                · rw [if_neg (fun h => (hbf.1 h).elim hc1 (fun h => hc2 h.1))] at hst
                  have e4 : ((na : Int) == (nb : Int)) = false := by rw [beq_eq_false_iff_ne]; omega
                  have e5 : (na == nb) = false := by rw [beq_eq_false_iff_ne]; exact hc2
                  replace hst := Box.mk hst
                  clear hc1 hc2 hbf
                  go_wp2_with (first
                    | (go_at_call 31; (first | with_reducible refine (c1.out).mono ?_ | with_reducible refine (c2.out).mono ?_); rintro e w1 ⟨rfl, rfl⟩))
                  go_roundw
                  case rel => exact ⟨u + 1, by omega, by omega, by go_num, by rw [hsu.out, hst.out], by first | rfl | trivial⟩
                  case measure =>
                    clear u4 n4
                    simp [intOf]; omega
            · obtain rfl : u = m := by omega
              have u2 : decide ((u : Int) < (u : Int)) = false := decide_eq_false (by omega)
              have u3 : decide (u < u) = false := decide_eq_false (by omega)
              rw [hvb.out]
              generalize vicB L (t + 1) (optS L k t) = v at *
              go_wp2_with (fail)
              have hxB : Ext wr (wr.alloc (.cells #[.bool false, .bool true, .int .u32 (v : Nat)] 50)) := Ext.alloc (Below.refl _ _) _
              have hRB := hR.out.of_ext hxB
              have hXb2 := newblk wr (.cells #[.bool false, .bool true, .int .u32 (v : Nat)] 50)
              have cW := rwithout_any (some ⟨b6, o6, none⟩) c6 (optS L k t) v _ (by rw [hOm.out]; omega) (own_cells hRB.keys)
              rw [hOm.out] at cW
              have hwl : (woB (optS L k t) v).length ≤ u := by
                rw [← hOm.out]
                exact List.length_filter_le _ _
              have hk5 : (woB (optS L k t) v).length + 1 ≤ 140737488355328 := by omega
              have hk6 : ((woB (optS L k t) v).length + 1) * 4 ≤ 140737488355328 := by omega
              have hX : Box (∀ w5 a7 c7, Ext (wr.alloc (.cells #[.bool false, .bool true, .int .u32 (v : Nat)] 50)) w5 → RtR w ((optTs L k).take t) t (woB (optS L k t) v) a5 c5 a7 c7 w5 → w5.cell? ⟨b1, o1 + t, none⟩ = some (.int .u32 (keyB L t : Nat)) ∧ ∀ w3, w5.grownBy w3 (Value.slice a7 (woB (optS L k t) v).length c7).ownBlock → w3.cell? ⟨wr.heap.size, 0, none⟩ = some (.bool false) ∧ w3.cell? ⟨wr.heap.size, 1, none⟩ = some (.bool true) ∧ w3.cell? ⟨wr.heap.size, 2, none⟩ = some (.int .u32 (v : Nat))) := ⟨fun w5 a7 c7 h5 hR5 => by
                refine ⟨Ext.cell h5 (Ext.cell hxB hcell), fun w3 hg => ?_⟩
                have hX5 := Ext.blk h5 hXb2
                exact cells3 ((hg.block wr.heap.size (blk_lt hX5) (fun e => own_ne hR5.keys hX5 tn_ne e.symm)).trans hX5)⟩
              (with_reducible refine cW.mono ?_)
              rintro e w5 ⟨a7, c7, rfl, ho7, hx7⟩
              have hR7 := hRB.without hx7 ho7
              obtain ⟨hc7, hX7⟩ := hX.out w5 a7 c7 hx7 hR7
              replace hX7 := Box.mk hX7
              replace hR7 := Box.mk hR7
              clear ho7 hx7 hRB hXb2
              go_wp2_with (first
                | (at_builtin; refine wpList_push rfl _ _ 22 rfl w.heap.size 45 i0 (.int .u32 0) 1 4 Try.underlying22 hi hz0 hz1 hz2 rfl (by decide) _ _ _ rfl hR7.out.keys [.int .u32 (keyB L t : Nat)] (by first | rfl | simp [Act.eval]) rfl (by simp [Value.oneCell']) hk5 hk6 hR7.out.ext.size ?_; intro v1 w3 hown3 hg3 hbel3 hs3; obtain ⟨a8, c8, rfl, hR8⟩ := hR7.out.grow_keys (x := keyB L t) hg3 hbel3 hown3; obtain ⟨x7, x8, x9⟩ := hX7.out w3 hg3; replace hR8 := Box.mk hR8; clear hown3 hg3 hbel3 hs3)
                | (at_builtin; refine wpList_push rfl _ _ 31 rfl w.heap.size 50 i1 (.agg #[.bool false, .bool false, .int .u32 0]) 3 8 Try.underlying31 hi1 hz3 hz4 hz5 rfl (by decide) _ _ _ rfl hR8.out.out [.bool false, .bool true, .int .u32 (v : Nat)] rfl rfl (by simp [Value.oneCell']) hk1 hk2 hR8.out.ext.size ?_; intro v1 w3 hown3 hg3 hbel3 hs3; obtain ⟨a9, c9, rfl, hR9⟩ := hR8.out.grow_out (x := ⟨false, true, v⟩) hg3 hbel3 hown3; replace hR9 := Box.mk hR9; clear hown3 hg3 hbel3 hs3))
              go_roundw
              case rel => exact ⟨t + 1, by omega, by go_num, a9, c9, a8, c8, rfl, by rw [hSb.out, List.length_append]; rfl, by rw [hlk.out, hSb.out]; exact hR9⟩
              case measure =>
                clear n4 u4
                simp [intOf]; omega
        · obtain ⟨hT, hS⟩ := optT_room L k t hin hfull
          rw [hT] at htk
          have hlk : Box ((optTs L k).take (t + 1) = (optTs L k).take t ++ [⟨false, false, 0⟩]) := ⟨htk⟩
          have hSb := Box.mk hS
          have r1 : (((optS L k t).length : Int) == (k : Int)) = false := by rw [beq_eq_false_iff_ne]; omega
          have r2 : ((optS L k t).length == k) = false := by rw [beq_eq_false_iff_ne]; exact hfull
          -- the turn's cells stay behind the append to the keys
          have hX : Box (∀ w3, (wr.alloc (.cells #[.bool false, .bool false, .int .u32 0] 50)).grownBy w3 (Value.slice a6 (optS L k t).length c6).ownBlock → (wr.alloc (.cells #[.bool false, .bool false, .int .u32 0] 50)).heap.size < w3.heap.size → w3.cell? ⟨wr.heap.size, 0, none⟩ = some (.bool false) ∧ w3.cell? ⟨wr.heap.size, 1, none⟩ = some (.bool false) ∧ w3.cell? ⟨wr.heap.size, 2, none⟩ = some (.int .u32 0)) := ⟨fun w3 hg _ => by
            refine cells3 ((hg.block wr.heap.size (blk_lt hXb) (fun e => ?_)).trans hXb)
            have := (hR.out.keys.lt _ e.symm).2
            omega⟩
          replace hR := Box.mk hR
          replace hRA := Box.mk hRA
          have hcA := Ext.cell hxA hcell
          clear hin hT hS hnd hlen htk hmw hml hkL hXb hxA hfull
          go_wp2_with (first
            | (go_at_call 39; (with_reducible refine (cH.out).mono ?_); rintro e w1 ⟨rfl, rfl⟩)
            | (at_builtin; refine wpList_push rfl _ _ 22 rfl w.heap.size 45 i0 (.int .u32 0) 1 4 Try.underlying22 hi hz0 hz1 hz2 rfl (by decide) _ _ _ rfl hRA.out.keys [.int .u32 (keyB L t : Nat)] (by first | rfl | simp [Act.eval]) rfl (by simp [Value.oneCell']) hk3 hk4 hRA.out.ext.size ?_; intro v1 w3 hown3 hg3 hbel3 hs3; obtain ⟨a8, c8, rfl, hR8⟩ := hRA.out.grow_keys (x := keyB L t) hg3 hbel3 hown3; have hX8 := hX.out w3 hg3 hs3; replace hR8 := Box.mk hR8; clear hown3 hg3 hbel3 hs3)
            | (at_builtin; refine wpList_push rfl _ _ 31 rfl w.heap.size 50 i1 (.agg #[.bool false, .bool false, .int .u32 0]) 3 8 Try.underlying31 hi1 hz3 hz4 hz5 rfl (by decide) _ _ _ rfl hR8.out.out [.bool false, .bool false, .int .u32 0] rfl rfl (by simp [Value.oneCell']) hk1 hk2 hR8.out.ext.size ?_; intro v1 w3 hown3 hg3 hbel3 hs3; obtain ⟨a9, c9, rfl, hR9⟩ := hR8.out.grow_out (x := ⟨false, false, 0⟩) hg3 hbel3 hown3; replace hR9 := Box.mk hR9; clear hown3 hg3 hbel3 hs3))
          go_roundw
          case rel => exact ⟨t + 1, by omega, by go_num, a9, c9, a8, c8, rfl, by rw [hSb.out, List.length_append]; rfl, by rw [hlk.out, hSb.out]; exact hR9⟩
          case measure =>
            clear n4
            simp [intOf]; omega
    · obtain rfl : t = L.length := by omega
      have n2 : decide ((L.length : Int) < (L.length : Int)) = false := decide_eq_false (by omega)
      have n3 : decide (L.length < L.length) = false := decide_eq_false (by omega)
      have htl : (optTs L k).take L.length = optTs L k := List.take_of_length_le (by omega)
      rw [htl] at hR
      have hce := Box.mk (own_cells hR.out.out)
      have hex := Box.mk hR.out.ext
      clear hR
      go_wp2
      go_ret
      exact ⟨a5, c5, rfl, hce.out, hex.out⟩
end Go.Proofs.Ytbhfpofcebepiaa
