import Derived.Test.YtbhfpofcebepiaaB39
import Derived.Deep.CutRange
/- The walk of BeladyHolds. -/
namespace Go.Proofs.Ytbhfpofcebepiaa
open Go.RowKit
theorem take_mem {O : List Nat} {u : Nat} (h : u < O.length) (x : Nat) : x ∈ O.take (u + 1) ↔ x ∈ O.take u ∨ O.getD u 0 = x := by
  rw [List.take_succ_eq_append_getElem h, List.mem_append, List.mem_singleton, u32_getD O u h]
  exact ⟨fun e => e.imp id Eq.symm, fun e => e.imp id Eq.symm⟩
theorem firstB_le (L : List Nat) (t : Nat) : firstB L t ≤ t := by
  have : firstB L t ≤ (List.range t).length := List.countP_le_length
  rw [List.length_range] at this
  exact this
theorem own_shape {W : World} {base n c s : Nat} {e : TypeId} {a : Option Addr} {xs : List Value} (h : W.ownsRow base e s (.slice a n c) n xs) (h0 : 0 < n) : ∃ g, a = some ⟨g, 0, none⟩ ∧ n ≤ c := by
  rcases h.2 with ⟨hv, h0⟩ | ⟨g, cap, cur, hv, hbg, hg, hnc, hcm, hcs, htk⟩
  · omega
  · simp only [Value.slice.injEq] at hv
    obtain ⟨rfl, -, rfl⟩ := hv
    exact ⟨g, rfl, hnc⟩
set_option maxRecDepth 100000 in
set_option maxHeartbeats 16000000 in
theorem holds_core (a b : Option Addr) (c d : Nat) (L N : List Nat) (k : Nat) (w : World) (hL : L.length ≤ 100) (hk1 : 1 ≤ k) (hk2 : k ≤ 20) (hN : N.length ≤ 100) (hN2 : ∀ x ∈ N, x ≤ 255) (hC : CellsAt w a (u32L L)) (hD : CellsAt w b (u8N N)) :
    Calls Try.prog 8 #[.slice a L.length c, .int .i64 (k : Nat), .slice b N.length d] w fun e w' => e = .returned (.bool true) ∧ Ext w w' := by
  obtain ⟨i0, hi, hz0, hz1, hz2⟩ := info_parts infoU32
  obtain ⟨i1, hi1, hz3, hz4, hz5⟩ := info_parts infoTn
  have cK : Box (∀ w, _) := ⟨fun w => known_any w⟩
  have a0 : decide ((L.length : Int) > 100) = false := decide_eq_false (by omega)
  have a1 : decide ((100 : Int) < (L.length : Int)) = false := decide_eq_false (by omega)
  have a2 : decide (100 < L.length) = false := decide_eq_false (by omega)
  have b0 : decide ((k : Int) < 1) = false := decide_eq_false (by omega)
  have b1 : decide (k < 1) = false := decide_eq_false (by omega)
  have b2 : decide ((k : Int) > 20) = false := decide_eq_false (by omega)
  have b3 : decide ((20 : Int) < (k : Int)) = false := decide_eq_false (by omega)
  have b4 : decide (20 < k) = false := decide_eq_false (by omega)
  have b5 : ¬ k = 0 := by omega
  have c0 : decide ((N.length : Int) > 100) = false := decide_eq_false (by omega)
  have c1 : decide ((100 : Int) < (N.length : Int)) = false := decide_eq_false (by omega)
  have c2 : decide (100 < N.length) = false := decide_eq_false (by omega)
  have kw : IntKind.i64.wrap ((k : Int) + 1) = (k : Int) + 1 := b64_one (by omega)
  have hol : (optTs L k).length = L.length := by simp [optTs]
  have hop := (opt_pol L k hk1 L.length (Nat.le_refl _)).2.2.1
  have hll := lazTs_len L k (vfH N k)
  have cT : Box (∀ w', Ext w w' → Calls Try.prog 13 #[.slice a L.length c, .int .i64 (k : Nat)] w' fun e w'' => ∃ a' c', e = .returned (.tuple #[.slice a' L.length c', .int .i64 0]) ∧ CellsAt w'' a' (rows TnB.cs (optTs L k)) ∧ Ext w' w'') := ⟨fun w' hx => Turns_ok a c L k w' (by omega) hk1 (by omega) (CellsAt.keep hx hC)⟩
  have cH : Box (∀ w', Ext w w' → Calls Try.prog 14 #[.slice a L.length c, .int .i64 (k : Nat)] w' fun e w'' => e = .returned (.tuple #[.int .i64 (optH L k L.length : Nat), .int .i64 0]) ∧ Ext w' w'') := ⟨fun w' hx => Hits_ok a c L k w' (by omega) hk1 (by omega) (CellsAt.keep hx hC)⟩
  have cH2 : Box (∀ w', Ext w w' → Calls Try.prog 14 #[.slice a L.length c, .int .i64 ((k : Int) + 1)] w' fun e w'' => e = .returned (.tuple #[.int .i64 (optH L (k + 1) L.length : Nat), .int .i64 0]) ∧ Ext w' w'') := ⟨fun w' hx => by
    have := Hits_ok a c L (k + 1) w' (by omega) (by omega) (by omega) (CellsAt.keep hx hC)
    rw [show (((k + 1 : Nat)) : Int) = (k : Int) + 1 by omega] at this
    exact this⟩
  have cC : Box (∀ a2 c2 w', Ext w w' → CellsAt w' a2 (rows TnB.cs (optTs L k)) → Calls Try.prog 19 #[.slice a L.length c, .int .i64 (k : Nat), .slice a2 L.length c2] w' fun e w'' => e = .returned (.tuple #[.int .i64 (optH L k L.length : Nat), .int .i64 0]) ∧ Ext w' w'') := ⟨fun a2 c2 w' hx h2 => by
    have := Check_any a a2 c c2 L (optTs L k) k w' (by omega) hol hk1 (by omega) (CellsAt.keep hx hC) h2 true ⟨fun _ => good_opt L k hk1, fun _ => rfl⟩
    rw [hop, hol] at this
    exact this⟩
  have cP : Box (∀ a2 c2 w', Ext w w' → CellsAt w' a2 (rows TnB.cs (lazTs L k (vfH N k))) → Calls Try.prog 19 #[.slice a L.length c, .int .i64 (k : Nat), .slice a2 L.length c2] w' fun e w'' => e = .returned (.tuple #[.int .i64 (polH (lazTs L k (vfH N k)) L.length : Nat), .int .i64 0]) ∧ Ext w' w'') := ⟨fun a2 c2 w' hx h2 => by
    have := Check_any a a2 c c2 L (lazTs L k (vfH N k)) k w' (by omega) hll hk1 (by omega) (CellsAt.keep hx hC) h2 true ⟨fun _ => good_laz L N k hk1, fun _ => rfl⟩
    rw [hll] at this
    exact this⟩
  have cD : Box (∀ w', Ext w w' → Calls Try.prog 24 #[.slice a L.length c] w' fun e w'' => e = .returned (.int .i64 (firstB L L.length : Nat)) ∧ w' = w'') := ⟨fun w' hx => rdiff_any a c L w' (by omega) (CellsAt.keep hx hC)⟩
  have cB : Box (∀ w', L.length ≤ 9 → Ext w w' → Calls Try.prog 22 #[.slice a L.length c, .int .i64 (k : Nat)] w' fun e w'' => e = .returned (.tuple #[.int .i64 (optH L k L.length : Nat), .int .i64 0]) ∧ Ext w' w'') := ⟨fun w' h9 hx => Best_ok a c L k w' (by omega) hk1 (by omega) (CellsAt.keep hx hC)⟩
  have hzy := opt_more L k hk1
  have hpz := laz_le L k (vfH N k) hk1 (vfH_mem N k hk1)
  have hall := opt_all L k
  have hdl := firstB_le L L.length
  obtain ⟨z, hz⟩ : ∃ z, z = optH L k L.length := ⟨_, rfl⟩
  obtain ⟨y, hy⟩ : ∃ y, y = optH L (k + 1) L.length := ⟨_, rfl⟩
  obtain ⟨p, hp⟩ : ∃ p, p = polH (lazTs L k (vfH N k)) L.length := ⟨_, rfl⟩
  obtain ⟨dd, hdd⟩ : ∃ dd, dd = firstB L L.length := ⟨_, rfl⟩
  rw [← hz] at cH cC cB hzy hpz hall
  rw [← hy] at cH2 hzy
  rw [← hp] at cP hpz
  rw [← hdd] at cD hall hdl
  have z1 : ((z : Int) != (z : Int)) = false := by simp
  have y1 : decide ((y : Int) < (z : Int)) = false := decide_eq_false (by omega)
  have y2 : decide (y < z) = false := decide_eq_false (by omega)
  have p1 : decide ((p : Int) ≤ (z : Int)) = true := decide_eq_true (by omega)
  have p2 : decide (p ≤ z) = true := decide_eq_true (by omega)
  have hx : Ext w w := Below.refl _ _
  replace hC := Box.mk hC
  replace hD := Box.mk hD
  replace hN2 := Box.mk hN2
  clear hz hy hp hdd hzy hpz hop hol
  go_enter Try.func8, Try.ntmps8
  go_upto_region 10 with (first
    | (go_at_call 13; (with_reducible refine (cT.out _ hx).mono ?_); rintro e w1 ⟨a1', c1', rfl, hT, hb⟩; replace hT := Box.mk hT; have hx := Ext.trans' hx hb)
    | (go_at_call 14; (with_reducible refine (cH.out _ hx).mono ?_); rintro e w2 ⟨rfl, hbh⟩; have hx := Ext.trans' hx hbh)
    | (go_at_call 14; (with_reducible refine (cH2.out _ hx).mono ?_); rintro e w4 ⟨rfl, hb⟩; have hx := Ext.trans' hx hb)
    | (go_at_call 19; (with_reducible refine (cC.out _ _ _ hx (CellsAt.keep hbh hT.out)).mono ?_); rintro e w3 ⟨rfl, hb⟩; have hx := Ext.trans' hx hb)
    | (go_at_call 24; (with_reducible refine (cD.out _ hx).mono ?_); rintro e w5 ⟨rfl, rfl⟩))
  go_cut [105] from 95 to 105 (fun s105 wx => s105 = .bool false ∧ Box (Ext w wx))
  case first =>
    by_cases hdk : dd ≤ k
    · have e1 : decide ((k : Int) ≥ (dd : Int)) = true := decide_eq_true (by omega)
      have e2 : decide ((dd : Int) ≤ (k : Int)) = true := decide_eq_true (by omega)
      have e3 : decide (dd ≤ k) = true := decide_eq_true hdk
      have e4 : IntKind.i64.wrap ((L.length : Int) - (dd : Int)) = (L.length : Int) - (dd : Int) := by rw [IntKind.wrap_i64]; omega
      have e5 : ((z : Int) != (L.length : Int) - (dd : Int)) = false := by
        have := hall hdk
        have e : (z : Int) = (L.length : Int) - (dd : Int) := by clear kw e4; omega
        rw [e]; simp
      replace hx := Box.mk hx
      clear hall hdl hdk
      go_wp2
      go_meet
      exact ⟨rfl, hx⟩
    · have e1 : decide ((k : Int) ≥ (dd : Int)) = false := decide_eq_false (by omega)
      have e2 : decide ((dd : Int) ≤ (k : Int)) = false := decide_eq_false (by omega)
      have e3 : decide (dd ≤ k) = false := decide_eq_false hdk
      replace hx := Box.mk hx
      clear hall hdl hdk
      go_wp2
      go_meet
      exact ⟨rfl, hx⟩
  case rest =>
    obtain ⟨rfl, hx⟩ := hcut
    clear hall hdl
    obtain ⟨bb, f1, f2, hbb⟩ : ∃ bb, decide ((L.length : Int) ≤ 9) = bb ∧ decide (L.length ≤ 9) = bb ∧ Box (bb = true → L.length ≤ 9) := ⟨decide (L.length ≤ 9), by
      by_cases h9 : L.length ≤ 9
      · rw [decide_eq_true h9, decide_eq_true (by omega)]
      · rw [decide_eq_false h9, decide_eq_false (by omega)], rfl, ⟨fun h => of_decide_eq_true h⟩⟩
    go_upto_if 108 with (fail)
    go_cut [] from 16 to 121 (fun wx => Box (Ext w wx))
    case first =>
      cases bb with
      | true =>
        have cB2 := Box.mk (cB.out _ (hbb.out rfl) hx.out)
        go_wp2_with (first
          | (go_at_call 22; (with_reducible refine (cB2.out).mono ?_); rintro e w6 ⟨rfl, hb6⟩; replace hb6 := Box.mk (Ext.trans' hx.out hb6)))
        go_meet
        exact hb6
      | false =>
        go_wp2
        go_meet
        exact hx
    case rest =>
      clear hbb f1 f2 bb hx
      have hx := hcut
      clear cT cH cH2 cC cD cB hcut
      replace hll := Box.mk hll
      go_wp2_with (fail)
      go_loopw [18, 19, 20] (fun ks o i wr => ∃ t : Nat, t ≤ L.length ∧ i = .int .i64 t ∧ ∃ a5 c5 a6 c6, o = .slice a5 t c5 ∧ ks = .slice a6 (lazS L k (vfH N k) t).length c6 ∧ Box (RtR w ((lazTs L k (vfH N k)).take t) t (lazS L k (vfH N k) t) a5 c5 a6 c6 wr)) (fun _ _ i _ => L.length - (intOf i).toNat)
      case atStart => exact ⟨0, by omega, rfl, none, 0, none, 0, rfl, rfl, ⟨⟨hx.out, rfl, World.ownsRow_nil _ _ _ _, World.ownsRow_nil _ _ _ _⟩⟩⟩
      case round =>
        obtain ⟨t, ht, rfl, a5, c5, a6, c6, rfl, rfl, hR⟩ := hrel
        obtain ⟨wo, rfl⟩ : ∃ wo, wo = wr := ⟨_, rfl⟩
        by_cases htn : t < L.length
        · have n0 : (0 : Int) ≤ (t : Int) := by omega
          have n1 : (t : Int) < (L.length : Int) := by omega
          have n2 : decide ((t : Int) < (L.length : Int)) = true := decide_eq_true n1
          have n3 : decide (t < L.length) = true := decide_eq_true htn
          have n4 : IntKind.i64.wrap ((t : Int) + 1) = (t : Int) + 1 := b64_one (by omega)
          obtain ⟨b1', o1, rfl, hcell⟩ := CellsAt.keep hR.out.ext hC.out t _ (u32L_at htn)
          rw [keyB_get L t htn] at hcell
          obtain ⟨⟨_, hnd, _⟩, hlen, _⟩ := laz_pol L k (vfH N k) (vfH_mem N k hk1) t (by omega)
          have htk := lazTs_take L k (vfH N k) t htn
          have hxA : Ext wo (wo.alloc (.cells #[.bool false, .bool false, .int .u32 0] 50)) := Ext.alloc (Below.refl _ _) _
          have hXb := Box.mk (newblk wo (.cells #[.bool false, .bool false, .int .u32 0] 50))
          have h5X : (Value.slice a5 t c5).ownBlock ≠ some wo.heap.size := fun e => by
            have := (hR.out.out.lt _ e).2
            omega
          have h6X : (Value.slice a6 (lazS L k (vfH N k) t).length c6).ownBlock ≠ some wo.heap.size := fun e => by
            have := (hR.out.keys.lt _ e).2
            omega
          have hXs := hR.out.ext.size
          have hRA := Box.mk (hR.out.of_ext hxA)
          have hcA := Box.mk (Ext.cell hxA hcell)
          have hhit := Box.mk (lazT_hit L k (vfH N k) t)
          have hroom := Box.mk (lazT_room L k (vfH N k) t)
          have hfullT := Box.mk (lazT_full L k (vfH N k) t)
          have hkc := Box.mk (own_cells hRA.out.keys)
          have hwl : (Box (∀ x, (woB (lazS L k (vfH N k) t) x).length ≤ 20)) := ⟨fun x => by
            have : (woB (lazS L k (vfH N k) t) x).length ≤ (lazS L k (vfH N k) t).length := List.length_filter_le _ _
            clear n4 kw
            omega⟩
          have hk1' : t + 1 ≤ 140737488355328 := by omega
          have hk2' : (t + 1) * 8 ≤ 140737488355328 := by omega
          generalize hO : lazS L k (vfH N k) t = O at *
          generalize hkey : keyB L t = key at *
          replace hO := Box.mk hO
          replace hkey := Box.mk hkey
          replace htk := Box.mk htk
          replace hnd := Box.mk hnd
          replace h5X := Box.mk h5X
          replace h6X := Box.mk h6X
          replace hXs := Box.mk hXs
          replace hxA := Box.mk hxA
          have hm : O.length ≤ 20 := by omega
          clear hcell
          go_wp2_with (fail)
          go_loopw [22, 23] (fun av kv wq => ∃ (u : Nat) (zz : Int), u ≤ O.length ∧ kv = .int .i64 (u : Nat) ∧ av = .int .i64 zz ∧ Box (0 ≤ zz ↔ key ∈ O.take u) ∧ Box (Ext (wo.alloc (.cells #[.bool false, .bool false, .int .u32 0] 50)) wq)) (fun _ kv _ => O.length - (intOf kv).toNat)
          case atStart => exact ⟨0, -1, Nat.zero_le _, rfl, rfl, ⟨by simp⟩, ⟨Below.refl _ _⟩⟩
          case round =>
            obtain ⟨u, zz, hum, rfl, rfl, hzz, hq⟩ := hrel
            by_cases hul : u < O.length
            · have u0 : (0 : Int) ≤ (u : Int) := by omega
              have u1 : (u : Int) < (O.length : Int) := by omega
              have u2 : decide ((u : Int) < (O.length : Int)) = true := decide_eq_true u1
              have u3 : decide (u < O.length) = true := decide_eq_true hul
              have u4 : IntKind.i64.wrap ((u : Int) + 1) = (u : Int) + 1 := b64_one (by omega)
              obtain ⟨b6, o6, rfl, hku⟩ := CellsAt.keep hq.out hkc.out u _ (u32L_at hul)
              rw [u32_getD O u hul] at hku
              have hcq := Ext.cell hq.out hcA.out
              have htm := Box.mk (take_mem hul key)
              generalize O.getD u 0 = x at *
              by_cases hxk : x = key
              · subst hxk
                have e1 : ((x : Int) == (x : Int)) = true := by simp
                have hz2 : Box (0 ≤ (u : Int) ↔ x ∈ O.take (u + 1)) := ⟨⟨fun _ => htm.out.2 (Or.inr rfl), fun _ => u0⟩⟩
                go_wp2_with (fail)
                go_quiet (fail)
                go_wp2_with (fail)
                go_roundw
                case rel => exact ⟨u + 1, (u : Int), by omega, by go_num, rfl, hz2, ⟨Ext.drewN hq.out _⟩⟩
                case measure =>
                  clear u4 n4 kw
                  simp [intOf]; omega
              · have e1 : ((x : Int) == (key : Int)) = false := by rw [beq_eq_false_iff_ne]; omega
                have e2 : (x == key) = false := by rw [beq_eq_false_iff_ne]; exact hxk
                have hz2 : Box (0 ≤ zz ↔ key ∈ O.take (u + 1)) := ⟨hzz.out.trans ⟨fun h => htm.out.2 (Or.inl h), fun h => (htm.out.1 h).elim id (fun e => absurd e hxk)⟩⟩
                clear hxk
                go_wp2_with (fail)
                go_quiet (fail)
                go_wp2_with (fail)
                go_roundw
                case rel => exact ⟨u + 1, zz, by omega, by go_num, rfl, hz2, ⟨Ext.drewN hq.out _⟩⟩
                case measure =>
                  clear u4 n4 kw
                  simp [intOf]; omega
            · obtain rfl : u = O.length := by omega
              have u2 : decide ((O.length : Int) < (O.length : Int)) = false := decide_eq_false (by omega)
              have u3 : decide (O.length < O.length) = false := decide_eq_false (by omega)
              rw [List.take_length] at hzz
              have hXq := Ext.blk hq.out hXb.out
              have fz := Lib.frozen_of_heap hXq 0
              obtain ⟨x0, x1, x2⟩ := cells3 hXq
              have hRq := hRA.out.of_ext hq.out
              by_cases hin : key ∈ O
              · have g0 : 0 ≤ zz := hzz.out.2 hin
                have g1 : decide (zz ≥ 0) = true := decide_eq_true g0
                have g2 : decide (0 ≤ zz) = true := decide_eq_true g0
                obtain ⟨hT, hS⟩ := hhit.out hin
                have hlk : Box ((lazTs L k (vfH N k)).take (t + 1) = (lazTs L k (vfH N k)).take t ++ [⟨true, false, 0⟩]) := ⟨by rw [htk.out, hT]⟩
                have hSb := Box.mk hS
                have hRS := Box.mk (hRq.set (o := 0) hXs.out h5X.out h6X.out (.bool true))
                have hXS : (wr.setCell ⟨wo.heap.size, 0, none⟩ (.bool true)).heap[wo.heap.size]? = some (.cells #[.bool true, .bool false, .int .u32 0] 50 (0, 0)) := heap_setCell_same _ _ _ _ _ _ hXq
                replace hXS := Box.mk hXS
                clear hXq hRq hT hS hin g0
                go_upto_region 29 with (fail)
                generalize wr.setCell ⟨wo.heap.size, 0, none⟩ (.bool true) = wS at *
                obtain ⟨s0, s1, s2⟩ := cells3 hXS.out
                clear x0 x1 x2 fz
                go_wp2_with (first
                  | (at_builtin; refine wpList_push rfl _ _ 31 rfl w.heap.size 50 i1 (.agg #[.bool false, .bool false, .int .u32 0]) 3 8 Try.underlying31 hi1 hz3 hz4 hz5 rfl (by decide) _ _ _ rfl hRS.out.out [.bool true, .bool false, .int .u32 0] rfl rfl (by simp [Value.oneCell']) hk1' hk2' hRS.out.ext.size ?_; intro v1 w3 hown3 hg3 hbel3 hs3; obtain ⟨a9, c9, rfl, hR9⟩ := hRS.out.grow_out (x := ⟨true, false, 0⟩) hg3 hbel3 hown3; replace hR9 := Box.mk hR9; clear hown3 hg3 hbel3 hs3))
                go_roundw
                case rel => exact ⟨t + 1, by omega, by go_num, a9, c9, a6, c6, rfl, by rw [hSb.out], by rw [hlk.out, hSb.out]; exact hR9⟩
                case measure =>
                  clear n4 kw
                  simp [intOf]; omega
              · have g0 : ¬ 0 ≤ zz := fun h => hin (hzz.out.1 h)
                have g1 : decide (zz ≥ 0) = false := decide_eq_false g0
                have g2 : decide (0 ≤ zz) = false := decide_eq_false g0
                have hRS := Box.mk (hRq.set (o := 0) hXs.out h5X.out h6X.out (.bool false))
                have hXS : (wr.setCell ⟨wo.heap.size, 0, none⟩ (.bool false)).heap[wo.heap.size]? = some (.cells #[.bool false, .bool false, .int .u32 0] 50 (0, 0)) := heap_setCell_same _ _ _ _ _ _ hXq
                replace hXS := Box.mk hXS
                obtain ⟨fu, hfu1, hfu2, hfu3⟩ : ∃ fu, ((O.length : Int) == (k : Int)) = fu ∧ (O.length == k) = fu ∧ Box (fu = true ↔ O.length = k) := ⟨O.length == k, by
                  by_cases e : O.length = k
                  · rw [e]; simp
                  · rw [beq_eq_false_iff_ne.2 e, beq_eq_false_iff_ne]; omega, rfl, ⟨beq_iff_eq⟩⟩
                obtain ⟨O', out, hT, hS, hcase⟩ : ∃ (O' : List Nat) (out : Nat), Box (lazT L k (vfH N k) t = ⟨false, fu, out⟩) ∧ Box (lazS L k (vfH N k) (t + 1) = O' ++ [key]) ∧ Box ((fu = true ∧ O.length = k ∧ out = vfH N k t O ∧ O' = woB O out) ∨ (fu = false ∧ out = 0 ∧ O' = O)) := by
                  cases fu with
                  | true =>
                    have hf := hfu3.out.1 rfl
                    obtain ⟨q1, q2⟩ := hfullT.out hin hf
                    exact ⟨_, _, ⟨q1⟩, ⟨q2⟩, ⟨Or.inl ⟨rfl, hf, rfl, rfl⟩⟩⟩
                  | false =>
                    have hf : O.length ≠ k := fun e => by
                      have := hfu3.out.2 e
                      cases this
                    obtain ⟨q1, q2⟩ := hroom.out hin hf
                    exact ⟨_, _, ⟨q1⟩, ⟨q2⟩, ⟨Or.inr ⟨rfl, rfl, rfl⟩⟩⟩
                clear hXq hRq hin g0
                go_upto_if 155 with (fail)
                generalize wr.setCell ⟨wo.heap.size, 0, none⟩ (.bool false) = wS at *
                obtain ⟨s0, s1, s2⟩ := cells3 hXS.out
                clear x0 x1 x2 fz hfu1 hfu2 hfu3
                go_cut [18, 24] from 122 to 195 (fun s18 _ wx => ∃ a8 c8, s18 = .slice a8 O'.length c8 ∧ Box (RtR w ((lazTs L k (vfH N k)).take t) t O' a5 c5 a8 c8 wx) ∧ Box (wx.heap[wo.heap.size]? = some (.cells #[.bool false, .bool fu, .int .u32 (out : Nat)] 50 (0, 0))))
                case first =>
                  cases fu with
                  | false =>
                    obtain ⟨h1, h2⟩ : out = 0 ∧ O' = O := by
                      rcases hcase.out with ⟨h, _⟩ | ⟨_, h1, h2⟩
                      · cases h
                      · exact ⟨h1, h2⟩
                    subst h1
                    subst h2
                    go_wp2_with (fail)
                    go_meet
                    exact ⟨a6, c6, rfl, hRS, hXS⟩
                  | true =>
                    obtain ⟨hf, hout, hOp⟩ : O.length = k ∧ out = vfH N k t O ∧ O' = woB O out := by
                      rcases hcase.out with ⟨_, h1, h2, h3⟩ | ⟨h, _⟩
                      · exact ⟨h1, h2, h3⟩
                      · cases h
                    have hkl := kkH_lt N k t hk1
                    have hjl : kkH N k t < O.length := by rw [hf]; exact hkl
                    have hat : O[kkH N k t]'hjl = out := by rw [hout]; exact (vfH_at N k t O hjl).symm
                    obtain ⟨g, rfl, hcc⟩ := own_shape hRS.out.keys (by omega)
                    have hgx : g ≠ wo.heap.size := fun e => h6X.out (by rw [e]; rfl)
                    have hgx2 : wo.heap.size ≠ g := fun e => hgx e.symm
                    have hkS := own_cells hRS.out.keys
                    obtain ⟨g', o', e', hg1⟩ := hkS (kkH N k t) _ (u32L_at hjl)
                    rw [hat] at hg1
                    simp only [Option.some.injEq, Addr.mk.injEq] at e'
                    obtain ⟨rfl, rfl, -⟩ := e'
                    rw [Nat.zero_add] at hg1
                    have hkkp : Box (t < N.length → kkH N k t = N.getD t 0 % k) := ⟨fun h => by unfold kkH; rw [if_pos h]⟩
                    have hkkn : Box (¬ t < N.length → kkH N k t = 0) := ⟨fun h => by unfold kkH; rw [if_neg h]⟩
                    obtain ⟨tn, f1, f2, htN⟩ : ∃ tn, decide ((t : Int) < (N.length : Int)) = tn ∧ decide (t < N.length) = tn ∧ Box (tn = true ↔ t < N.length) := ⟨decide (t < N.length), by
                      by_cases h9 : t < N.length
                      · rw [decide_eq_true h9, decide_eq_true (by omega)]
                      · rw [decide_eq_false h9, decide_eq_false (by omega)], rfl, ⟨decide_eq_true_iff⟩⟩
                    generalize hjj : kkH N k t = j at *
                    replace hkS := Box.mk hkS
                    replace hg1 := Box.mk hg1
                    replace hat := Box.mk hat
                    replace hout := Box.mk hout
                    replace hOp := Box.mk hOp
                    replace hf := Box.mk hf
                    go_upto_if 159 with (fail)
                    go_cut [24] from 156 to 166 (fun s24 wx => s24 = .int .i64 (j : Nat) ∧ wS = wx)
                    case first =>
                      cases tn with
                      | true =>
                        have h := htN.out.1 rfl
                        obtain ⟨b7, o7, rfl, hnv⟩ := CellsAt.keep hRS.out.ext hD.out t _ (u8N_at h)
                        have hx8 : N.getD t 0 ≤ 255 := hN2.out _ (by rw [← u32_getD N t h]; exact List.getElem_mem h)
                        have hj := hkkp.out h
                        have m1 : (t : Int) < (N.length : Int) := by omega
                        generalize N.getD t 0 = x8 at *
                        have k0 : ¬ ((k : Int) = 0) := by omega
                        have k3 : ((k : Int) == 0) = false := by rw [beq_eq_false_iff_ne]; omega
                        have x9 : IntKind.i64.wrap (x8 : Int) = (x8 : Int) := by rw [IntKind.wrap_i64]; omega
                        have hjb := Box.mk hj
                        clear hj
                        go_wp2_with (fail)
                        go_meet
                        exact ⟨by rw [hjb.out]; simp, rfl⟩
                      | false =>
                        have h : ¬ t < N.length := fun h => by
                          have := htN.out.2 h
                          cases this
                        have hj := Box.mk (hkkn.out h)
                        clear h
                        go_wp2_with (fail)
                        go_meet
                        exact ⟨by rw [hj.out]; rfl, rfl⟩
                    case rest =>
                      obtain ⟨rfl, rfl⟩ := hcut
                      have j0 : (0 : Int) ≤ (j : Int) := by omega
                      have j1 : (j : Int) < (O.length : Int) := by rw [hf.out]; omega
                      have j2 : IntKind.i64.wrap ((j : Int) + 1) = (j : Int) + 1 := b64_one (by omega)
                      have hfz1 := Lib.frozen_of_heap hXS.out 1
                      have hfz2 := Lib.frozen_of_heap hXS.out 2
                      have hg2 := hg1.out
                      go_wp2_with (fail)
                      go_region_held3 (fun w' => w'.cell? ⟨g, j, none⟩ = some (.int .u32 (out : Nat)))
                        (first
                          | (with_reducible exact hg2)
                          | go_keep)
                        (fail)
                      go_wp2_with (fail)
                      have hRT := (((hRS.out.set (o := 1) hXs.out h5X.out h6X.out (.bool true)).set (o := 2) hXs.out h5X.out h6X.out (.int .u32 (out : Nat))).of_ext (Ext.drew1 (Below.refl _ _)))
                      have hXT : (((wS.setCell ⟨wo.heap.size, 1, none⟩ (.bool true)).setCell ⟨wo.heap.size, 2, none⟩ (.int .u32 (out : Nat))).drew).heap[wo.heap.size]? = some (.cells #[.bool false, .bool true, .int .u32 (out : Nat)] 50 (0, 0)) := heap_setCell_same _ _ _ _ _ _ (heap_setCell_same _ _ _ _ _ _ hXS.out)
                      generalize ((wS.setCell ⟨wo.heap.size, 1, none⟩ (.bool true)).setCell ⟨wo.heap.size, 2, none⟩ (.int .u32 (out : Nat))).drew = wT at *
                      have hRD := hRT.of_ext (Ext.drew1 (Below.refl wT.heap.size wT))
                      have hXD : wT.drew.heap[wo.heap.size]? = _ := hXT
                      obtain ⟨A, hA⟩ : ∃ A : Addr, (if c6 = j + 1 then some (⟨g, 0, none⟩ : Addr) else some ⟨g, j + 1, none⟩) = some A := by
                        by_cases h9 : c6 = j + 1
                        · exact ⟨_, if_pos h9⟩
                        · exact ⟨_, if_neg h9⟩
                      obtain ⟨a1, c1, W1, q1, q2, a2, c2, W2, q3, q4, q5, q6⟩ := cut_app wT.drew g c6 j O hjl (by omega) hnd.out (own_cells hRD.keys) (c6 - (j + 1)) A hA hcc
                      rw [hat.out, ← hOp.out] at q5 q6
                      have hRF := hRD.without q4 (by rw [← hOp.out]; exact q5)
                      rw [← hOp.out] at hRF
                      have hXF := Ext.blk q4 hXD
                      replace hRF := Box.mk hRF
                      replace hXF := Box.mk hXF
                      have hfin : Box (∃ a8 c8, Value.slice a2 (O.length - 1) c2 = .slice a8 O'.length c8 ∧ Box (RtR w ((lazTs L k (vfH N k)).take t) t O' a5 c5 a8 c8 W2) ∧ Box (W2.heap[wo.heap.size]? = some (.cells #[.bool false, .bool true, .int .u32 (out : Nat)] 50 (0, 0)))) := ⟨a2, c2, by rw [q6], hRF, hXF⟩
                      have s1' : (j : Int) + 1 ≤ (O.length : Int) := by omega
                      have s3' : j ≤ c6 := by omega
                      have s4' : j + 1 ≤ c6 := by omega
                      have s5' : (j : Int) ≤ (c6 : Int) := by omega
                      have s6' : (j : Int) + 1 ≤ (c6 : Int) := by omega
                      have s8' : (0 : Int) ≤ (j : Int) + 1 := by omega
                      clear hRT hXT hRD hXD q2 q4 q5 q6 hRF hXF hg2 hfz1 hfz2 s0 s1 s2
                      go_region_held3 (fun _ => True)
                        (first
                          | go_keep
                          | trivial)
                        (first
                          | (refine step_append_run rfl _ _ _ rfl (.slice none 0 0) (.slice (some ⟨g, 0, none⟩) j c6) _ _ rfl rfl (by with_reducible exact q1) ?_)
                          | (refine step_append_run rfl _ _ _ rfl (.slice a1 j c1) (.slice (some A) (O.length - (j + 1)) (c6 - (j + 1))) _ _ rfl rfl (by with_reducible exact q3) ?_))
                      all_goals
                        go_wp2_with (fail)
                        go_meet
                        exact hfin.out
                case rest =>
                  obtain ⟨a8, c8, rfl, hR8, hX8⟩ := hcut
                  obtain ⟨s0', s1', s2'⟩ := cells3 hX8.out
                  have hck : wc.cell? ⟨b1', o1 + t, none⟩ = some (.int .u32 (key : Nat)) := by
                    obtain ⟨b', o', e', h'⟩ := CellsAt.keep hR8.out.ext hC.out t _ (u32L_at htn)
                    cases e'
                    rw [keyB_get L t htn, hkey.out] at h'
                    exact h'
                  have hO'l : O'.length ≤ 20 := by
                    rcases hcase.out with ⟨_, _, _, h3⟩ | ⟨_, _, h3⟩
                    · rw [h3]; exact hwl.out out
                    · rw [h3]; exact hm
                  have hk3' : O'.length + 1 ≤ 140737488355328 := by omega
                  have hk4' : (O'.length + 1) * 4 ≤ 140737488355328 := by omega
                  have hlk : Box ((lazTs L k (vfH N k)).take (t + 1) = (lazTs L k (vfH N k)).take t ++ [⟨false, fu, out⟩]) := ⟨by rw [htk.out, hT.out]⟩
                  have hXn : Box (∀ w3, wc.grownBy w3 (Value.slice a8 O'.length c8).ownBlock → w3.cell? ⟨wo.heap.size, 0, none⟩ = some (.bool false) ∧ w3.cell? ⟨wo.heap.size, 1, none⟩ = some (.bool fu) ∧ w3.cell? ⟨wo.heap.size, 2, none⟩ = some (.int .u32 (out : Nat))) := ⟨fun w3 hg => cells3 ((hg.block wo.heap.size (blk_lt hX8.out) (fun e => own_ne hR8.out.keys hX8.out tn_ne e.symm)).trans hX8.out)⟩
                  clear s0 s1 s2 hO'l
                  go_wp2_with (first
                    | (at_builtin; refine wpList_push rfl _ _ 22 rfl w.heap.size 45 i0 (.int .u32 0) 1 4 Try.underlying22 hi hz0 hz1 hz2 rfl (by decide) _ _ _ rfl hR8.out.keys [.int .u32 (key : Nat)] (by first | rfl | simp [Act.eval]) rfl (by simp [Value.oneCell']) hk3' hk4' hR8.out.ext.size ?_; intro v1 w3 hown3 hg3 hbel3 hs3; obtain ⟨a9, c9, rfl, hR9⟩ := hR8.out.grow_keys (x := key) hg3 hbel3 hown3; obtain ⟨x7, x8, x9⟩ := hXn.out w3 hg3; replace hR9 := Box.mk hR9; clear hown3 hg3 hbel3 hs3)
                    | (at_builtin; refine wpList_push rfl _ _ 31 rfl w.heap.size 50 i1 (.agg #[.bool false, .bool false, .int .u32 0]) 3 8 Try.underlying31 hi1 hz3 hz4 hz5 rfl (by decide) _ _ _ rfl hR9.out.out [.bool false, .bool fu, .int .u32 (out : Nat)] rfl rfl (by simp [Value.oneCell']) hk1' hk2' hR9.out.ext.size ?_; intro v1 w3 hown3 hg3 hbel3 hs3; obtain ⟨a10, c10, rfl, hR10⟩ := hR9.out.grow_out (x := ⟨false, fu, out⟩) hg3 hbel3 hown3; replace hR10 := Box.mk hR10; clear hown3 hg3 hbel3 hs3))
                  go_roundw
                  case rel => exact ⟨t + 1, by omega, by go_num, a10, c10, a9, c9, rfl, by rw [hS.out, List.length_append]; rfl, by rw [hlk.out, hS.out]; exact hR10⟩
                  case measure =>
                    clear n4 kw
                    simp [intOf]; omega
        · obtain rfl : t = L.length := by omega
          have n2 : decide ((L.length : Int) < (L.length : Int)) = false := decide_eq_false (by omega)
          have n3 : decide (L.length < L.length) = false := decide_eq_false (by omega)
          have htl : (lazTs L k (vfH N k)).take L.length = lazTs L k (vfH N k) := List.take_of_length_le (by rw [hll.out]; exact Nat.le_refl _)
          rw [htl] at hR
          have hce := Box.mk (own_cells hR.out.out)
          have hex := hR.out.ext
          have cP2 := Box.mk (cP.out a5 c5 wo hex hce.out)
          clear hR htl
          go_wp2_with (first
            | (go_at_call 19; (with_reducible refine (cP2.out).mono ?_); rintro e w8 ⟨rfl, hb8⟩)
            | (go_at_call 9; (with_reducible refine (cK.out _).mono ?_); rintro e w9 ⟨rfl, hx9⟩))
          go_ret
          exact ⟨rfl, Ext.trans' hex (Ext.trans' hb8 hx9)⟩
end Go.Proofs.Ytbhfpofcebepiaa
