import Derived.Test.YtbhfpofcebepiaaB20
/- The contract of belady.Turns. -/
namespace Go.Proofs.Ytbhfpofcebepiaa
open Go.RowKit
theorem Turns_bad (a : Option Addr) (n c : Nat) (size : Int) (w : World) (h : allB n 4096 size ≠ 0) :
    Calls Try.prog 13 #[.slice a n c, .int .i64 size] w fun e w' => e = .returned (.tuple #[.slice none 0 0, .int .i64 (allB n 4096 size)]) ∧ Ext w w' := by
  have c1 : Box (∀ w, Calls Try.prog 29 #[.slice a n c, .int .i64 4096, .int .i64 size] w fun e w' => e = .returned (.int .i64 (allB n 4096 size)) ∧ w = w') := ⟨fun w => allowed_any a n c 4096 size w⟩
  generalize allB n 4096 size = e0 at *
  have n1 : (e0 != 0) = true := by simpa using h
  clear h
  go_enter Try.func13, Try.ntmps13
  go_wp2_with (first | (go_at_call 29; (with_reducible refine (c1.out _).mono ?_); rintro e w' ⟨rfl, rfl⟩))
  go_ret2
  exact ⟨rfl, Below.refl _ _⟩
set_option maxRecDepth 100000 in
set_option maxHeartbeats 8000000 in
theorem Turns_ok (a : Option Addr) (c : Nat) (L : List Nat) (k : Nat) (w : World) (hL : L.length ≤ 4096) (h1 : 1 ≤ k) (h2 : k ≤ 1024) (hC : CellsAt w a (u32L L)) :
    Calls Try.prog 13 #[.slice a L.length c, .int .i64 (k : Nat)] w fun e w' => ∃ a' c', e = .returned (.tuple #[.slice a' L.length c', .int .i64 0]) ∧ CellsAt w' a' (rows TnB.cs (optTs L k)) ∧ Ext w w' := by
  have hmf : ∀ (fn : Fn) (first cap : Array Value) (w : World), (Instr.makeFunc fn first cap).run Try.prog w = .ok (.func fn first cap) w := fun _ _ _ _ => rfl
  have hmk := make_tn L.length (by omega)
  have c1 : Box (∀ w, Calls Try.prog 29 #[.slice a L.length c, .int .i64 4096, .int .i64 (k : Nat)] w fun e w' => e = .returned (.int .i64 0) ∧ w = w') := ⟨fun w => by
    have := allowed_any a L.length c 4096 k w
    rw [show allB L.length 4096 k = 0 by unfold allB; rw [if_neg (by omega), if_neg (by omega)]] at this
    exact this⟩
  have c2 : Box _ := ⟨Next_ok a c L w hL hC⟩
  replace hC := Box.mk hC
  go_enter Try.func13, Try.ntmps13
  go_wp2_with (first
    | (go_at_call 29; (with_reducible refine (c1.out _).mono ?_); rintro e w' ⟨rfl, rfl⟩)
    | (go_at_call 10; (with_reducible refine (c2.out).mono ?_); rintro e w1 ⟨a1, c1', rfl, hC1, hx1⟩; replace hC1 := Box.mk hC1; replace hx1 := Box.mk hx1))
  go_loopw [9, 31] (fun o i wr => ∃ t : Nat, t ≤ L.length ∧ i = .int .i64 t ∧ ∃ a' c', o = .slice a' (plL L t (optS L k t)).length c' ∧ Box (MidR w1 (tnL L k t) (plL L t (optS L k t)) a' c' wr)) (fun _ i _ => L.length - (intOf i).toNat)
  case atStart =>
    refine ⟨0, by omega, rfl, none, 0, rfl, ⟨⟨Ext.alloc (Below.refl _ _) _, ?_, World.ownsRow_nil _ _ _ _⟩⟩⟩
    rw [tnL_zero]
    exact newblk w1 _
  case round =>
    obtain ⟨t, ht, rfl, a', c', rfl, hR⟩ := hrel
    by_cases htn : t < L.length
    · have n0 : (0 : Int) ≤ (t : Int) := by omega
      have n1 : (t : Int) < (L.length : Int) := by omega
      have n2 : decide ((t : Int) < (L.length : Int)) = true := decide_eq_true n1
      have n3 : decide (t < L.length) = true := decide_eq_true htn
      have n4 : IntKind.i64.wrap ((t : Int) + 1) = (t : Int) + 1 := b64_one (by omega)
      have hxr := hR.out.ext
      obtain ⟨b1, o1, rfl, hcell⟩ := CellsAt.keep (Ext.trans' hx1.out hxr) hC.out t _ (u32L_at htn)
      rw [keyB_get L t htn] at hcell
      obtain ⟨hnd, hlen⟩ := optS_ok L k h1 t
      have hpl := plL_len L t (optS L k t)
      -- the key's cell
      have hxA : Ext wr (wr.alloc (.cells #[.int .u32 (keyB L t : Nat)] 45)) := Ext.alloc (Below.refl _ _) _
      have hKb := newblk wr (.cells #[.int .u32 (keyB L t : Nat)] 45)
      have hMA := hR.out.of_ext hxA
      have hnx : (i64L (nextL L L.length))[t]? = some (.int .i64 (nxB L (keyB L t) (t + 1) : Nat)) := by
        simp [i64L, nextL, htn]
      obtain ⟨b2, o2, rfl, -⟩ := hC1.out t _ hnx
      have hNx : Box (∀ W, Ext w1 W → W.cell? ⟨b2, o2 + t, none⟩ = some (.int .i64 (nxB L (keyB L t) (t + 1) : Nat))) := ⟨fun W hW => by
        obtain ⟨b3, o3, e3, hc3⟩ := CellsAt.keep hW hC1.out t _ hnx
        cases e3
        exact hc3⟩
      by_cases hin : keyB L t ∈ optS L k t
      · -- a hit
        obtain ⟨r, hr, hre, hru⟩ := mem_at hin hnd
        have hrp : r < (plL L t (optS L k t)).length := by rw [hpl]; exact hr
        have hpr : (plL L t (optS L k t))[r]? = some (keyB L t, nxB L (keyB L t) t) := by
          simp [plL, hr, hre]
        have hix : IxP (plL L t (optS L k t)) (keyB L t) (r : Int) := ⟨fun u hu he _ => by
          have hu2 : u < (optS L k t).length := by rw [hpl] at hu; exact hu
          have : (optS L k t)[u] = keyB L t := by simpa [plL] using he
          by_cases e : u = r
          · rw [e]
          · exact absurd this (hru u hu2 e), fun h => absurd (by simp [plL, hre]) (h r hrp)⟩
        have cI := Box.mk (ixf_any a' c' (plL L t (optS L k t)) (keyB L t) wr.heap.size (r : Int) hix _ (by rw [hpl]; omega) hMA.cells (by rw [Lib.cell_of_heap hKb]; rfl))
        obtain ⟨g, rfl, hg1, hg2⟩ := hR.out.shape (by omega)
        obtain ⟨hT, hS⟩ := optT_hit L k t hin
        have hP' := plL_hit L t (optS L k t) htn hnd r hr hre
        have hP2 : plL L (t + 1) (optS L k t) = plL L (t + 1) (optS L k (t + 1)) := by rw [hS]
        have hrow : (rows plC (plL L t (optS L k t)))[r * 2 + 1]? = some (.int .i64 (nxB L (keyB L t) t : Nat)) := by
          have := rows_at plC 2 (fun _ => rfl) (plL L t (optS L k t)) r 1 hrp (by decide)
          rw [Nat.mul_comm] at this
          rw [this]
          have h9 := (List.getElem?_eq_some_iff.1 hpr).2
          rw [h9]; rfl
        have hfacts : Box (∀ w2, Ext (wr.alloc (.cells #[.int .u32 (keyB L t : Nat)] 45)) w2 →
            (w2.cell? ⟨w1.heap.size, t * 3, none⟩ = some (.bool false) ∧ w2.frozen? ⟨w1.heap.size, t * 3, none⟩ = false) ∧
            (w2.setCell ⟨w1.heap.size, t * 3, none⟩ (.bool true)).cell? ⟨b2, o2 + t, none⟩ = some (.int .i64 (nxB L (keyB L t) (t + 1) : Nat)) ∧
            ((w2.setCell ⟨w1.heap.size, t * 3, none⟩ (.bool true)).cell? ⟨g, r * 2 + 1, none⟩ = some (.int .i64 (nxB L (keyB L t) t : Nat)) ∧ (w2.setCell ⟨w1.heap.size, t * 3, none⟩ (.bool true)).frozen? ⟨g, r * 2 + 1, none⟩ = false) ∧
            MidR w1 (tnL L k (t + 1)) (plL L (t + 1) (optS L k (t + 1))) (some ⟨g, 0, none⟩) c' ((w2.setCell ⟨w1.heap.size, t * 3, none⟩ (.bool true)).setCell ⟨g, r * 2 + 1, none⟩ (.int .i64 (nxB L (keyB L t) (t + 1) : Nat)))) := ⟨fun w2 hw2 => by
          have hm := hMA.of_ext hw2
          have hm2 := hm.hit (t := t) (tnL_at L k t htn)
          have hm3 := hm2.next hg1 (nxB L (keyB L t) (t + 1)) hpr
          rw [hP', hP2, ← hT, tnL_step L k t htn] at hm3
          have hcA := hm.outCell (t := t) (q := 0) (u := .bool false) (by
            have h9 := rows_at TnB.cs 3 (fun _ => rfl) (tnL L k t) t 0 (by rw [tnL_len]; exact htn) (by decide)
            rw [Nat.mul_comm] at h9
            rw [h9]
            have h8 := (List.getElem?_eq_some_iff.1 (tnL_at L k t htn)).2
            rw [h8]; rfl)
          refine ⟨hcA, hNx.out _ hm2.ext, ⟨?_, ?_⟩, ?_⟩
          · rw [hm2.own.cellAt _ (by rw [hpl]; omega)]; exact hrow
          · exact hm2.own.frozenAt _
          · exact hm3⟩
        have hlast : Box ((plL L (t + 1) (optS L k (t + 1))).length = (plL L t (optS L k t)).length) := ⟨by rw [plL_len, plL_len, hS]⟩
        have r0 : (0 : Int) ≤ (r : Int) := by omega
        have r1 : (r : Int) < ((plL L t (optS L k t)).length : Int) := by omega
        have r2 : decide ((r : Int) ≥ 0) = true := decide_eq_true (by omega)
        have r3 : decide ((0 : Int) ≤ (r : Int)) = true := decide_eq_true r0
        clear hrow hP' hP2 hT hS hix hpr hre hru hin hKb hnx hnd hlen hpl hr
        replace hMA := Box.mk hMA
        replace hxA := Box.mk hxA
        replace hxr := Box.mk hxr
        obtain ⟨m, hm⟩ : ∃ m, m = (plL L t (optS L k t)).length := ⟨_, rfl⟩
        rw [← hm] at cI hlast r1 hrp ⊢
        replace hm := Box.mk hm
        generalize nxB L (keyB L t) (t + 1) = y at *
        generalize nxB L (keyB L t) t = y0 at *
        generalize keyB L t = x at *
        go_wp2_with (first
          | (go_at_call 32; (with_reducible refine (cI.out).mono ?_); rintro e w2 ⟨rfl, hb2⟩; obtain ⟨⟨f0, f1⟩, f2, ⟨f3, f4⟩, hfin⟩ := hfacts.out w2 hb2; replace hfin := Box.mk hfin; replace hb2 := Box.mk hb2))
        go_roundw
        case rel => exact ⟨t + 1, by omega, by go_num, some ⟨g, 0, none⟩, c', by rw [hlast.out], hfin⟩
        case measure =>
          clear n4
          simp [intOf]; omega
      · -- a miss
        have hPm := plL_miss L t (optS L k t) htn hin
        rw [hPm] at hR hMA ⊢
        have hpl1 := plL_len L (t + 1) (optS L k t)
        have hix : IxP (plL L (t + 1) (optS L k t)) (keyB L t) (-1) := ⟨fun u hu he _ => by
          have hu2 : u < (optS L k t).length := by rw [hpl1] at hu; exact hu
          have : (optS L k t)[u] = keyB L t := by simpa [plL] using he
          exact absurd (this ▸ List.getElem_mem hu2) hin, fun _ => rfl⟩
        have cI := Box.mk (ixf_any a' c' (plL L (t + 1) (optS L k t)) (keyB L t) wr.heap.size (-1) hix _ (by rw [hpl1]; omega) hMA.cells (by rw [Lib.cell_of_heap hKb]; rfl))
        have hKne : ∀ n, (Value.slice a' n c').ownBlock ≠ some wr.heap.size := fun n e => by
          have h9 : (Value.slice a' (plL L (t + 1) (optS L k t)).length c').ownBlock = some wr.heap.size := by
            cases a' with
            | none => cases e
            | some q => exact e
          have := (hR.out.own.lt _ h9).2
          omega
        by_cases hfull : (optS L k t).length = k
        · -- there is no room: one leaves
          obtain ⟨hT, hS⟩ := optT_full L k t hin hfull
          have hvm : vicB L (t + 1) (optS L k t) ∈ optS L k t := (vicB_far L (t + 1) _ (fun e => by rw [e] at hfull; simp at hfull; omega)).mem
          obtain ⟨r, hr, hre, hru⟩ := mem_at hvm hnd
          obtain ⟨m, hm⟩ : ∃ m, (optS L k t).length = r + 1 + m := ⟨(optS L k t).length - (r + 1), by omega⟩
          have hcut := plL_cut L (t + 1) hnd hr
          rw [hre] at hcut
          have hM : (tnL L k t).set t ⟨false, true, vicB L (t + 1) (optS L k t)⟩ = tnL L k (t + 1) := by rw [← hT, tnL_step L k t htn]
          have hP' : plL L (t + 1) (woB (optS L k t) (vicB L (t + 1) (optS L k t))) ++ [(keyB L t, nxB L (keyB L t) (t + 1))] = plL L (t + 1) (optS L k (t + 1)) := by
            rw [hS]; simp [plL]
          have hmin := minI_all L (t + 1) (optS L k t) (by omega)
          have hwl : (woB (optS L k t) (vicB L (t + 1) (optS L k t))).length = r + m := by
            have := woB_len _ _ hnd hvm
            omega
          have hpw : (plL L (t + 1) (woB (optS L k t) (vicB L (t + 1) (optS L k t)))).length = r + m := by rw [plL_len, hwl]
          have hPr : (plL L (t + 1) (optS L k t)).getD r (0, 0) = (vicB L (t + 1) (optS L k t), nxB L (vicB L (t + 1) (optS L k t)) (t + 1)) := by
            rw [plL_at L (t + 1) _ r hr, List.getD_eq_getElem?_getD, List.getElem?_eq_getElem hr]
            simp [hre]
          have hPf : ∀ j, j < r → (plL L (t + 1) (optS L k t)).getD j (0, 0) ≠ (vicB L (t + 1) (optS L k t), nxB L (vicB L (t + 1) (optS L k t)) (t + 1)) := fun j hj e => by
            have hj2 : j < (optS L k t).length := by omega
            rw [plL_at L (t + 1) _ j hj2, List.getD_eq_getElem?_getD, List.getElem?_eq_getElem hj2] at e
            have := congrArg Prod.fst e
            exact hru j hj2 (by omega) this
          have out3 : ∀ w4 : World, MidR w1 (tnL L k t) (plL L (t + 1) (optS L k t)) a' c' w4 → (w4.cell? ⟨w1.heap.size, t * 3, none⟩ = some (.bool false) ∧ w4.frozen? ⟨w1.heap.size, t * 3, none⟩ = false) ∧ (w4.cell? ⟨w1.heap.size, t * 3 + 1, none⟩ = some (.bool false) ∧ w4.frozen? ⟨w1.heap.size, t * 3 + 1, none⟩ = false) ∧ (w4.cell? ⟨w1.heap.size, t * 3 + 2, none⟩ = some (.int .u32 0) ∧ w4.frozen? ⟨w1.heap.size, t * 3 + 2, none⟩ = false) := fun w4 h4 => by
            have h9 := fun q (hq : q < 3) => rows_at TnB.cs 3 (fun _ => rfl) (tnL L k t) t q (by rw [tnL_len]; exact htn) hq
            have h8 := (List.getElem?_eq_some_iff.1 (tnL_at L k t htn)).2
            rw [h8] at h9
            rw [Nat.mul_comm] at h9
            exact ⟨h4.outCell (q := 0) (h9 0 (by decide)), h4.outCell (q := 1) (h9 1 (by decide)), h4.outCell (q := 2) (h9 2 (by decide))⟩
          have cM : Box (∀ w2, Ext (wr.alloc (.cells #[.int .u32 (keyB L t : Nat)] 45)) w2 → Calls Try.prog 34 #[.slice a' (plL L (t + 1) (optS L k t)).length c', .func (.func 35) #[] #[]] w2 fun e w' => e = .returned (.agg #[.int .u32 (vicB L (t + 1) (optS L k t) : Nat), .int .i64 (nxB L (vicB L (t + 1) (optS L k t)) (t + 1) : Nat)]) ∧ Ext w2 w') := ⟨fun w2 hw2 => by
            have := minf_any a' c' (plL L (t + 1) (optS L k t)) w2 (by rw [hpl1]; omega) (by rw [hpl1]; omega) (hMA.of_ext hw2).cells
            rw [hmin] at this
            exact this⟩
          have cX : Box (∀ w5, MidR w1 (tnL L k (t + 1)) (plL L (t + 1) (optS L k t)) a' c' w5 → Calls Try.prog 36 #[.slice a' (plL L (t + 1) (optS L k t)).length c', .agg #[.int .u32 (vicB L (t + 1) (optS L k t) : Nat), .int .i64 (nxB L (vicB L (t + 1) (optS L k t)) (t + 1) : Nat)]] w5 fun e w' => e = .returned (.int .i64 (r : Nat)) ∧ Ext w5 w') := ⟨fun w5 h5 =>
            ix_any a' c' (plL L (t + 1) (optS L k t)) _ _ r (by rw [hpl1]; exact hr) hPr hPf w5 (by rw [hpl1]; omega) h5.cells⟩
          have cD : Box (∀ w6, MidR w1 (tnL L k (t + 1)) (plL L (t + 1) (optS L k t)) a' c' w6 → w6.heap[wr.heap.size]? = some (.cells #[.int .u32 (keyB L t : Nat)] 45 (0, 0)) → Calls Try.prog 37 #[.slice a' (plL L (t + 1) (optS L k t)).length c', .int .i64 (r : Nat), .int .i64 ((r : Int) + 1)] w6 fun e w' => e = .returned (.slice a' (r + m) c') ∧ MidR w1 (tnL L k (t + 1)) (plL L (t + 1) (woB (optS L k t) (vicB L (t + 1) (optS L k t)))) a' c' w' ∧ w'.heap[wr.heap.size]? = some (.cells #[.int .u32 (keyB L t : Nat)] 45 (0, 0))) := ⟨fun w6 h6 hk6 =>
            (del_any (w1.heap.size + 1) a' c' (plL L (t + 1) (optS L k t)) r m (by rw [hpl1]; exact hm) w6 (by rw [hpl1]; omega) h6.own).mono (by
              rintro e w' ⟨he, ho, hg⟩
              rw [hcut] at ho
              refine ⟨he, h6.grow hg ?_, h6.keyKeep (hKne _) hk6 hg⟩
              rw [hpw]
              exact ho)⟩
          have hF4 : Box (∀ w3, Ext (wr.alloc (.cells #[.int .u32 (keyB L t : Nat)] 45)) w3 → (
              (w3.cell? ⟨w1.heap.size, t * 3, none⟩ = some (.bool false) ∧ w3.frozen? ⟨w1.heap.size, t * 3, none⟩ = false) ∧
              (w3.cell? ⟨w1.heap.size, t * 3 + 1, none⟩ = some (.bool false) ∧ w3.frozen? ⟨w1.heap.size, t * 3 + 1, none⟩ = false) ∧
              (w3.cell? ⟨w1.heap.size, t * 3 + 2, none⟩ = some (.int .u32 0) ∧ w3.frozen? ⟨w1.heap.size, t * 3 + 2, none⟩ = false)) ∧
              w1.heap.size < w3.heap.size ∧
              ∀ w5, w5 = ((((w3.setCell ⟨w1.heap.size, t * 3, none⟩ (.bool false)).setCell ⟨w1.heap.size, t * 3 + 1, none⟩ (.bool true)).setCell ⟨w1.heap.size, t * 3 + 2, none⟩ (.int .u32 (vicB L (t + 1) (optS L k t) : Nat))).alloc (.cells #[.int .u32 (vicB L (t + 1) (optS L k t) : Nat), .int .i64 (nxB L (vicB L (t + 1) (optS L k t)) (t + 1) : Nat)] 65)) →
                MidR w1 (tnL L k (t + 1)) (plL L (t + 1) (optS L k t)) a' c' w5 ∧ w5.heap[wr.heap.size]? = some (.cells #[.int .u32 (keyB L t : Nat)] 45 (0, 0)) ∧ w5.cell? ⟨w3.heap.size, 0, none⟩ = some (.int .u32 (vicB L (t + 1) (optS L k t) : Nat)) ∧ w5.cell? ⟨w3.heap.size, 1, none⟩ = some (.int .i64 (nxB L (vicB L (t + 1) (optS L k t)) (t + 1) : Nat))) := ⟨fun w3 hw3 => by
            have h3 := hMA.of_ext hw3
            have hsz3 := h3.size
            have hszr := hR.out.size
            refine ⟨out3 _ h3, by omega, fun w5 e5 => ?_⟩
            subst e5
            have h5 := h3.left (t := t) (by rw [tnL_len]; exact htn) false true (vicB L (t + 1) (optS L k t))
            rw [hM] at h5
            have hk5 := setO (k := t * 3 + 2) (B := w1.heap.size) (setO (k := t * 3 + 1) (B := w1.heap.size) (setO (k := t * 3) (B := w1.heap.size) (Ext.blk hw3 hKb) (by omega) (.bool false)) (by omega) (.bool true)) (by omega) (.int .u32 (vicB L (t + 1) (optS L k t) : Nat))
            have hnb := newblk (((w3.setCell ⟨w1.heap.size, t * 3, none⟩ (.bool false)).setCell ⟨w1.heap.size, t * 3 + 1, none⟩ (.bool true)).setCell ⟨w1.heap.size, t * 3 + 2, none⟩ (.int .u32 (vicB L (t + 1) (optS L k t) : Nat))) (.cells #[.int .u32 (vicB L (t + 1) (optS L k t) : Nat), .int .i64 (nxB L (vicB L (t + 1) (optS L k t)) (t + 1) : Nat)] 65)
            rw [World.size_setCell, World.size_setCell, World.size_setCell] at hnb
            exact ⟨h5.of_ext (Ext.alloc (Below.refl _ _) _), Ext.blk (Ext.alloc (Below.refl _ _) _) hk5, (cells2 hnb).1, (cells2 hnb).2.1⟩⟩
          have hfacts : Box (∀ w7, MidR w1 (tnL L k (t + 1)) (plL L (t + 1) (woB (optS L k t) (vicB L (t + 1) (optS L k t)))) a' c' w7 → w7.heap[wr.heap.size]? = some (.cells #[.int .u32 (keyB L t : Nat)] 45 (0, 0)) →
              w7.drew.cell? ⟨wr.heap.size, 0, none⟩ = some (.int .u32 (keyB L t : Nat)) ∧ w7.drew.cell? ⟨b2, o2 + t, none⟩ = some (.int .i64 (nxB L (keyB L t) (t + 1) : Nat)) ∧
              ((w7.alloc (.cells #[.int .u32 (keyB L t : Nat), .int .i64 (nxB L (keyB L t) (t + 1) : Nat)] 65)).drew.cell? ⟨wr.heap.size, 0, none⟩ = some (.int .u32 (keyB L t : Nat)) ∧ (w7.alloc (.cells #[.int .u32 (keyB L t : Nat), .int .i64 (nxB L (keyB L t) (t + 1) : Nat)] 65)).drew.cell? ⟨b2, o2 + t, none⟩ = some (.int .i64 (nxB L (keyB L t) (t + 1) : Nat))) ∧
              ∃ a'' c'' w8, (Builtin.append_ #[62, 62] 62 #[.slice a' (r + m) c', .slice (some ⟨w7.heap.size, 0, none⟩) 1 1]).run Try.prog (w7.alloc (.cells #[.int .u32 (keyB L t : Nat), .int .i64 (nxB L (keyB L t) (t + 1) : Nat)] 65)).drew = .ok (.slice a'' (r + m + 1) c'') w8 ∧
                w8.cell? ⟨wr.heap.size, 0, none⟩ = some (.int .u32 (keyB L t : Nat)) ∧ w8.cell? ⟨b2, o2 + t, none⟩ = some (.int .i64 (nxB L (keyB L t) (t + 1) : Nat)) ∧
                MidR w1 (tnL L k (t + 1)) (plL L (t + 1) (optS L k (t + 1))) a'' c'' w8) := ⟨fun w7 hm7 hk7 => by
            refine ⟨by rw [Lib.cell_of_heap (show w7.drew.heap[wr.heap.size]? = _ from hk7)]; rfl, hNx.out w7.drew (Ext.drew1 hm7.ext), ⟨Ext.cell (Ext.drew1 (Ext.alloc (Below.refl _ _) _)) (by rw [Lib.cell_of_heap hk7]; rfl), hNx.out _ (Ext.trans' hm7.ext (Ext.drew1 (Ext.alloc (Below.refl _ _) _)))⟩, ?_⟩
            obtain ⟨a'', c'', w8, q1, q2, q3⟩ := hm7.push (by rw [hpw]; omega) (keyB L t) (nxB L (keyB L t) (t + 1))
            rw [hP'] at q2
            rw [hpw] at q1
            have hm8 := hm7.of_ext (Ext.drew1 (Ext.alloc (Below.refl _ _) (.cells #[.int .u32 (keyB L t : Nat), .int .i64 (nxB L (keyB L t) (t + 1) : Nat)] 65)))
            have hk8 := hm8.keyKeep (hKne _) (Ext.blk (Ext.drew1 (Ext.alloc (Below.refl _ _) _)) hk7) q3
            exact ⟨a'', c'', w8, q1, by rw [Lib.cell_of_heap hk8]; rfl, hNx.out w8 q2.ext, q2⟩⟩
          have hlast : Box ((plL L (t + 1) (optS L k (t + 1))).length = r + m + 1) := ⟨by rw [plL_len, hS, List.length_append, hwl]; rfl⟩
          have r1 : (((plL L (t + 1) (optS L k t)).length : Int) == (k : Int)) = true := by rw [hpl1, hfull]; simp
          have r2 : ((plL L (t + 1) (optS L k t)).length == k) = true := by rw [hpl1, hfull]; simp
          have r4 : IntKind.i64.wrap ((r : Int) + 1) = (r : Int) + 1 := b64_one (by omega)
          clear hT hS hM hP' hix hin hKb hnx hnd hlen hpl hpl1 hfull hPm hKne hvm hr hre hru hcut hmin hwl hpw hPr hPf out3 hm
          replace hMA := Box.mk hMA
          replace hxA := Box.mk hxA
          replace hxr := Box.mk hxr
          obtain ⟨n9, hm⟩ : ∃ m, m = (plL L (t + 1) (optS L k t)).length := ⟨_, rfl⟩
          rw [← hm] at cI cM cX cD r1 r2 ⊢
          replace hm := Box.mk hm
          generalize nxB L (vicB L (t + 1) (optS L k t)) (t + 1) = vy at *
          generalize vicB L (t + 1) (optS L k t) = v at *
          generalize nxB L (keyB L t) (t + 1) = y at *
          generalize keyB L t = x at *
          go_wp2_with (first
            | (go_at_call 32; (with_reducible refine (cI.out).mono ?_); rintro e w2 ⟨rfl, hb2⟩; replace hb2 := Box.mk hb2)
            | (go_at_call 34; (with_reducible refine (cM.out _ hb2.out).mono ?_); rintro e w3 ⟨rfl, hb3⟩; obtain ⟨⟨⟨f10, f11⟩, ⟨f12, f13⟩, ⟨f14, f15⟩⟩, f16, hF5⟩ := hF4.out w3 (Ext.trans' hb2.out hb3); replace hF5 := Box.mk hF5; replace hb3 := Box.mk hb3))
          obtain ⟨hm5, hk5, k5, k6⟩ := hF5.out _ rfl
          (with_reducible refine (cX.out _ hm5).mono ?_)
          rintro e w6 ⟨rfl, hb6⟩
          replace hm5 := Box.mk (hm5.of_ext hb6)
          replace hk5 := Box.mk (Ext.blk hb6 hk5)
          clear f10 f11 f12 f13 f14 f15 hb6 k5 k6
          go_wp2_with (first
            | (go_at_call 37; (with_reducible refine (cD.out _ hm5.out hk5.out).mono ?_); rintro e w7 ⟨rfl, hm7, hk7⟩; obtain ⟨f0, f1, f4, a'', c'', w8, happ, f2, f3, hfin⟩ := hfacts.out w7 hm7 hk7; replace hfin := Box.mk hfin; replace hm7 := Box.mk hm7; replace hk7 := Box.mk hk7))
          go_region_held3 (fun w' => w'.cell? ⟨wr.heap.size, 0, none⟩ = some (.int .u32 (x : Nat)) ∧ w'.cell? ⟨b2, o2 + t, none⟩ = some (.int .i64 (y : Nat)))
            (first
              | (with_reducible exact ⟨f0, f1⟩)
              | (with_reducible exact ⟨f2, f3⟩)
              | (with_reducible exact f4))
            ((refine step_append_run rfl _ _ _ rfl _ _ _ _ rfl rfl happ ?_))
          go_wp2
          go_roundw
          case rel => exact ⟨t + 1, by omega, by go_num, a'', c'', by rw [hlast.out], hfin⟩
          case measure =>
            clear n4
            simp [intOf]; omega
        · obtain ⟨hT, hS⟩ := optT_room L k t hin hfull
          have hM : tnL L k (t + 1) = tnL L k t := by
            rw [← tnL_step L k t htn, hT]
            apply List.ext_getElem?
            intro j
            rw [List.getElem?_set]
            by_cases hj : t = j
            · subst hj
              rw [if_pos rfl, if_pos (by rw [tnL_len]; exact htn), tnL_at L k t htn]
            · rw [if_neg hj]
          have hP' : plL L (t + 1) (optS L k t) ++ [(keyB L t, nxB L (keyB L t) (t + 1))] = plL L (t + 1) (optS L k (t + 1)) := by
            rw [hS]; simp [plL]
          have hfacts : Box (∀ w2, Ext (wr.alloc (.cells #[.int .u32 (keyB L t : Nat)] 45)) w2 →
              w2.drew.cell? ⟨wr.heap.size, 0, none⟩ = some (.int .u32 (keyB L t : Nat)) ∧ w2.drew.cell? ⟨b2, o2 + t, none⟩ = some (.int .i64 (nxB L (keyB L t) (t + 1) : Nat)) ∧
              ((w2.alloc (.cells #[.int .u32 (keyB L t : Nat), .int .i64 (nxB L (keyB L t) (t + 1) : Nat)] 65)).drew.cell? ⟨wr.heap.size, 0, none⟩ = some (.int .u32 (keyB L t : Nat)) ∧ (w2.alloc (.cells #[.int .u32 (keyB L t : Nat), .int .i64 (nxB L (keyB L t) (t + 1) : Nat)] 65)).drew.cell? ⟨b2, o2 + t, none⟩ = some (.int .i64 (nxB L (keyB L t) (t + 1) : Nat))) ∧
              ∃ a'' c'' w3, (Builtin.append_ #[62, 62] 62 #[.slice a' (plL L (t + 1) (optS L k t)).length c', .slice (some ⟨w2.heap.size, 0, none⟩) 1 1]).run Try.prog (w2.alloc (.cells #[.int .u32 (keyB L t : Nat), .int .i64 (nxB L (keyB L t) (t + 1) : Nat)] 65)).drew = .ok (.slice a'' ((plL L (t + 1) (optS L k t)).length + 1) c'') w3 ∧
                w3.cell? ⟨wr.heap.size, 0, none⟩ = some (.int .u32 (keyB L t : Nat)) ∧ w3.cell? ⟨b2, o2 + t, none⟩ = some (.int .i64 (nxB L (keyB L t) (t + 1) : Nat)) ∧
                MidR w1 (tnL L k (t + 1)) (plL L (t + 1) (optS L k (t + 1))) a'' c'' w3) := ⟨fun w2 hw2 => by
            have hm := hMA.of_ext hw2
            have hk2 := Ext.blk hw2 hKb
            refine ⟨by rw [Lib.cell_of_heap (show w2.drew.heap[wr.heap.size]? = _ from hk2)]; rfl, hNx.out w2.drew (Ext.drew1 hm.ext), ⟨Ext.cell (Ext.drew1 (Ext.alloc (Below.refl _ _) _)) (by rw [Lib.cell_of_heap hk2]; rfl), hNx.out _ (Ext.trans' hm.ext (Ext.drew1 (Ext.alloc (Below.refl _ _) _)))⟩, ?_⟩
            obtain ⟨a'', c'', w3, q1, q2, q3⟩ := hm.push (by rw [hpl1]; omega) (keyB L t) (nxB L (keyB L t) (t + 1))
            rw [hP', ← hM] at q2
            have hm8 : MidR w1 (tnL L k t) (plL L (t + 1) (optS L k t)) a' c' (w2.alloc (.cells #[.int .u32 (keyB L t : Nat), .int .i64 (nxB L (keyB L t) (t + 1) : Nat)] 65)).drew := hm.of_ext (Ext.drew1 (Ext.alloc (Below.refl _ _) _))
            have hk3 := hm8.keyKeep (hKne _) (Ext.blk (Ext.drew1 (Ext.alloc (Below.refl _ _) _)) hk2) q3
            exact ⟨a'', c'', w3, q1, by rw [Lib.cell_of_heap hk3]; rfl, hNx.out w3 q2.ext, q2⟩⟩
          have hlast : Box ((plL L (t + 1) (optS L k (t + 1))).length = (plL L (t + 1) (optS L k t)).length + 1) := ⟨by rw [plL_len, plL_len, hS]; simp⟩
          have r1 : (((plL L (t + 1) (optS L k t)).length : Int) == (k : Int)) = false := by rw [beq_eq_false_iff_ne, hpl1]; omega
          have r2 : ((plL L (t + 1) (optS L k t)).length == k) = false := by rw [beq_eq_false_iff_ne, hpl1]; exact hfull
          clear hT hS hM hP' hix hin hKb hnx hnd hlen hpl hpl1 hfull hPm hKne
          replace hMA := Box.mk hMA
          replace hxA := Box.mk hxA
          replace hxr := Box.mk hxr
          obtain ⟨m, hm⟩ : ∃ m, m = (plL L (t + 1) (optS L k t)).length := ⟨_, rfl⟩
          rw [← hm] at cI hlast r1 r2 hfacts ⊢
          replace hm := Box.mk hm
          generalize nxB L (keyB L t) (t + 1) = y at *
          generalize keyB L t = x at *
          go_wp2_with (first
            | (go_at_call 32; (with_reducible refine (cI.out).mono ?_); rintro e w2 ⟨rfl, hb2⟩; obtain ⟨f0, f1, f4, a'', c'', w3, happ, f2, f3, hfin⟩ := hfacts.out w2 hb2; replace hfin := Box.mk hfin; replace hb2 := Box.mk hb2))
          go_region_held3 (fun w' => w'.cell? ⟨wr.heap.size, 0, none⟩ = some (.int .u32 (x : Nat)) ∧ w'.cell? ⟨b2, o2 + t, none⟩ = some (.int .i64 (y : Nat)))
            (first
              | (with_reducible exact ⟨f0, f1⟩)
              | (with_reducible exact ⟨f2, f3⟩)
              | (with_reducible exact f4))
            ((refine step_append_run rfl _ _ _ rfl _ _ _ _ rfl rfl happ ?_))
          go_wp2
          go_roundw
          case rel => exact ⟨t + 1, by omega, by go_num, a'', c'', by rw [hlast.out], hfin⟩
          case measure =>
            clear n4
            simp [intOf]; omega
    · obtain rfl : t = L.length := by omega
      have n2 : decide ((L.length : Int) < (L.length : Int)) = false := decide_eq_false (by omega)
      have n3 : decide (L.length < L.length) = false := decide_eq_false (by omega)
      go_wp2
      go_ret2
      refine ⟨some ⟨w1.heap.size, 0, none⟩, L.length, rfl, ?_, Ext.trans' hx1.out hR.out.ext⟩
      rw [← tnL_all]
      intro j u hj
      refine ⟨w1.heap.size, 0, rfl, ?_⟩
      rw [Nat.zero_add, Lib.cell_of_heap hR.out.out, ← Array.getElem?_toList]
      exact hj
end Go.Proofs.Ytbhfpofcebepiaa
