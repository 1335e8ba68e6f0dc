import Derived.Test.YtbhfpofcebepiaaB32
import Derived.Deep.CutRange
/- The walk of the reference's Best. -/
namespace Go.Proofs.Ytbhfpofcebepiaa
open Go.RowKit
set_option maxRecDepth 100000 in
set_option maxHeartbeats 8000000 in
theorem rbest_step (a : Option Addr) (c : Nat) (L : List Nat) (k f i : Nat) (hL : L.length ≤ 14) (hi : i + (f + 1) = L.length)
    (IH : ∀ (O : List Nat) (a3 : Option Addr) (c3 : Nat) (w : World), O.length ≤ i + 1 → CellsAt w a (u32L L) → CellsAt w a3 (u32L O) → (a3 = none → c3 = 0) → Calls Try.prog 23 #[.slice a L.length c, .int .i64 (k : Nat), .int .i64 ((i : Int) + 1), .slice a3 O.length c3] w fun e w' => e = .returned (.int .i64 (bestB L k f (i + 1) O : Nat)) ∧ Ext w w')
    (O : List Nat) (a3 : Option Addr) (c3 : Nat) (w : World) (hO : O.length ≤ i) (hC : CellsAt w a (u32L L)) (hK : CellsAt w a3 (u32L O)) (hnil : a3 = none → c3 = 0) :
    Calls Try.prog 23 #[.slice a L.length c, .int .i64 (k : Nat), .int .i64 (i : Nat), .slice a3 O.length c3] w fun e w' => e = .returned (.int .i64 (bestB L k (f + 1) i O : Nat)) ∧ Ext w w' := by
  have hiL : i < L.length := by omega
  obtain ⟨b1, o1, rfl, hcell⟩ := hC i _ (u32L_at hiL)
  rw [keyB_get L i hiL] at hcell
  have hb1 := lt_of_cell hcell
  have n0 : (0 : Int) ≤ (i : Int) := by omega
  have n1 : (i : Int) < (L.length : Int) := by omega
  have n2 : ((i : Int) == (L.length : Int)) = false := by rw [beq_eq_false_iff_ne]; omega
  have n3 : (i == L.length) = false := by rw [beq_eq_false_iff_ne]; omega
  have n4 : IntKind.i64.wrap ((i : Int) + 1) = (i : Int) + 1 := b64_one (by omega)
  have cH := Box.mk (rhas_any a3 c3 O (keyB L i) w (by omega) hK)
  by_cases hin : keyB L i ∈ O
  · rw [decide_eq_true hin] at cH
    have hval := best_in (k := k) (f := f) hin
    have cI := Box.mk (IH O a3 c3 w (by omega) hC hK hnil)
    have hz := bestB_len L k f (i + 1) O
    clear IH hin hK hnil hC
    generalize bestB L k f (i + 1) O = z at *
    have n5 : IntKind.i64.wrap (1 + (z : Int)) = 1 + (z : Int) := by rw [IntKind.wrap_i64]; omega
    have hv : Box (((bestB L k (f + 1) i O : Nat) : Int) = 1 + (z : Int)) := ⟨by rw [hval]; omega⟩
    clear hval
    go_enter Try.func23, Try.ntmps23
    go_wp2_with (first
      | (go_at_call 39; (with_reducible refine (cH.out).mono ?_); rintro e w1 ⟨rfl, rfl⟩)
      | (go_at_call 23; (with_reducible refine (cI.out).mono ?_); rintro e w2 ⟨rfl, hx2⟩))
    go_ret
    exact ⟨by rw [hv.out]; rfl, hx2⟩
  · rw [decide_eq_false hin] at cH
    obtain ⟨hA, hBb⟩ := both_orders w a3 c3 O (keyB L i) (by omega) hK hnil
    obtain ⟨a1, c1, W1, p1, p2, a2, c2, W2, p3, p4, p5, p6⟩ := hA
    obtain ⟨e1, g1, V1, q1, q2, e2, g2, V2, q3, q4, q5, q6⟩ := hBb
    have p2b := Box.mk p2
    have p4b := Box.mk p4
    have p5b := Box.mk p5
    have p6b := Box.mk p6
    have q2b := Box.mk q2
    have q4b := Box.mk q4
    have q5b := Box.mk q5
    have q6b := Box.mk q6
    have s0 : w.drew.cell? ⟨b1, o1 + i, none⟩ = some (.int .u32 (keyB L i : Nat)) := hcell
    have s1 := Ext.cell p2 hcell
    have s2 := Ext.cell p6 hcell
    have s3 := Ext.cell q2 hcell
    have s4 := Ext.cell q6 hcell
    have s5 : (W1.alloc (.cells #[.int .u32 (keyB L i : Nat)] 45)).cell? ⟨b1, o1 + i, none⟩ = some (.int .u32 (keyB L i : Nat)) := Ext.cell (Ext.alloc (Below.refl _ _) _) s1
    have s6 : (w.alloc (.cells #[.int .u32 (keyB L i : Nat)] 45)).drew.cell? ⟨b1, o1 + i, none⟩ = some (.int .u32 (keyB L i : Nat)) := Ext.cell (Ext.drew1 (Ext.alloc (Below.refl _ _) _)) hcell
    have hKb := Box.mk hK
    have hCb := Box.mk hC
    have IHb := Box.mk IH
    clear p2 p4 p5 p6 q2 q4 q5 q6 hK hC IH
    obtain ⟨m, hm⟩ : ∃ m, m = O.length := ⟨_, rfl⟩
    rw [← hm] at cH p1 p3 q1 q3 hO ⊢
    have hvf : Box (m + 1 ≤ k → bestB L k (f + 1) i O = bestB L k f (i + 1) (O ++ [keyB L i])) := ⟨fun h => best_fit hin (by rw [← hm]; exact h)⟩
    have hva : Box (¬ m + 1 ≤ k → bestB L k (f + 1) i O = maxB (O.map fun u => bestB L k f (i + 1) (woB (O ++ [keyB L i]) u))) := ⟨fun h => best_all hin (by rw [← hm]; exact h)⟩
    have hmb := Box.mk hm
    clear hm hin
    generalize keyB L i = x at *
    go_enter Try.func23, Try.ntmps23
    go_upto_region 5 with (first
      | (go_at_call 39; (with_reducible refine (cH.out).mono ?_); rintro e w1 ⟨rfl, rfl⟩))
    go_cut [9] from 29 to 36 (fun s9 wx => ∃ a9 c9, s9 = .slice a9 (m + 1) c9 ∧ Box (CellsAt wx a9 (u32L (O ++ [x]))) ∧ Box (a9 = none → c9 = 0) ∧ Box (Ext w wx))
    case first =>
      go_region_held3 (fun w' => w'.cell? ⟨b1, o1 + i, none⟩ = some (.int .u32 (x : Nat)))
        (first
          | (with_reducible exact s0)
          | (with_reducible exact s1)
          | (with_reducible exact s2)
          | (with_reducible exact s3)
          | (with_reducible exact s4)
          | (with_reducible exact s5)
          | (with_reducible exact s6))
        (first
          | (refine step_append_run rfl _ _ _ rfl (.slice none 0 0) (.slice a3 m c3) _ _ rfl rfl (by with_reducible exact p1) ?_)
          | (refine step_append_run rfl _ _ _ rfl (.slice a1 m c1) (.slice (some ⟨W1.heap.size, 0, none⟩) 1 1) _ _ rfl rfl (by with_reducible exact p3) ?_)
          | (refine step_append_run rfl _ _ _ rfl (.slice none 0 0) (.slice a3 m c3) _ _ rfl rfl (by with_reducible exact q1) ?_)
          | (refine step_append_run rfl _ _ _ rfl (.slice e1 m g1) (.slice (some ⟨w.heap.size, 0, none⟩) 1 1) _ _ rfl rfl (by with_reducible exact q3) ?_))
      all_goals
        go_wp2
        go_meet
      all_goals first
        | exact ⟨_, _, rfl, p4b, p5b, p6b⟩
        | exact ⟨_, _, rfl, q4b, q5b, q6b⟩
    case rest =>
      obtain ⟨a9, c9, rfl, hce, hn9, hx9⟩ := hcut
      have hC9 := Box.mk (CellsAt.keep hx9.out hCb.out)
      have hlen9 : (O ++ [x]).length = m + 1 := by rw [List.length_append, hmb.out]; rfl
      clear p1 p3 q1 q3 s0 s1 s2 s3 s4 s5 s6 p2b p4b p5b p6b q2b q4b q5b q6b
      by_cases hfit : m + 1 ≤ k
      · have d1 : decide (((m : Int) + 1) ≤ (k : Int)) = true := decide_eq_true (by omega)
        have d2 : decide (m + 1 ≤ k) = true := decide_eq_true hfit
        have hval := Box.mk (hvf.out hfit)
        have cI := Box.mk (IHb.out (O ++ [x]) a9 c9 wc (by rw [hlen9]; omega) hC9.out hce.out hn9.out)
        rw [hlen9, ← hval.out] at cI
        obtain ⟨z, hz⟩ : ∃ z, z = bestB L k (f + 1) i O := ⟨_, rfl⟩
        rw [← hz] at cI
        replace hz := Box.mk hz
        clear hfit hval
        go_wp2_with (first
          | (go_at_call 23; (with_reducible refine (cI.out).mono ?_); rintro e w2 ⟨rfl, hx2⟩))
        go_ret
        exact ⟨by rw [← hz.out]; rfl, Ext.trans' hx9.out hx2⟩
      · have d1 : decide (((m : Int) + 1) ≤ (k : Int)) = false := decide_eq_false (by omega)
        have d2 : decide (m + 1 ≤ k) = false := decide_eq_false hfit
        have hval := Box.mk (hva.out hfit)
        go_wp2
        go_loopw [10, 11] (fun bv iv wq => ∃ u : Nat, u ≤ m ∧ iv = .int .i64 (u : Nat) ∧ bv = .int .i64 (maxB ((O.map fun u => bestB L k f (i + 1) (woB (O ++ [x]) u)).take u) : Nat) ∧ Box (Ext wc wq)) (fun _ iv _ => m - (intOf iv).toNat)
        case atStart => exact ⟨0, Nat.zero_le _, rfl, rfl, ⟨Below.refl _ _⟩⟩
        case round =>
          obtain ⟨u, hum, rfl, rfl, hq⟩ := hrel
          have u0 : (0 : Int) ≤ (u : Int) := by omega
          have u4 : IntKind.i64.wrap ((u : Int) + 1) = (u : Int) + 1 := b64_one (by omega)
          by_cases hul : u < m
          · have u1 : (u : Int) < (m : Int) := by omega
            have u2 : decide ((u : Int) < (m : Int)) = true := decide_eq_true u1
            have u3 : decide (u < m) = true := decide_eq_true hul
            have huO : u < O.length := by rw [← hmb.out]; exact hul
            obtain ⟨b3, o3, rfl, hc3⟩ := CellsAt.keep (Ext.trans' hx9.out hq.out) hKb.out u _ (u32L_at huO)
            have hmx : maxB ((O.map fun u => bestB L k f (i + 1) (woB (O ++ [x]) u)).take (u + 1)) = max (maxB ((O.map fun u => bestB L k f (i + 1) (woB (O ++ [x]) u)).take u)) (bestB L k f (i + 1) (woB (O ++ [x]) O[u])) := by
              rw [List.take_succ_eq_append_getElem (by simpa using huO), maxB_snoc]
              simp
            have cW := rwithout_any a9 c9 (O ++ [x]) O[u] wr (by rw [hlen9]; omega) (CellsAt.keep hq.out hce.out)
            rw [hlen9] at cW
            replace cW := Box.mk cW
            have hwl : (woB (O ++ [x]) O[u]).length ≤ i + 1 := by
              have := List.length_filter_le (fun y => y != O[u]) (O ++ [x])
              rw [hlen9] at this
              show (List.filter _ _).length ≤ _
              omega
            have hb2 : bestB L k f (i + 1) (woB (O ++ [x]) O[u]) ≤ f := bestB_len L k f (i + 1) _
            have cI : Box (∀ a7 c7 w1, Ext wr w1 → w1.ownsRow wr.heap.size 45 1 (.slice a7 (woB (O ++ [x]) O[u]).length c7) (woB (O ++ [x]) O[u]).length (u32L (woB (O ++ [x]) O[u])) → Calls Try.prog 23 #[.slice (some ⟨b1, o1, none⟩) L.length c, .int .i64 (k : Nat), .int .i64 ((i : Int) + 1), .slice a7 (woB (O ++ [x]) O[u]).length c7] w1 fun e w' => e = .returned (.int .i64 (bestB L k f (i + 1) (woB (O ++ [x]) O[u]) : Nat)) ∧ Ext w1 w') := ⟨fun a7 c7 w1 hx7 ho7 => IHb.out (woB (O ++ [x]) O[u]) a7 c7 w1 hwl (CellsAt.keep (Ext.trans' (Ext.trans' hx9.out hq.out) hx7) hCb.out) (own_cells ho7) (fun h => by
              rcases ho7.2 with ⟨hv, _⟩ | ⟨g, cap, cur, hv, _⟩
              · simp only [Value.slice.injEq] at hv; exact hv.2.2
              · simp only [Value.slice.injEq] at hv; rw [h] at hv; cases hv.1)⟩
            generalize bestB L k f (i + 1) (woB (O ++ [x]) O[u]) = v at *
            generalize maxB ((O.map fun u => bestB L k f (i + 1) (woB (O ++ [x]) u)).take u) = mm at *
            generalize (woB (O ++ [x]) O[u]) = WO at *
            generalize O[u] = y at *
            have hmx2 : max (mm : Int) (v : Int) = ((max mm v : Nat) : Int) := by omega
            rw [← hmx] at hmx2
            replace hmx := Box.mk hmx
            go_wp2_with (first
              | (go_at_call 40; (with_reducible refine (cW.out).mono ?_); rintro e w1 ⟨a7, c7, rfl, ho7, hx7⟩; replace ho7 := Box.mk ho7)
              | (go_at_call 23; (with_reducible refine (cI.out _ _ _ hx7 ho7.out).mono ?_); rintro e w2 ⟨rfl, hx2⟩))
            go_roundw
            case rel => exact ⟨u + 1, by omega, by go_num, rfl, ⟨Ext.trans' hq.out (Ext.trans' hx7 hx2)⟩⟩
            case measure =>
              clear u4 n4
              simp [intOf]; omega
          · obtain rfl : u = m := by omega
            have u2 : decide ((u : Int) < (u : Int)) = false := decide_eq_false (by omega)
            have u3 : decide (u < u) = false := decide_eq_false (by omega)
            rw [List.take_of_length_le (by rw [List.length_map, ← hmb.out]; exact Nat.le_refl _)]
            obtain ⟨z, hz⟩ : ∃ z, z = maxB (O.map fun u => bestB L k f (i + 1) (woB (O ++ [x]) u)) := ⟨_, rfl⟩
            rw [← hz]
            have hv : Box (z = bestB L k (f + 1) i O) := ⟨by rw [hval.out, hz]⟩
            clear hz
            go_wp2
            go_ret
            exact ⟨by rw [← hv.out]; rfl, Ext.trans' hx9.out hq.out⟩
end Go.Proofs.Ytbhfpofcebepiaa
