import Derived.Test.YtcofejbkbcdopaaGreatDoorR22
/- The walk of ReportCounts. -/
namespace Go.Proofs.YtcofejbkbcdopaaGreatDoor
open Go.RowKit Go.Lib
def LightP (L : List Res) (m : Nat) : Prop := L.length ≤ m ∧ ∀ x ∈ L, x.el.length ≤ 20
set_option maxRecDepth 100000 in
set_option maxHeartbeats 4000000 in
theorem light_any (a : Option Addr) (c : Nat) (L : List Res) (w : World) (hn : L.length ≤ 9223372036854775807) (hC : CellsAt w a (rows Res.cs L)) (b : Bool) (hb : b = true ↔ LightP L 40) :
    Calls Tryz.prog 10 #[.slice a L.length c, .int .i64 40] w fun e w' => e = .returned (.bool b) ∧ Ext w w' := by
  have HB := Box.mk hb
  have HC := Box.mk hC
  generalize hnn : L.length = nn at *
  have HN := Box.mk hnn
  clear hnn hC hb
  go_enter Tryz.func10, Tryz.ntmps10
  go_wp2
  go_loopw [5] (fun i wr => ∃ t : Nat, t ≤ nn ∧ t ≤ 40 ∧ i = .int .i64 t ∧ Box (∀ j (h : j < L.length), j < t → (L[j]).el.length ≤ 20) ∧ Box (Ext w wr)) (fun i _ => 40 - (intOf i).toNat)
  case atStart => exact ⟨0, by omega, by omega, rfl, ⟨fun j _ h => absurd h (by omega)⟩, ⟨Below.refl _ _⟩⟩
  case round =>
    obtain ⟨t, ht, ht4, rfl, hA, hE⟩ := hrel
    by_cases hkn : t < nn
    · have d1 : decide ((t : Int) < (nn : Int)) = true := decide_eq_true (by omega)
      have d1' : decide (t < nn) = true := decide_eq_true hkn
      have hn0 : (0 : Int) ≤ (t : Int) := by omega
      have hn1 : (t : Int) < (nn : Int) := by omega
      by_cases h40 : t < 40
      · have d2 : decide ((t : Int) < 40) = true := decide_eq_true (by omega)
        have d2' : (t : Int) < 40 := by omega
        have hkL : t < L.length := by rw [HN.out]; exact hkn
        obtain ⟨b2, o, rfl, hrow⟩ := rows_row Res.cs 21 Res.cs_len (by decide) (CellsAt.ext hE.out HC.out) t hkL
        have r18 := hrow 18 _ rfl
        clear hrow
        have hm := List.getElem_mem hkL
        have hsn : Box (∀ j (h : j < L.length), j < t + 1 → (L[t]).el.length ≤ 20 → (L[j]).el.length ≤ 20) := ⟨fun j h h2 h3 => by
          by_cases e : j = t
          · subst e; exact h3
          · exact hA.out j h (by omega)⟩
        have hno : Box (¬ (L[t]).el.length ≤ 20 → b = false) := ⟨fun h => by
          cases b with
          | false => rfl
          | true => exact absurd ((HB.out.1 rfl).2 _ hm) h⟩
        clear hm
        generalize L[t] = x at *
        generalize x.el.length = m at *
        by_cases hm : m ≤ 20
        · have d3 : decide ((20 : Int) < (m : Int)) = false := decide_eq_false (by omega)
          have d4 : decide (20 < m) = false := decide_eq_false (by omega)
          have hA2 : Box (∀ j (h : j < L.length), j < t + 1 → (L[j]).el.length ≤ 20) := ⟨fun j h h2 => hsn.out j h h2 hm⟩
          go_wp2
          go_roundw
          case rel => exact ⟨t + 1, by omega, by omega, by go_num, hA2, hE⟩
          case measure => simp [intOf]; omega
        · have d3 : decide ((20 : Int) < (m : Int)) = true := decide_eq_true (by omega)
          have d4 : decide (20 < m) = true := decide_eq_true (by omega)
          have hbf := hno.out hm
          go_wp2
          go_ret
          exact ⟨by rw [hbf]; rfl, hE.out⟩
      · obtain rfl : t = 40 := by omega
        have hbf : b = false := by
          cases b with
          | false => rfl
          | true => exact absurd (HB.out.1 rfl).1 (by have := HN.out; omega)
        have d3 : decide ((nn : Int) ≤ 40) = false := decide_eq_false (by omega)
        have d4 : decide (nn ≤ 40) = false := decide_eq_false (by omega)
        go_wp2
        go_ret
        exact ⟨by rw [hbf]; rfl, hE.out⟩
    · obtain rfl : t = nn := by omega
      have d1 : decide ((t : Int) < (t : Int)) = false := decide_eq_false (by omega)
      have d1' : decide (t < t) = false := decide_eq_false hkn
      have d3 : decide ((t : Int) ≤ 40) = true := decide_eq_true (by omega)
      have d4 : decide (t ≤ 40) = true := decide_eq_true (by omega)
      have hbt : b = true := HB.out.2 ⟨by have := HN.out; omega, fun x hx => by
        obtain ⟨j, hj, rfl⟩ := List.getElem_of_mem hx
        exact hA.out j hj (by have := HN.out; omega)⟩
      go_wp2
      go_ret
      exact ⟨by rw [hbt]; rfl, hE.out⟩
set_option maxRecDepth 100000 in
set_option maxHeartbeats 4000000 in
theorem ofrun_long (a : Option Addr) (c n : Nat) (w : World) (h1 : 4096 < n) (h2 : n ≤ 9223372036854775807) :
    Calls Tryz.prog 14 #[.slice a n c] w fun e w' => e = .returned (.tuple #[.agg #[.int .i64 0, .int .i64 0, .int .i64 0, .int .i64 0, .int .i64 0, .int .i64 0, .int .i64 0, .int .i64 0, .int .i64 0, .int .i64 0, .int .i64 0, .int .i64 0], .int .i64 7]) ∧ Ext w w' := by
  have d0 : decide ((4096 : Int) < (n : Int)) = true := decide_eq_true (by omega)
  have d1 : decide (4096 < n) = true := decide_eq_true h1
  obtain ⟨dC, huC, hdC⟩ := und_row rowRC
  have hR : Box (RcAt w.heap.size (fun _ => 0) (w.alloc (.cells #[.int .i64 0, .int .i64 0, .int .i64 0, .int .i64 0, .int .i64 0, .int .i64 0, .int .i64 0, .int .i64 0, .int .i64 0, .int .i64 0, .int .i64 0, .int .i64 0] 24))) := ⟨newblk _ _⟩
  have hRL := Box.mk (rc_range hR.out)
  have hx : Ext w (w.alloc (.cells #[.int .i64 0, .int .i64 0, .int .i64 0, .int .i64 0, .int .i64 0, .int .i64 0, .int .i64 0, .int .i64 0, .int .i64 0, .int .i64 0, .int .i64 0, .int .i64 0] 24)) := Ext.alloc (Below.refl _ _) _
  go_enter Tryz.func14, Tryz.ntmps14
  go_wp2_with (first
    | (refine wpList_load_mid rfl 24 (.tmp 2) rfl w.heap.size 0 rfl (rC fun _ => 0).toList dC hRL.out huC hdC infoRC ?_)
    | (refine wpList_store_same rfl 24 (.tmp 2) (.tmp 11) rfl w.heap.size (rC fun _ => 0) rfl rfl _ hR.out infoRC (oneRC _) ?_))
  refine bodyPost_ret (v := .tuple #[.agg #[.int .i64 0, .int .i64 0, .int .i64 0, .int .i64 0, .int .i64 0, .int .i64 0, .int .i64 0, .int .i64 0, .int .i64 0, .int .i64 0, .int .i64 0, .int .i64 0], .int .i64 7]) ?_ rfl ⟨rfl, hx⟩
  rw [results_cell_tmp rfl]
  simp [asAddr, Act.put, Result.andThen, run_loadVar_mid (w.alloc (.cells #[.int .i64 0, .int .i64 0, .int .i64 0, .int .i64 0, .int .i64 0, .int .i64 0, .int .i64 0, .int .i64 0, .int .i64 0, .int .i64 0, .int .i64 0, .int .i64 0] 24)) w.heap.size 0 24 (rC fun _ => 0).toList dC hRL.out huC hdC infoRC]
  rfl
def zRes : Res := ⟨0, default, 0, false, none, 0, [], 0, 0⟩
theorem made_rows (n : Nat) : (madeCells (Res.cs zRes).toArray (n * 21)).toList = rows Res.cs (List.replicate n zRes) := by
  apply List.ext_getElem?
  intro j
  by_cases hj : j < n * 21
  · have h1 := rows_at Res.cs 21 Res.cs_len (List.replicate n zRes) (j / 21) (j % 21) (by simp; omega) (by omega)
    have h2 : 21 * (j / 21) + j % 21 = j := by omega
    rw [h2, List.getElem_replicate] at h1
    rw [h1]
    have hz : (Res.cs zRes).toArray.size = 21 := rfl
    have h3 : j % 21 < (Res.cs zRes).length := by rw [Res.cs_len]; omega
    unfold madeCells
    rw [hz, List.getElem?_eq_getElem h3]
    simp only [Array.toList_map, List.getElem?_map, Array.getElem?_toList, Array.getElem?_range, hj, if_true, Option.map_some]
    congr 1
    rw [getElem!_pos (Res.cs zRes).toArray (j % 21) (by rw [hz]; omega)]
    rfl
  · rw [List.getElem?_eq_none (by rw [Array.length_toList, size_madeCells]; omega), List.getElem?_eq_none (by rw [rows_len Res.cs 21 Res.cs_len, List.length_replicate]; omega)]
theorem infoResZ : (Tryz.prog.info? 83).map (fun i => (i.zero, i.size, decide (i.bytes ≤ 1000))) = some (some (.agg (Res.cs zRes).toArray), 21, true) := by kernel_rfl
end Go.Proofs.YtcofejbkbcdopaaGreatDoor
