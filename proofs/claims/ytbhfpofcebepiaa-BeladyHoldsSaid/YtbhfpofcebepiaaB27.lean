import Derived.Test.YtbhfpofcebepiaaB26
/- The law's examples: known. -/
namespace Go.Proofs.Ytbhfpofcebepiaa
open Go.RowKit Go.ChangeMaps
theorem nxC_mem {C : List Nat} {key : Nat} {x : TnB} (y : Nat) : y ∈ nxC C key x ↔ y ∈ delOf x.left x.out C ∨ y = key := by
  unfold nxC
  split
  · exact ⟨Or.inl, fun h => h.elim id (fun e => e ▸ ‹_›)⟩
  · simp
theorem delOf_mem {C : List Nat} {l : Bool} {o y : Nat} : y ∈ delOf l o C ↔ y ∈ C ∧ (l = true → y ≠ o) := by
  unfold delOf
  cases l with
  | true => simp [woB_mem]
  | false => simp
/-- The map holds the keys of the reference. -/
theorem chk_pol (tr : List Nat) (ts : List TnB) : ∀ i, SameB (chkS tr ts i) (polS tr ts i)
  | 0 => ⟨List.nodup_nil, List.nodup_nil, fun _ => Iff.rfl⟩
  | i + 1 => by
    obtain ⟨h1, h2, h3⟩ := chk_pol tr ts i
    refine ⟨chkS_nodup tr ts (i + 1), ?_, fun y => ?_⟩
    · show (polN _ _ _).Nodup
      unfold polN
      refine snoc_nodup (woB_nodup _ ?_) (fun h => (woB_mem.1 h).2 rfl)
      split
      · exact woB_nodup _ h2
      · exact h2
    · show y ∈ nxC _ _ _ ↔ y ∈ polN _ _ _
      rw [nxC_mem, delOf_mem]
      unfold polN TnB.who
      cases (tnB ts i).left with
      | true =>
        simp only [if_true, List.mem_append, woB_mem, List.mem_singleton, h3 y]
        by_cases e : y = keyB tr i
        · simp [e]
        · simp [e]
      | false =>
        simp only [Bool.false_eq_true, if_false, List.mem_append, woB_mem, List.mem_singleton, h3 y]
        by_cases e : y = keyB tr i
        · simp [e]
        · simp [e]
theorem okB_same {C O : List Nat} (h : ∀ x, x ∈ C ↔ x ∈ O) (key : Nat) (x : TnB) : okB C key x = okB O key x := by
  unfold okB
  rw [show decide (key ∈ C) = decide (key ∈ O) from decide_eq_decide.2 (h key), show decide (x.out ∈ C) = decide (x.out ∈ O) from decide_eq_decide.2 (h x.out)]
theorem good_pol (tr : List Nat) (k : Nat) (ts : List TnB) (i : Nat) : goodB tr k ts i = (okB (polS tr ts i) (keyB tr i) (tnB ts i) && decide ((polS tr ts (i + 1)).length ≤ k)) := by
  unfold goodB
  rw [okB_same (chk_pol tr ts i).2.2, (chk_pol tr ts (i + 1)).len]
theorem okT_iff (tr : List Nat) (k : Nat) (ts : List TnB) (i : Nat) : OkT tr k ts i ↔ ((tnB ts i).hit = true ↔ keyB tr i ∈ polS tr ts i) ∧ ((tnB ts i).hit = true → (tnB ts i).left = false) ∧ ((tnB ts i).left = false → (tnB ts i).out = 0) ∧ ((tnB ts i).left = true → (tnB ts i).out ∈ polS tr ts i) ∧ (polS tr ts (i + 1)).length ≤ k :=
  ⟨fun h => ⟨h.hit, h.one, h.zero, h.there, h.room⟩, fun ⟨h1, h2, h3, h4, h5⟩ => ⟨h1, h2, h3, h4, h5⟩⟩
theorem good_ok (tr : List Nat) (k : Nat) (ts : List TnB) (i : Nat) : goodB tr k ts i = true ↔ OkT tr k ts i := by
  rw [good_pol, okT_iff]
  generalize polS tr ts (i + 1) = C2
  generalize polS tr ts i = C
  generalize tnB ts i = x
  obtain ⟨hit, left, out⟩ := x
  unfold okB
  dsimp only
  by_cases h1 : keyB tr i ∈ C <;> by_cases h2 : out ∈ C <;> by_cases h3 : out = 0 <;> cases hit <;> cases left <;> simp [h1, h2, h3]
theorem good_opt (tr : List Nat) (k : Nat) (hk : 1 ≤ k) : ∀ i, i < tr.length → goodB tr k (optTs tr k) i = true := fun i hi =>
  (good_ok tr k _ i).2 ((opt_pol tr k hk tr.length (Nat.le_refl _)).2.2.2 i hi)
theorem LG_next : nextL LG LG.length = [3, 5, 7, 6, 8, 8, 8, 8] := by decide
theorem LG_turns : optTs LG 2 = [⟨false, false, 0⟩, ⟨false, false, 0⟩, ⟨false, true, 2⟩, ⟨true, false, 0⟩, ⟨false, true, 3⟩, ⟨false, true, 4⟩, ⟨true, false, 0⟩, ⟨false, true, 1⟩] := by
  rfl
theorem LG_hits : optH LG 1 8 = 0 ∧ optH LG 2 8 = 2 ∧ optH LG 3 8 = 3 ∧ optH LG 4 8 = 4 := by decide
theorem LG_no : goodB LG 1 (optTs LG 2) 1 = false := by
  rw [LG_turns]
  decide
theorem LG_r : false = true ↔ ∀ i, i < LG.length → goodB LG 1 (optTs LG 2) i = true := by
  constructor
  · intro h
    cases h
  · intro h
    have := h 1 (by decide)
    rw [LG_no] at this
    cases this
theorem cells_lit (w : World) (T : TypeId) (cs : List Value) : CellsAt (w.alloc (.cells cs.toArray T)) (some ⟨w.heap.size, 0, none⟩) cs := by
  intro j u hj
  refine ⟨w.heap.size, 0, rfl, ?_⟩
  rw [Nat.zero_add, Lib.cell_of_heap (newblk w _), ← Array.getElem?_toList]
  exact hj
set_option maxRecDepth 100000 in
set_option maxHeartbeats 8000000 in
theorem known_any (w : World) : Calls Try.prog 9 #[] w fun e w' => e = .returned (.bool true) ∧ Ext w w' := by
  have cG : Box (∀ w, _) := ⟨fun w => given_any w⟩
  have cN : Box (∀ a c w, CellsAt w a (u32L LG) → Calls Try.prog 10 #[.slice a 8 c] w fun e w' => ∃ a' c', e = .returned (.tuple #[.slice a' 8 c', .int .i64 0]) ∧ CellsAt w' a' (i64L (nextL LG LG.length)) ∧ Ext w w') := ⟨fun a c w h => Next_ok a c LG w (by decide) h⟩
  have cT : Box (∀ a c w, CellsAt w a (u32L LG) → Calls Try.prog 13 #[.slice a 8 c, .int .i64 2] w fun e w' => ∃ a' c', e = .returned (.tuple #[.slice a' 8 c', .int .i64 0]) ∧ CellsAt w' a' (rows TnB.cs (optTs LG 2)) ∧ Ext w w') := ⟨fun a c w h => Turns_ok a c LG 2 w (by decide) (by decide) (by decide) h⟩
  have hx0 : Ext w (w.alloc (.cells #[.bool true, .bool false, .int .u32 0] 50)) := Ext.alloc (Below.refl _ _) _
  have hH0 := newblk w (.cells #[.bool true, .bool false, .int .u32 0] 50)
  replace hx0 := Box.mk hx0
  replace hH0 := Box.mk hH0
  go_enter Try.func9, Try.ntmps9
  go_wp2_with (first
    | (go_at_call 26; (with_reducible refine (cG.out _).mono ?_); rintro e w1 ⟨ag, cg, rfl, hcg, hx1⟩; replace hcg := Box.mk hcg; replace hH0 := Box.mk (Ext.blk hx1 hH0.out); replace hx0 := Box.mk (Ext.trans' hx0.out hx1); (try replace hcn := Box.mk (CellsAt.keep hx1 hcn.out)))
    | (go_at_call 10; (with_reducible refine (cN.out _ _ _ hcg.out).mono ?_); rintro e w2 ⟨an, cn, rfl, hcn, hx2⟩; replace hcn := Box.mk hcn; replace hH0 := Box.mk (Ext.blk hx2 hH0.out); replace hx0 := Box.mk (Ext.trans' hx0.out hx2))
    | (go_at_call 13; (with_reducible refine (cT.out _ _ _ hcg.out).mono ?_); rintro e w4 ⟨at', ct, rfl, hct, hx4⟩; replace hct := Box.mk hct; replace hH0 := Box.mk (Ext.blk hx4 hH0.out); replace hx0 := Box.mk (Ext.trans' hx0.out hx4); replace hcn := Box.mk (CellsAt.keep hx4 hcn.out)))
  have cO : Box (∀ o w, _) := ⟨fun o w => lout_any o w⟩
  rw [LG_next] at hcn
  rw [LG_turns] at hct
  have cI : Box (∀ w' b, Ext w4 w' → CellsAt w' b (i64L [3, 5, 7, 6, 8, 8, 8, 8]) → Calls Try.prog 11 #[.slice an 8 cn, .slice b 8 8] w' fun e w'' => e = .returned (.bool true) ∧ Ext w' w'') := ⟨fun w' b h1 h2 => rints_any an b cn 8 [3, 5, 7, 6, 8, 8, 8, 8] w' (by decide) (CellsAt.keep h1 hcn.out) h2⟩
  have cS : Box (∀ w' b, Ext w4 w' → CellsAt w' b (rows TnB.cs [⟨false, false, 0⟩, ⟨false, false, 0⟩, ⟨false, true, 2⟩, ⟨true, false, 0⟩, ⟨false, true, 3⟩, ⟨false, true, 4⟩, ⟨true, false, 0⟩, ⟨false, true, 1⟩]) → Calls Try.prog 17 #[.slice at' 8 ct, .slice b 8 8] w' fun e w'' => e = .returned (.bool true) ∧ Ext w' w'') := ⟨fun w' b h1 h2 => rsame_any at' b ct 8 [⟨false, false, 0⟩, ⟨false, false, 0⟩, ⟨false, true, 2⟩, ⟨true, false, 0⟩, ⟨false, true, 3⟩, ⟨false, true, 4⟩, ⟨true, false, 0⟩, ⟨false, true, 1⟩] w' (by decide) (CellsAt.keep h1 hct.out) h2⟩
  have hS : Box (∀ w', Ext w4 w' → w'.cell? ⟨w.heap.size, 0, none⟩ = some (.bool true) ∧ w'.cell? ⟨w.heap.size, 1, none⟩ = some (.bool false) ∧ w'.cell? ⟨w.heap.size, 2, none⟩ = some (.int .u32 0)) := ⟨fun w' h => cells3 (Ext.blk h hH0.out)⟩
  have hx : Ext w4 w4 := Below.refl _ _
  go_region_held3 (fun w' => w'.cell? ⟨w.heap.size, 0, none⟩ = some (.bool true) ∧ w'.cell? ⟨w.heap.size, 1, none⟩ = some (.bool false) ∧ w'.cell? ⟨w.heap.size, 2, none⟩ = some (.int .u32 0))
    (first
      | (with_reducible exact hS.out _ hx)
      | (with_reducible exact hS.out _ (Ext.drew1 hx))
      | (with_reducible exact hS.out _ (Ext.alloc hx _))
      | (with_reducible exact hS.out _ (Ext.drew1 (Ext.alloc hx _))))
    (first
      | (go_at_call 11; (with_reducible refine (cI.out _ _ ?gx ?gc).mono ?_); (case gx => exact Ext.drew1 (Ext.alloc hx _)); (case gc => exact cells_lit _ _ _); rintro e w5 ⟨rfl, hb5⟩; replace hx := Ext.trans' (Ext.drew1 (Ext.alloc hx _)) hb5; clear hb5)
      | (go_at_call 25; (with_reducible refine (cO.out _ _).mono ?_); rintro e w5 ⟨rfl, hb5⟩; replace hx := Ext.trans' hx hb5; clear hb5)
      | (go_at_call 17; (with_reducible refine (cS.out _ _ ?gx ?gc).mono ?_); (case gx => exact Ext.alloc hx _); (case gc => exact cells_lit _ _ _); rintro e w5 ⟨rfl, hb5⟩; replace hx := Ext.trans' (Ext.alloc hx _) hb5; clear hb5))
  have cH1 : Box (∀ w, _) := ⟨fun w => lhits_any 1 0 (by decide) (by decide) (by rw [LG_hits.1]; rfl) w⟩
  have cH2 : Box (∀ w, _) := ⟨fun w => lhits_any 2 2 (by decide) (by decide) (by rw [LG_hits.2.1]; rfl) w⟩
  have cH3 : Box (∀ w, _) := ⟨fun w => lhits_any 3 3 (by decide) (by decide) (by rw [LG_hits.2.2.1]; rfl) w⟩
  have cH4 : Box (∀ w, _) := ⟨fun w => lhits_any 4 4 (by decide) (by decide) (by rw [LG_hits.2.2.2]; rfl) w⟩
  have cB2 : Box (∀ w, _) := ⟨fun w => lbest_any 2 2 (by decide) (by decide) (by rw [LG_hits.2.1]; rfl) w⟩
  have cB3 : Box (∀ w, _) := ⟨fun w => lbest_any 3 3 (by decide) (by decide) (by rw [LG_hits.2.2.1]; rfl) w⟩
  rw [show ((1 : Nat) : Int) = 1 from rfl] at cH1
  rw [show ((2 : Nat) : Int) = 2 from rfl] at cH2 cB2
  rw [show ((3 : Nat) : Int) = 3 from rfl] at cH3 cB3
  rw [show ((4 : Nat) : Int) = 4 from rfl] at cH4
  have cV : Box (∀ w, _) := ⟨fun w => gives_any 2 0 2 w⟩
  rw [show decide ((2 : Int) = 2 ∧ (0 : Int) = 0) = true by decide] at cV
  have cC2 : Box (∀ a c w', CellsAt w' a (u32L LG) → Ext w4 w' → Calls Try.prog 19 #[.slice a 8 c, .int .i64 2, .slice at' 8 ct] w' fun e w'' => e = .returned (.tuple #[.int .i64 2, .int .i64 0]) ∧ Ext w' w'') := ⟨fun a c w' h1 h2 => by
    rw [← LG_turns] at hct
    exact Check_any a at' c ct LG (optTs LG 2) 2 w' (by decide) rfl (by decide) (by decide) h1 (CellsAt.keep h2 hct.out) true ⟨fun _ => good_opt LG 2 (by decide), fun _ => rfl⟩⟩
  have cC1 : Box (∀ a c w', CellsAt w' a (u32L LG) → Ext w4 w' → Calls Try.prog 19 #[.slice a 8 c, .int .i64 1, .slice at' 8 ct] w' fun e w'' => e = .returned (.tuple #[.int .i64 0, .int .i64 10]) ∧ Ext w' w'') := ⟨fun a c w' h1 h2 => by
    rw [← LG_turns] at hct
    exact Check_any a at' c ct LG (optTs LG 2) 1 w' (by decide) rfl (by decide) (by decide) h1 (CellsAt.keep h2 hct.out) false LG_r⟩
  have cCn : Box (∀ a c w', _) := ⟨fun a c w' => Check_len a none 8 c 0 0 2 w' (by decide) (by decide)⟩
  go_wp2_with (first
    | (go_at_call 27; (first | with_reducible refine (cH1.out _).mono ?_ | with_reducible refine (cH2.out _).mono ?_ | with_reducible refine (cH3.out _).mono ?_ | with_reducible refine (cH4.out _).mono ?_); rintro e w5 ⟨rfl, hb5⟩; replace hx := Ext.trans' hx hb5; clear hb5)
    | (go_at_call 28; (first | with_reducible refine (cB2.out _).mono ?_ | with_reducible refine (cB3.out _).mono ?_); rintro e w5 ⟨rfl, hb5⟩; replace hx := Ext.trans' hx hb5; clear hb5)
    | (go_at_call 26; (with_reducible refine (cG.out _).mono ?_); rintro e w5 ⟨ag, cg, rfl, hcg, hb5⟩; replace hcg := Box.mk hcg; replace hx := Ext.trans' hx hb5; clear hb5)
    | (go_at_call 19; (first | (with_reducible refine (cC2.out _ _ _ hcg.out hx).mono ?_) | (with_reducible refine (cC1.out _ _ _ hcg.out hx).mono ?_)); rintro e w5 ⟨rfl, hb5⟩; replace hx := Ext.trans' hx hb5; clear hb5)
    | (go_at_call 19; (with_reducible refine (cCn.out _ _ _).mono ?_); rintro e w5 ⟨rfl, rfl⟩)
    | (go_at_call 21; (with_reducible refine (cV.out _).mono ?_); rintro e w5 ⟨rfl, rfl⟩))
  go_ret
  exact ⟨rfl, Ext.trans' hx0.out hx⟩
end Go.Proofs.Ytbhfpofcebepiaa
