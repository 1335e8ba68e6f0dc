import Derived.Test.YtnblbneehogadaaH8
/- Contracts: slices.Clone of kinds, Add. -/
namespace Go.Proofs.Ytnblbneehogadaa
open Go.RowKit Go.ChangeMaps
set_option maxRecDepth 100000 in
set_option maxHeartbeats 1000000 in
theorem kclone_any (a : Option Addr) (c : Nat) (ks : List Int) (w : World) (hC : CellsAt w a (ks.map (Value.int .i64))) (hn : ks.length ≤ 1000) :
    Calls Try.prog 38 #[.slice a ks.length c] w fun e w' => ∃ v', e = .returned v' ∧ KRow w.heap.size w' v' ks ∧ Ext w w' := by
  obtain ⟨i0, hi, hz0, hz1, hz2⟩ := info_parts infoKind
  cases a with
  | none =>
    have hk : ks = [] := by
      cases ks with
      | nil => rfl
      | cons k r =>
        obtain ⟨b, o, h1, _⟩ := hC 0 (.int .i64 k) rfl
        cases h1
    subst hk
    have hr : Box (KRow w.heap.size w (.slice none 0 0) []) := ⟨World.ownsRow_nil _ _ _ _⟩
    obtain ⟨Post, hPost⟩ : ∃ P : Ending → World → Prop, P = fun e w' => ∃ v', e = .returned v' ∧ KRow w.heap.size w' v' [] ∧ Ext w w' := ⟨_, rfl⟩
    rw [← hPost]
    have HP := Box.mk hPost
    have hcmp : ∀ w, (binOp BinOp.eql 22 (.slice none 0 c) (.slice none 0 0)).run Try.prog w = .ok (.bool true) w := fun w => rfl
    clear hPost hC
    go_enter Try.func38, Try.ntmps38
    go_wp2
    rw [HP.out]
    exact ⟨_, rfl, hr.out, Below.refl _ _⟩
  | some x =>
    have hE : Ext w (w.alloc (.cells #[] 25)) := Ext.alloc (Below.refl _ _) _
    have hown : (w.alloc (.cells #[] 25)).ownsRow w.heap.size 25 1 (.slice (some ⟨w.heap.size, 0, none⟩) 0 0) 0 [] := ⟨rfl, Or.inr ⟨w.heap.size, 0, #[], rfl, Nat.le_refl _, newblk w _, Nat.le_refl _, by decide, rfl, rfl⟩⟩
    obtain ⟨v', w', r1, r2, r3, _⟩ := app_run (P := Try.prog) (w.alloc (.cells #[] 25)) w.heap.size 22 22 25 i0 (.int .i64 0) 1 8 Try.underlying22 hi hz0 hz1 hz2 rfl (by decide) (.slice (some ⟨w.heap.size, 0, none⟩) 0 0) 0 [] hown (some x) ks.length c (ks.map (Value.int .i64)) (fun h => by cases h) (by rw [List.length_map, Nat.mul_one]) (fun y hy j u hj => by
      cases hy
      obtain ⟨b, o, h1, h2⟩ := hC j u hj
      cases h1
      rw [Go.WideShapes.add_plain]
      exact Ext.cell hE h2) (fun u hu => by
      obtain ⟨z, _, rfl⟩ := List.mem_map.1 hu
      rfl) (by unfold maxLen; omega) (by omega) (by rw [World.size_alloc]; omega)
    have hf1 : KRow w.heap.size w' v' ks := by
      have h9 := r2
      rw [Nat.zero_add, List.nil_append] at h9
      exact h9
    have hf2 : Ext w w' := Below.grown hE r3 (by rw [World.size_alloc]; omega) (fun g hg => by
      simp only [Value.ownBlock, Option.some.injEq] at hg
      omega)
    have hfin : Box (KRow w.heap.size w' v' ks ∧ Ext w w') := ⟨⟨hf1, hf2⟩⟩
    clear hf1 hf2
    obtain ⟨Post, hPost⟩ : ∃ P : Ending → World → Prop, P = fun e w' => ∃ v', e = .returned v' ∧ KRow w.heap.size w' v' ks ∧ Ext w w' := ⟨_, rfl⟩
    rw [← hPost]
    have HP := Box.mk hPost
    have hcmp : ∀ w, (binOp BinOp.eql 22 (.slice (some x) ks.length c) (.slice none 0 0)).run Try.prog w = .ok (.bool false) w := fun w => rfl
    clear hPost hC hE hown r2 r3
    go_enter Try.func38, Try.ntmps38
    go_wp2_with (first | (at_builtin; refine wpList_app rfl _ _ _ _ rfl _ _ _ _ rfl rfl r1 ?_))
    rw [HP.out]
    exact ⟨_, rfl, hfin.out⟩
theorem pig : ∀ (i : Nat) (l : List Int), (∀ k, k < i → ((k : Nat) : Int) ∈ l) → i ≤ l.length
  | 0, _, _ => Nat.zero_le _
  | i + 1, l, h => by
    have h1 := h i (Nat.lt_succ_self i)
    have h2 := pig i (l.erase ((i : Nat) : Int)) (fun k hk => (List.mem_erase_of_ne (by omega)).2 (h k (by omega)))
    rw [List.length_erase_of_mem h1] at h2
    have h3 : 0 < l.length := List.length_pos_of_mem h1
    omega
end Go.Proofs.Ytnblbneehogadaa
