import Derived.Test.YtcofejbkbcdopaaGreatDoorR2
import Derived.Test.YtcofejbkbcdopaaGreatDoorShelfG
import Derived.OwnWalkIn
import Derived.LoopNIn
import Derived.Deep.LoopGhost
import Derived.WalkSpells
import Derived.Shelf.SlIterI.Nil
import Derived.Shelf.SortM.Plain
import Derived.Shelf.SortM.SortNone
import Derived.Ground.GgzProg
import Derived.Ground.SlgmProg
import Derived.Lib.Walk
/- Contract of the kind with a word: the map's keys, sorted; each word is compared. -/
namespace Go.Proofs.YtcofejbkbcdopaaGreatDoor
open Go.RowKit Go.Maps Go.Sort Go.Shelf
def polR : Value → Option (DataW Unit × List MemPlace) := fun _ => some (.lit (.bool true), [])
def polD : DataW Unit := .map [(.int .i64 1, .lit (.bool true)), (.int .i64 2, .lit (.bool true)), (.int .i64 3, .lit (.bool true)), (.int .i64 4, .lit (.bool true)), (.int .i64 5, .lit (.bool true)), (.int .i64 6, .lit (.bool true)), (.int .i64 7, .lit (.bool true)), (.int .i64 8, .lit (.bool true))]
theorem pol_rd (a : Int) (h : (Lit.int .i64 a).wf = true) (v : Value) (c : Nat) : WideElems.rd Tryz.prog 46 polR ⟨.int .i64 a, v, c⟩ = some (.int .i64 a, .lit (.bool true)) := by
  unfold WideElems.rd
  rw [Maps.keyOf_int_mk pol_key h]
  rfl
theorem pol_owns {W : World} {B : Nat} (hb : W.heap[B]? = some (.map polO 8)) : W.ownsMap Tryz.prog 46 polR B 8 polD := by
  have h : ∀ a : Int, 1 ≤ a → a ≤ 8 → (Lit.int .i64 a).wf = true := fun a h1 h2 => by
    simp [Lit.wf, IntKind.min, IntKind.max, IntKind.signed, IntKind.bits]; omega
  refine ⟨polO, 8, hb, ⟨by show 8 ≤ maxLen; unfold maxLen; decide, ?_, ?_⟩, by decide, ?_⟩
  · rw [MapKept.stamped_iff]
    refine ⟨by decide, by decide, ?_⟩
    simp [polO]
  · intro x hx
    simp only [polO, List.mem_cons, List.not_mem_nil, or_false] at hx
    rcases hx with rfl | rfl | rfl | rfl | rfl | rfl | rfl | rfl <;> exact ⟨_, pol_rd _ (by decide) _ _⟩
  · have e : polO.toList.map (WideElems.rg Tryz.prog 46 polR) = [(.int .i64 1, .lit (.bool true)), (.int .i64 2, .lit (.bool true)), (.int .i64 3, .lit (.bool true)), (.int .i64 4, .lit (.bool true)), (.int .i64 5, .lit (.bool true)), (.int .i64 6, .lit (.bool true)), (.int .i64 7, .lit (.bool true)), (.int .i64 8, .lit (.bool true))] := by
      simp only [polO, List.map_cons, List.map_nil, WideElems.rg]
      rw [pol_rd 1 (by decide), pol_rd 2 (by decide), pol_rd 3 (by decide), pol_rd 4 (by decide), pol_rd 5 (by decide), pol_rd 6 (by decide), pol_rd 7 (by decide), pol_rd 8 (by decide)]
      rfl
    rw [e]
    rfl
theorem sortsA (m : Nat) : AnyZI.SortsIn Tryz.prog Tryz.sortedA_ren Fence.wide m :=
  ⟨fun blk off cap ss W hH hblk hsz => callsIn_wide.2 (AnyM.slices_Sort_int Tryz.sortA blk off cap ss W hH hblk hsz),
   fun p cap W => callsIn_wide.2 (AnyM.slices_Sort_int_none Tryz.sortA p cap W)⟩
theorem keys_any (mb : Option Nat) (W : World) : Calls Tryz.prog 58 #[.map mb] W fun e w' =>
    e = .returned (.func (.func 75) #[] #[.pointer (some ⟨W.heap.size, 0, none⟩)]) ∧ w' = W.alloc (.cells #[.map mb] 114) :=
  (callsIn_wide (n := 5)).1 (AnyZI.keys_in Tryz.keysA Fence.wide 5 trivial rfl mb W)
/-- One to eight. -/
def eights (w : World) (v : Value) : Prop := ∃ g cap, v = .slice (some ⟨g, 0, none⟩) 8 cap ∧ ∀ j, j < 8 → w.cell? ⟨g, j, none⟩ = some (.int .i64 ((j : Int) + 1))
theorem eights.ext {w w' : World} {v : Value} (h : eights w v) (hb : Ext w w') : eights w' v := by
  obtain ⟨g, cap, rfl, hc⟩ := h
  exact ⟨g, cap, rfl, fun j hj => Ext.cell hb (hc j hj)⟩
theorem sorted_any (B : Nat) (W : World) (hb : W.heap[B]? = some (.map polO 8)) :
    Calls Tryz.prog 57 #[.func (.func 75) #[] #[.pointer (some ⟨W.heap.size, 0, none⟩)]] (W.alloc (.cells #[.map (some B)] 114)) fun e w' =>
      ∃ v, e = .returned v ∧ eights w' v ∧ Ext (W.alloc (.cells #[.map (some B)] 114)) w' := by
  have hbl := blk_lt hb
  have hb' : (W.alloc (.cells #[.map (some B)] 114)).heap[B]? = some (.map polO 8) := Ext.blk (Ext.alloc (Below.refl _ _) _) hb
  have hseq : SeqGives Fence.wide 2 Tryz.prog 75 #[.pointer (some ⟨W.heap.size, 0, none⟩)] encZ (fun ss => ss.Perm (intKeys polD)) (Maps.size polD) (W.alloc (.cells #[.map (some B)] 114)) :=
    AnyZI.keys_gives (ρ := Tryz.keysA_ren) { Tryz.keysA with } Fence.wide _ trivial rfl (by omega) W.heap.size B 8 polD _ (by simp) (by simp) (pol_owns hb')
  have cS := AnyZI.sorted_in Tryz.sortedA Fence.wide 5 trivial trivial trivial trivial rfl (by omega) (sortsA _) (enters_of Tryz.func74 (by kernel_rfl) rfl) 75 #[.pointer (some ⟨W.heap.size, 0, none⟩)] trivial (enters_of Tryz.func75 (by kernel_rfl) rfl) _ _ (by show 8 ≤ maxLen; unfold maxLen; decide) (by show 8 * 8 ≤ 140737488355328; decide) _ hseq
  change CallsIn _ _ Tryz.prog 57 _ _ _ at cS
  refine (callsIn_wide (n := 5)).1 (cS.mono ?_)
  rintro e w' ⟨v, ss, rfl, hS, hrow, hnil, hb2⟩
  refine ⟨v, rfl, ?_, hb2⟩
  have hss : ss.mergeSort (fun x y => decide (x ≤ y)) = [1, 2, 3, 4, 5, 6, 7, 8] := by
    have hp : ss.Perm [1, 2, 3, 4, 5, 6, 7, 8] := hS
    have tr : ∀ a b c : Int, decide (a ≤ b) = true → decide (b ≤ c) = true → decide (a ≤ c) = true := fun a b c h1 h2 => by simp only [decide_eq_true_eq] at *; omega
    have tt : ∀ a b : Int, (decide (a ≤ b) || decide (b ≤ a)) = true := fun a b => by simp only [Bool.or_eq_true, decide_eq_true_eq]; omega
    refine List.Perm.eq_of_pairwise (le := fun a b => decide (a ≤ b) = true) (fun a b _ _ h1 h2 => by simp only [decide_eq_true_eq] at *; omega) (List.pairwise_mergeSort tr tt ss) (by decide) ((List.mergeSort_perm ss _).trans hp)
  have hlen : ss.length = 8 := (show ss.Perm [1, 2, 3, 4, 5, 6, 7, 8] from hS).length_eq
  rw [hss, hlen] at hrow
  rcases hrow.2 with ⟨rfl, h0⟩ | ⟨g, cap, cur, rfl, -, hg, -, -, -, htake⟩
  · cases h0
  · refine ⟨g, cap, rfl, fun j hj => ?_⟩
    rw [Lib.cell_of_heap hg]
    have e : cur[j]? = (cur.toList.take (8 * 1))[j]? := by
      rw [List.getElem?_take, if_pos (by omega)]; simp
    rw [e, htake]
    obtain rfl | rfl | rfl | rfl | rfl | rfl | rfl | rfl : j = 0 ∨ j = 1 ∨ j = 2 ∨ j = 3 ∨ j = 4 ∨ j = 5 ∨ j = 6 ∨ j = 7 := by omega
    all_goals rfl
/-- The kind with a word, or 0. -/
def kindFrom0 (l : List UInt8) : Nat → Nat → Nat
  | _, 0 => 0
  | k, m + 1 => if kW k = l then k else kindFrom0 l (k + 1) m
def kindN (l : List UInt8) : Nat := kindFrom0 l 1 8
theorem kf_hit (l : List UInt8) (t : Nat) (m : Nat) : ∀ k, (∀ j, k ≤ j → j < t → kW j ≠ l) → kW t = l → k ≤ t → t < k + m → kindFrom0 l k m = t := by
  induction m with
  | zero => intro k _ _ h1 h2; omega
  | succ m ih =>
    intro k hn ht h1 h2
    unfold kindFrom0
    rcases Nat.lt_or_ge k t with h | h
    · rw [if_neg (hn k (Nat.le_refl _) h)]
      exact ih (k + 1) (fun j a b => hn j (by omega) b) ht (by omega) (by omega)
    · obtain rfl : k = t := by omega
      rw [if_pos ht]
theorem kf_none (l : List UInt8) (m : Nat) : ∀ k, (∀ j, k ≤ j → j < k + m → kW j ≠ l) → kindFrom0 l k m = 0 := by
  induction m with
  | zero => intro k _; rfl
  | succ m ih =>
    intro k hn
    unfold kindFrom0
    rw [if_neg (hn k (Nat.le_refl _) (by omega))]
    exact ih (k + 1) (fun j a b => hn j (by omega) (by omega))
theorem kindN_le (l : List UInt8) : kindN l ≤ 8 := by
  by_cases h : ∃ t, 1 ≤ t ∧ t < 9 ∧ kW t = l ∧ ∀ j, 1 ≤ j → j < t → kW j ≠ l
  · obtain ⟨t, h1, h2, h3, h4⟩ := h
    have := kf_hit l t 8 1 h4 h3 h1 (by omega)
    unfold kindN; omega
  · have key : ∀ m, m ≤ 8 → ∀ j, 1 ≤ j → j < 1 + m → kW j ≠ l := by
      intro m
      induction m with
      | zero => intro _ j a b; omega
      | succ m ih =>
        intro hm j a b hj
        refine h ⟨j, a, by omega, hj, fun i c d => ?_⟩
        exact ih (by omega) i c (by omega)
    have := kf_none l 8 1 (key 8 (Nat.le_refl _))
    unfold kindN; omega
theorem kindN_word {k : Nat} (h1 : 1 ≤ k) (h8 : k ≤ 8) : kindN (kW k) = k :=
  kf_hit _ k 8 1 (fun j a b e => by have := kW_inj a (by omega) h1 h8 e; omega) rfl h1 (by omega)
theorem kS_eq (k : Nat) (s : ByteArray) : ((kS k).toList == s.toList) = decide (kW k = s.data.toList) := by
  rw [Lib.toList_data, Lib.toList_data]
  show (kW k == s.data.toList) = _
  by_cases h : kW k = s.data.toList
  · rw [decide_eq_true h]; simpa using h
  · rw [decide_eq_false h]; simpa using h
set_option maxRecDepth 100000 in
set_option maxHeartbeats 4000000 in
theorem pkind_any (s : ByteArray) (w : World) : Calls Tryz.prog 43 #[.string s] w fun e w' => (∃ x, e = .returned (.tuple #[.int .i64 (kindN s.data.toList : Nat), x])) ∧ Ext w w' := by
  have cw : Box _ := ⟨pwords_any w⟩
  have ck : Box _ := ⟨fun mb W => keys_any mb W⟩
  have cs : Box _ := ⟨fun W hW => sorted_any w.heap.size W hW⟩
  have hw : Box (∀ v w1, eights w1 v → ∃ g cap, v = .slice (some ⟨g, 0, none⟩) 8 cap) := ⟨fun v w1 h => by obtain ⟨g, cap, h1, _⟩ := h; exact ⟨g, cap, h1⟩⟩
  go_enter Tryz.func43, Tryz.ntmps43
  go_wp2_with (first
    | (go_at_call 55; (with_reducible refine (cw.out).mono ?_); rintro e w1 ⟨rfl, hB, hb⟩)
    | (go_at_call 58; (with_reducible refine (ck.out _ _).mono ?_); rintro e w2 ⟨rfl, rfl⟩)
    | (go_at_call 57; (with_reducible refine (cs.out _ hB).mono ?_); rintro e w3 ⟨v, rfl, h8, hb3⟩; obtain ⟨g, cap, rfl⟩ := hw.out _ _ h8))
  have hx : Box (Ext w w3) := ⟨Ext.trans' hb (Ext.trans' (Ext.alloc (Below.refl _ _) _) hb3)⟩
  have h9 : ∀ j, j < 8 → w3.cell? ⟨g, j, none⟩ = some (.int .i64 ((j : Int) + 1)) := by
    obtain ⟨g', cap', e, hc⟩ := h8
    cases e
    exact hc
  have hB3 : w3.heap[w.heap.size]? = some (.map polO 8) := Ext.blk (Ext.trans' (Ext.alloc (Below.refl _ _) _) hb3) hB
  have h9 := Box.mk h9
  have hB3 := Box.mk hB3
  clear hb hB hb3 h8 cw ck cs hw
  go_loop [12] (fun i => ∃ t : Nat, t ≤ 8 ∧ i = .int .i64 t ∧ Box (∀ j, 1 ≤ j → j < 1 + t → kW j ≠ s.data.toList)) (fun i => 8 - (intOf i).toNat)
  case atStart => exact ⟨0, by omega, rfl, ⟨fun j a b => by omega⟩⟩
  case round =>
    obtain ⟨t, ht, rfl, hn⟩ := hrel
    by_cases h8 : t < 8
    · have d1 : decide ((t : Int) < 8) = true := decide_eq_true (by omega)
      have c1 := h9.out t h8
      have hl := pol_look hB3.out ((t : Int) + 1) false
      rw [if_pos (show 1 ≤ (t : Int) + 1 ∧ (t : Int) + 1 ≤ 8 by omega), show ((t : Int) + 1).toNat = t + 1 by omega] at hl
      have he := kS_eq (t + 1) s
      by_cases hk : kW (t + 1) = s.data.toList
      · rw [decide_eq_true hk] at he
        have hR : Box (kindN s.data.toList = t + 1) := ⟨kf_hit _ (t + 1) 8 1 (fun j a b => hn.out j a (by omega)) hk (by omega) (by omega)⟩
        clear hk hn
        generalize kS (t + 1) = z at *
        go_wp2
        go_ret2
        refine ⟨⟨.int .i64 0, ?_⟩, hx.out⟩
        rw [hR.out]; rfl
      · rw [decide_eq_false hk] at he
        have hn2 : Box (∀ j, 1 ≤ j → j < 1 + (t + 1) → kW j ≠ s.data.toList) := ⟨fun j a b => by
          rcases Nat.lt_or_ge j (1 + t) with h | h
          · exact hn.out j a h
          · obtain rfl : j = t + 1 := by omega
            exact hk⟩
        clear hk hn
        generalize kS (t + 1) = z at *
        go_wp2
        go_round
        case rel => exact ⟨t + 1, by omega, by go_num, hn2⟩
        case measure => simp [intOf]; omega
    · obtain rfl : t = 8 := by omega
      have hR : Box (kindN s.data.toList = 0) := ⟨kf_none _ 8 1 (fun j a b => hn.out j a b)⟩
      clear hn
      go_wp2
      go_ret2
      refine ⟨⟨.int .i64 6, ?_⟩, hx.out⟩
      rw [hR.out]; rfl
end Go.Proofs.YtcofejbkbcdopaaGreatDoor
