import Derived.Test.YtapngkjgagapeaaDoorE9
import Derived.Laws.Tables
/- Contracts of the digits that are read: decode. -/
namespace Go.Proofs.YtapngkjgagapeaaDoor
open Go.RowKit

noncomputable def tabC : Array Value := ((((((((((((((((Tryd.zeroCells130.setIfInBounds 48 (.int .i8 1)).setIfInBounds 49 (.int .i8 2)).setIfInBounds 50 (.int .i8 3)).setIfInBounds 51 (.int .i8 4)).setIfInBounds 52 (.int .i8 5)).setIfInBounds 53 (.int .i8 6)).setIfInBounds 54 (.int .i8 7)).setIfInBounds 55 (.int .i8 8)).setIfInBounds 56 (.int .i8 9)).setIfInBounds 57 (.int .i8 10)).setIfInBounds 97 (.int .i8 11)).setIfInBounds 98 (.int .i8 12)).setIfInBounds 99 (.int .i8 13)).setIfInBounds 100 (.int .i8 14)).setIfInBounds 101 (.int .i8 15)).setIfInBounds 102 (.int .i8 16))
theorem tabC_list : tabC.toList = (List.range 256).map fun j => Value.int .i8 ((unhx (UInt8.ofNat j) : Nat) : Int) := by kernel_rfl
theorem tabC_size : tabC.size = 256 := by
  have := congrArg List.length tabC_list
  simpa using this
theorem tabC_at (c : UInt8) : tabC[c.toNat]? = some (.int .i8 ((unhx c : Nat) : Int)) := by
  have h := c.toNat_lt
  have e : tabC.toList[c.toNat]? = some (Value.int .i8 ((unhx c : Nat) : Int)) := by
    rw [tabC_list, List.getElem?_map, List.getElem?_range (by omega)]
    simp
  simpa using e
theorem tabC_one : tabC.all (·.oneCell') = true := by kernel_rfl
theorem info256 : (Tryd.prog.info? 130).map (·.size) = some 256 := by kernel_rfl
theorem zero256 : Tryd.zeroCells130.size = 256 := by kernel_rfl

theorem setrow_ext (w : World) (z t : Array Value) (T : TypeId) : Ext w ((w.alloc (.cells z T)).setRow w.heap.size t) := by
  have h := Ext.alloc (Below.refl w.heap.size w) (.cells z T)
  exact ⟨h.os, h.tape, h.output, by simp, fun k hk => by
    rw [setRow_other _ _ _ _ (by omega)]; exact h.block k hk⟩

theorem lst_nil' (s : ByteArray) (h : s.size = 0) : s.data.toList = [] := List.eq_nil_of_length_eq_zero h
theorem decP_odd (n : Nat) : ∀ l : List UInt8, l.length ≤ n → l.length % 2 = 1 → decP l = none := by
  induction n with
  | zero => intro l h1 h2; omega
  | succ n ih =>
    intro l h1 h2
    match l with
    | [] => simp at h2
    | [_] => rfl
    | a :: b :: t =>
      rw [decP]
      split
      · rfl
      · rw [ih t (by simp at h1; omega) (by simp at h2; omega)]; rfl
theorem decL_odd (l : List UInt8) (h0 : l ≠ [45]) (h : l.length % 2 = 1) : decL l = none := by
  unfold decL
  rw [if_neg h0]
  split
  · rfl
  · exact decP_odd _ l (Nat.le_refl _) h
theorem decL_even (l : List UInt8) (h : l.length % 2 = 0) (h0 : l ≠ []) : decL l = decP l := by
  unfold decL
  rw [if_neg (fun e => by rw [e] at h; simp at h), if_neg h0]
def mapR (r : List UInt8) (o : Option (List UInt8)) : Option (List UInt8) := o.map (r ++ ·)
theorem dec_bad (r : List UInt8) (a b : UInt8) (t : List UInt8) (h : unhx a = 0 ∨ unhx b = 0) : mapR r (decP (a :: b :: t)) = none := by
  rw [decP, if_pos h]; rfl
theorem dec_step (r : List UInt8) (a b : UInt8) (t : List UInt8) (ha : unhx a ≠ 0) (hb : unhx b ≠ 0) : mapR r (decP (a :: b :: t)) = mapR (r ++ [pairB a b]) (decP t) := by
  rw [decP, if_neg (by omega)]
  unfold mapR
  cases decP t <;> simp
theorem pair_or (p q : Nat) (_ : p < 16) (hq : q < 16) : p * 16 ||| q = 16 * p + q := by
  have h := Nat.two_pow_add_eq_or_of_lt (i := 4) (show q < 2 ^ 4 by omega) p
  rw [show p * 16 = 2 ^ 4 * p by omega, ← h]

def DecPost (w : World) (l : List UInt8) (e : Ending) (w' : World) : Prop :=
  ∃ v, e = .returned (.tuple #[v, .bool (decL l).isSome]) ∧ OwnB w.heap.size w' v ((decL l).getD []) ∧ Ext w w'
theorem dec_none {w w' : World} {l : List UInt8} (h : decL l = none) (hx : Ext w w') : DecPost w l (.returned (.tuple #[.slice none 0 0, .bool false])) w' :=
  ⟨_, by rw [h]; rfl, by rw [h]; exact World.ownsRow_nil _ _ _ _, hx⟩
theorem dec_some {w w' : World} {l r : List UInt8} {v : Value} (h : decL l = some r) (ho : OwnB w.heap.size w' v r) (hx : Ext w w') : DecPost w l (.returned (.tuple #[v, .bool true])) w' :=
  ⟨v, by rw [h]; rfl, by rw [h]; exact ho, hx⟩

set_option maxRecDepth 100000 in
set_option maxHeartbeats 4000000 in
theorem decode_easy (s : ByteArray) (w : World) (hs : s.size ≤ 1000000) (hn : s.data.toList = [45] ∨ s.size = 0 ∨ s.size % 2 = 1) :
    Calls Tryd.prog 72 #[.string s] w (DecPost w s.data.toList) := by
  obtain ⟨W1, hW, hx, hT⟩ : ∃ W1, (w.alloc (.cells Tryd.zeroCells130 130)).setRow w.heap.size tabC = W1 ∧ Ext w W1 ∧ W1.heap[w.heap.size]? = some (.cells tabC 130 (0, 0)) :=
    ⟨_, rfl, setrow_ext _ _ _ _, setRow_heap _ _ _ _ _ _ (newblk w _)⟩
  have HW := Box.mk hW
  have HT := Box.mk hT
  have hB1 := blk_lt hT
  clear hW hT
  by_cases h1 : s.data.toList = [45]
  · clear hn
    have e1 := eq_test s _ h1
    have hd : Box (decL s.data.toList = some []) := ⟨by rw [h1]; rfl⟩
    clear h1
    go_enter Tryd.func72, Tryd.ntmps72
    go_wp2_with (refine wpList_store_row rfl 130 (.tmp 4) (.tmp 9) rfl w.heap.size tabC rfl rfl 130 Tryd.zeroCells130 (newblk w _) (by rw [tabC_size]; exact info256) (by rw [tabC_size]; exact zero256) tabC_one ?_; rw [HW.out])
    go_ret2
    exact dec_some hd.out (World.ownsRow_nil _ _ _ _) hx
  · have e1 := ne_test s _ h1
    by_cases h0 : s.size = 0
    · clear hn
      have hl : s.data.toList = [] := lst_nil' s h0
      have hd : Box (decL s.data.toList = none) := ⟨by rw [hl]; rfl⟩
      have e2 : ((s.size : Int) == 0) = true := by rw [h0]; rfl
      clear h1 hl h0
      go_enter Tryd.func72, Tryd.ntmps72
      go_wp2_with (refine wpList_store_row rfl 130 (.tmp 4) (.tmp 9) rfl w.heap.size tabC rfl rfl 130 Tryd.zeroCells130 (newblk w _) (by rw [tabC_size]; exact info256) (by rw [tabC_size]; exact zero256) tabC_one ?_; rw [HW.out])
      go_ret2
      exact dec_none hd.out hx
    · have e2 : ((s.size : Int) == 0) = false := by rw [beq_eq_false_iff_ne]; omega
      by_cases h2 : s.size % 2 = 1
      · clear hn
        have hd : Box (decL s.data.toList = none) := ⟨decL_odd _ h1 h2⟩
        have e3 : ((s.size : Int) % 2 != 0) = true := by rw [bne_iff_ne]; omega
        clear h1
        go_enter Tryd.func72, Tryd.ntmps72
        go_wp2_with (refine wpList_store_row rfl 130 (.tmp 4) (.tmp 9) rfl w.heap.size tabC rfl rfl 130 Tryd.zeroCells130 (newblk w _) (by rw [tabC_size]; exact info256) (by rw [tabC_size]; exact zero256) tabC_one ?_; rw [HW.out])
        go_ret2
        exact dec_none hd.out hx
      · exact absurd hn (fun h => h.elim h1 (fun h => h.elim h0 h2))
end Go.Proofs.YtapngkjgagapeaaDoor
