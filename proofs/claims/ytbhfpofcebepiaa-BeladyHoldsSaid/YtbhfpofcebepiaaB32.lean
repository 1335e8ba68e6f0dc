import Derived.Test.YtbhfpofcebepiaaB31
/- The contract of the reference's Best: trying all. -/
namespace Go.Proofs.Ytbhfpofcebepiaa
open Go.RowKit
theorem app_run {P : Program} (w : World) (base : Nat) (t ty e : TypeId) (i : TypeInfo) (z : Value) (size bytes : Nat) (ht : P.underlying t = some (.slice e)) (hi : P.info? e = some i) (hz : i.zero = some z)
    (hsize : i.size = size) (hby : i.bytes = bytes) (hzs : z.cells.size = size) (hsz : 0 < size) (v : Value) (n : Nat) (ys : List Value) (hown : w.ownsRow base e size v n ys)
    (a : Option Addr) (m c : Nat) (news : List Value) (hnil : a = none → m = 0 ∧ c = 0) (hl : news.length = m * size) (hnews : ∀ x, a = some x → ∀ j u, news[j]? = some u → w.cell? (x.add j) = some u) (h1 : ∀ u ∈ news, u.oneCell' = true)
    (h63 : n + m ≤ maxLen) (hbytes : (n + m) * bytes ≤ 140737488355328) (hbase : base ≤ w.heap.size) :
    ∃ v' w', (Builtin.append_ #[t, t] ty #[v, .slice a m c]).run P w = .ok v' w' ∧ w'.ownsRow base e size v' (n + m) (ys ++ news) ∧ w.grownBy w' v.ownBlock ∧ (v'.ownBlock = v.ownBlock ∨ v'.ownBlock = some w.heap.size) := by
  cases a with
  | some x =>
    obtain ⟨v', w', h2, h3, h4, _, h5⟩ := run_append_own_at w base t ty e i z size bytes ht hi hz hsize hby hzs hsz v n ys hown x m c news hl (hnews x rfl) h1 h63 hbytes hbase
    exact ⟨v', w', h2, h3, h4, h5⟩
  | none =>
    obtain ⟨rfl, rfl⟩ := hnil rfl
    have hn : news = [] := List.eq_nil_of_length_eq_zero (by rw [hl]; simp)
    subst hn
    refine ⟨v, w, ?_, by rw [List.append_nil]; exact hown, ⟨rfl, rfl, rfl, Nat.le_refl _, fun _ _ _ => rfl⟩, Or.inl rfl⟩
    rcases hown.2 with ⟨rfl, rfl⟩ | ⟨g, cap, cur, rfl, _, _, hnc, _⟩
    · simp [Builtin.append_, run_underlying ht, sizeOf, typeInfo, hi, Builtin.lenOf, Builtin.firstCells]
    · subst hsize
      exact run_append_room_src w t t ty e i ht hi g 0 n cap (.slice none 0 0) 0 [] (Src.ofNil w ht 0) (by omega) (fun j hj => by simp at hj) (fun j hj => by simp at hj)
theorem copyApp (W : World) (a : Option Addr) (c : Nat) (O : List Nat) (hl : O.length ≤ 1000) (hC : CellsAt W a (u32L O)) (hnil : a = none → c = 0) :
    ∃ a' c' W', (Builtin.append_ #[22, 22] 22 #[.slice none 0 0, .slice a O.length c]).run Try.prog W = .ok (.slice a' O.length c') W' ∧ W'.ownsRow W.heap.size 45 1 (.slice a' O.length c') O.length (u32L O) ∧ Ext W W' := by
  obtain ⟨i0, hi, hz0, hz1, hz2⟩ := info_parts infoU32
  have hno : a = none → O.length = 0 := fun h => by
    rcases Nat.eq_zero_or_pos O.length with h0 | h0
    · exact h0
    · obtain ⟨b, o, hb, _⟩ := hC 0 _ (u32L_at h0)
      rw [h] at hb
      cases hb
  obtain ⟨v', w', q1, q2, q3, _⟩ := app_run (P := Try.prog) W W.heap.size 22 22 45 i0 (.int .u32 0) 1 4 Try.underlying22 hi hz0 hz1 hz2 rfl (by decide) (.slice none 0 0) 0 [] (World.ownsRow_nil _ _ _ _) a O.length c (u32L O) (fun h => ⟨hno h, hnil h⟩) (by rw [u32L_len]; omega)
    (fun x hx j u hj => by
      obtain ⟨b, o, hb, hc⟩ := hC j u hj
      rw [hx] at hb
      cases hb
      rw [Addr.add_lit]
      exact hc) (by intro u hu; simp [u32L] at hu; obtain ⟨y, _, rfl⟩ := hu; rfl) (by unfold maxLen; omega) (by omega) (Nat.le_refl _)
  rw [Nat.zero_add, List.nil_append] at q2
  obtain ⟨a', c', rfl⟩ := slice_form q2
  exact ⟨a', c', w', q1, q2, Below.grown (Below.refl _ _) q3 (Nat.le_refl _) (fun k hk => by cases hk)⟩
theorem pushApp (W : World) (base : Nat) (a : Option Addr) (c : Nat) (O : List Nat) (x B : Nat) (hl : O.length ≤ 1000) (hown : W.ownsRow base 45 1 (.slice a O.length c) O.length (u32L O)) (hB : W.heap[B]? = some (.cells #[.int .u32 (x : Nat)] 45 (0, 0))) (hb : base ≤ W.heap.size) :
    ∃ a' c' W', (Builtin.append_ #[22, 22] 22 #[.slice a O.length c, .slice (some ⟨B, 0, none⟩) 1 1]).run Try.prog W = .ok (.slice a' (O.length + 1) c') W' ∧ CellsAt W' a' (u32L (O ++ [x])) ∧ (a' = none → c' = 0) ∧ Below base W W' := by
  obtain ⟨i0, hi, hz0, hz1, hz2⟩ := info_parts infoU32
  obtain ⟨v', w', q1, q2, q3, _⟩ := run_append_own_at (P := Try.prog) W base 22 22 45 i0 (.int .u32 0) 1 4 Try.underlying22 hi hz0 hz1 hz2 rfl (by decide) (.slice a O.length c) O.length (u32L O) hown ⟨B, 0, none⟩ 1 1 [.int .u32 (x : Nat)] rfl
    (fun j u hj => by
      rw [Addr.add_lit, Nat.zero_add, Lib.cell_of_heap hB, ← Array.getElem?_toList]
      exact hj) (by intro u hu; simp at hu; subst hu; rfl) (by unfold maxLen; omega) (by omega) hb
  obtain ⟨a', c', rfl⟩ := slice_form q2
  rw [← u32L_snoc] at q2
  refine ⟨a', c', w', q1, own_cells q2, fun h => ?_, Below.grown (Below.refl _ _) q3 hb (fun k hk => (hown.lt k hk).1)⟩
  rcases q2.2 with ⟨hv, _⟩ | ⟨g, cap, cur, hv, _⟩
  · simp only [Value.slice.injEq] at hv; exact hv.2.2
  · simp only [Value.slice.injEq] at hv; rw [h] at hv; cases hv.1
/-- The keys and one more, in both orders of the region. -/
theorem both_orders (w : World) (a : Option Addr) (c : Nat) (O : List Nat) (x : Nat) (hl : O.length ≤ 1000) (hC : CellsAt w a (u32L O)) (hnil : a = none → c = 0) :
    (∃ a1 c1 W1, (Builtin.append_ #[22, 22] 22 #[.slice none 0 0, .slice a O.length c]).run Try.prog w.drew = .ok (.slice a1 O.length c1) W1 ∧ Ext w W1 ∧ ∃ a2 c2 W2, (Builtin.append_ #[22, 22] 22 #[.slice a1 O.length c1, .slice (some ⟨W1.heap.size, 0, none⟩) 1 1]).run Try.prog (W1.alloc (.cells #[.int .u32 (x : Nat)] 45)) = .ok (.slice a2 (O.length + 1) c2) W2 ∧ CellsAt W2 a2 (u32L (O ++ [x])) ∧ (a2 = none → c2 = 0) ∧ Ext w W2) ∧
    (∃ a1 c1 W1, (Builtin.append_ #[22, 22] 22 #[.slice none 0 0, .slice a O.length c]).run Try.prog (w.alloc (.cells #[.int .u32 (x : Nat)] 45)).drew = .ok (.slice a1 O.length c1) W1 ∧ Ext w W1 ∧ ∃ a2 c2 W2, (Builtin.append_ #[22, 22] 22 #[.slice a1 O.length c1, .slice (some ⟨w.heap.size, 0, none⟩) 1 1]).run Try.prog W1 = .ok (.slice a2 (O.length + 1) c2) W2 ∧ CellsAt W2 a2 (u32L (O ++ [x])) ∧ (a2 = none → c2 = 0) ∧ Ext w W2) := by
  have hd : Ext w w.drew := Ext.drew1 (Below.refl _ _)
  have hA : Ext w (w.alloc (.cells #[.int .u32 (x : Nat)] 45)).drew := Ext.drew1 (Ext.alloc (Below.refl _ _) _)
  constructor
  · obtain ⟨a1, c1, W1, p1, p2, p3⟩ := copyApp w.drew a c O hl (CellsAt.keep hd hC) hnil
    have hx1 := Ext.trans' hd p3
    have hx2 : Ext w (W1.alloc (.cells #[.int .u32 (x : Nat)] 45)) := Ext.alloc hx1 _
    obtain ⟨a2, c2, W2, q1, q2, q3, q4⟩ := pushApp (W1.alloc (.cells #[.int .u32 (x : Nat)] 45)) w.heap.size a1 c1 O x W1.heap.size hl (ownsRow_ext (Ext.alloc (Below.refl _ _) _) p2) (newblk _ _) hx2.size
    exact ⟨a1, c1, W1, p1, hx1, a2, c2, W2, q1, q2, q3, Below.trans hx2 q4⟩
  · obtain ⟨a1, c1, W1, p1, p2, p3⟩ := copyApp _ a c O hl (CellsAt.keep hA hC) hnil
    have hx1 := Ext.trans' hA p3
    obtain ⟨a2, c2, W2, q1, q2, q3, q4⟩ := pushApp W1 w.heap.size a1 c1 O x w.heap.size hl (own_base p2 hA.size) (Ext.blk p3 (Ext.blk (Ext.drew1 (Below.refl _ _)) (newblk w _))) hx1.size
    exact ⟨a1, c1, W1, p1, hx1, a2, c2, W2, q1, q2, q3, Below.trans hx1 q4⟩
theorem best_in {L : List Nat} {k f i : Nat} {O : List Nat} (h : keyB L i ∈ O) : bestB L k (f + 1) i O = 1 + bestB L k f (i + 1) O := by
  show (if _ then _ else _) = _
  rw [if_pos h]
theorem best_fit {L : List Nat} {k f i : Nat} {O : List Nat} (h : keyB L i ∉ O) (hl : O.length + 1 ≤ k) : bestB L k (f + 1) i O = bestB L k f (i + 1) (O ++ [keyB L i]) := by
  show (if _ then _ else _) = _
  rw [if_neg h, if_pos hl]
theorem best_all {L : List Nat} {k f i : Nat} {O : List Nat} (h : keyB L i ∉ O) (hl : ¬ O.length + 1 ≤ k) : bestB L k (f + 1) i O = maxB (O.map fun u => bestB L k f (i + 1) (woB (O ++ [keyB L i]) u)) := by
  show (if _ then _ else _) = _
  rw [if_neg h, if_neg hl]
end Go.Proofs.Ytbhfpofcebepiaa
