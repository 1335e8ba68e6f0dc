import Derived.Test.YtbhfpofcebepiaaB13
/- A map whose keys are numbers of 32 bits: raw laws of lookup and store. -/
namespace Go.Proofs.Ytbhfpofcebepiaa
open Go.RowKit Go.ChangeMaps
def cU (p : Nat × Value) : Value × Value := (.int .u32 (p.1 : Nat), p.2)
/-- Where a key lies. -/
def posU : List (Nat × Value) → Nat → Nat → Option (Nat × Value)
  | [], _, _ => none
  | p :: M, x, i => if p.1 = x then some (i, p.2) else posU M x (i + 1)
/-- The value of a key. -/
def getU : List (Nat × Value) → Nat → Option Value
  | [], _ => none
  | p :: M, x => if p.1 = x then some p.2 else getU M x
theorem pos_get (x : Nat) : ∀ (M : List (Nat × Value)) (i : Nat), (posU M x i).map (·.2) = getU M x
  | [], _ => rfl
  | p :: M, i => by
    unfold posU getU
    split
    · rfl
    · exact pos_get x M (i + 1)
theorem pos_at (x : Nat) : ∀ (M : List (Nat × Value)) (i j : Nat) (v : Value), posU M x i = some (j, v) → i ≤ j ∧ M[j - i]? = some (x, v) ∧ ∀ y u, getU (M.set (j - i) (x, u)) y = if y = x then some u else getU M y
  | [], _, _, _, h => by cases h
  | p :: M, i, j, v, h => by
    unfold posU at h
    split at h
    · rename_i e
      cases h
      obtain ⟨k, u⟩ := p
      simp only at e
      subst e
      refine ⟨Nat.le_refl _, by simp, fun y u' => ?_⟩
      simp only [Nat.sub_self, List.set_cons_zero, getU]
      by_cases e : y = k
      · subst e; simp
      · have : ¬ k = y := fun h => e h.symm
        simp [e, this]
    · rename_i e
      obtain ⟨h1, h2, h3⟩ := pos_at x M (i + 1) j v h
      have hs : j - i = (j - (i + 1)) + 1 := by omega
      refine ⟨by omega, by rw [hs]; simpa using h2, fun y u => ?_⟩
      rw [hs, List.set_cons_succ]
      simp only [getU]
      by_cases e2 : p.1 = y
      · have : ¬ y = x := fun h => e (e2.trans h)
        simp [e2, this]
      · simp only [e2, if_false]
        exact h3 y u
theorem findP (x : Nat) : ∀ (M : List (Nat × Value)) (es : List MapEntry) (i : Nat), prs es = M.map cU → Instr.findNow (.int .u32) (.int .u32 (x : Nat)) es i = some (posU M x i)
  | [], es, i, h => by
    cases es with
    | nil => rfl
    | cons e es => simp [prs] at h
  | p :: M, es, i, h => by
    cases es with
    | nil => simp [prs] at h
    | cons e es =>
      simp only [prs, cU, List.map_cons, List.cons.injEq, Prod.mk.injEq] at h
      obtain ⟨⟨h1, h2⟩, h3⟩ := h
      unfold Instr.findNow posU
      rw [h1]
      by_cases hx : p.1 = x
      · subst hx
        simp [Instr.sameNow, h2]
      · have hb : ((x : Int) == ((p.1 : Nat) : Int)) = false := by rw [beq_eq_false_iff_ne]; omega
        simp only [Instr.sameNow, if_pos, hb]
        rw [findP x M es (i + 1) h3, if_neg hx]
def UAt (w : World) (B : Nat) (M : List (Nat × Value)) : Prop := ∃ es clock, w.heap[B]? = some (.map es clock) ∧ prs es.toList = M.map cU
theorem UAt.ext {w w' : World} {B : Nat} {M : List (Nat × Value)} (h : UAt w B M) (hb : Ext w w') : UAt w' B M := by
  obtain ⟨es, clock, h1, h2⟩ := h
  exact ⟨es, clock, (hb.block B (Array.getElem?_eq_some_iff.1 h1).1).trans h1, h2⟩
theorem UAt.size {w : World} {B : Nat} {M : List (Nat × Value)} (h : UAt w B M) : ∃ es clock, w.heap[B]? = some (.map es clock) ∧ es.size = M.length := by
  obtain ⟨es, clock, h1, h2⟩ := h
  refine ⟨es, clock, h1, ?_⟩
  have := congrArg List.length h2
  simpa [prs] using this
theorem uFind {es : Array MapEntry} {M : List (Nat × Value)} (h : prs es.toList = M.map cU) (x : Nat) (w : World) : (Instr.findKey 45 (.int .u32 (x : Nat)) es.toList).run Try.prog w = .ok (posU M x 0) w :=
  MapKept.run_findKey Try.underlying45 (findP x M es.toList 0 h)
theorem uLook2 {T e : TypeId} {z : Value} (hT : Try.prog.underlying T = some (.map 45 e)) (hz : ∀ w, (zeroValue e).run Try.prog w = .ok z w) {w : World} {B : Nat} {M : List (Nat × Value)} (h : UAt w B M) (x : Nat) :
    (Instr.lookup T (.map (some B)) (.int .u32 (x : Nat)) true).run Try.prog w = .ok (.tuple #[(getU M x).getD z, .bool (getU M x).isSome]) w := by
  obtain ⟨es, clock, h1, h2⟩ := h
  have h3 := uFind h2 x w
  rw [← pos_get x M 0]
  cases hp : posU M x 0 with
  | none =>
    rw [hp] at h3
    simp [Instr.lookup, run_underlying hT, MapKept.run_getObj_map h1, chk32, h3, Result.andThen, Sem.run_bind, hz]
  | some p =>
    rw [hp] at h3
    simp [Instr.lookup, run_underlying hT, MapKept.run_getObj_map h1, chk32, h3, Result.andThen, Sem.run_bind]
theorem uLook1 {T e : TypeId} {z : Value} (hT : Try.prog.underlying T = some (.map 45 e)) (hz : ∀ w, (zeroValue e).run Try.prog w = .ok z w) {w : World} {B : Nat} {M : List (Nat × Value)} (h : UAt w B M) (x : Nat) :
    (Instr.lookup T (.map (some B)) (.int .u32 (x : Nat)) false).run Try.prog w = .ok ((getU M x).getD z) w := by
  obtain ⟨es, clock, h1, h2⟩ := h
  have h3 := uFind h2 x w
  rw [← pos_get x M 0]
  cases hp : posU M x 0 with
  | none =>
    rw [hp] at h3
    simp [Instr.lookup, run_underlying hT, MapKept.run_getObj_map h1, chk32, h3, Result.andThen, Sem.run_bind, hz]
  | some p =>
    rw [hp] at h3
    simp [Instr.lookup, run_underlying hT, MapKept.run_getObj_map h1, chk32, h3, Result.andThen, Sem.run_bind]
/-- What a store leaves. -/
def putU (M : List (Nat × Value)) (x : Nat) (v : Value) : List (Nat × Value) := match posU M x 0 with | none => M ++ [(x, v)] | some (j, _) => M.set j (x, v)
theorem get_put (M : List (Nat × Value)) (x : Nat) (v : Value) (y : Nat) : getU (putU M x v) y = if y = x then some v else getU M y := by
  unfold putU
  cases hp : posU M x 0 with
  | none =>
    have hg : getU M x = none := by rw [← pos_get x M 0, hp]; rfl
    show getU (M ++ [(x, v)]) y = _
    clear hp
    induction M with
    | nil =>
      simp only [List.nil_append, getU]
      by_cases e : y = x
      · subst e; simp
      · have : ¬ x = y := fun h => e h.symm
        simp [e, this]
    | cons p M ih =>
      simp only [getU] at hg
      split at hg
      · cases hg
      · rename_i hne
        simp only [List.cons_append, getU]
        by_cases e : p.1 = y
        · have : ¬ y = x := fun h => hne (e.trans h)
          simp [e, this]
        · simp only [e, if_false]
          exact ih hg
  | some p =>
    obtain ⟨j, u⟩ := p
    exact (pos_at x M 0 j u hp).2.2 y v
theorem uPut {T e : TypeId} (hT : Try.prog.underlying T = some (.map 45 e)) {w : World} {B : Nat} {M : List (Nat × Value)} (h : UAt w B M) (x : Nat) (v : Value) :
    ∃ o, (Instr.mapUpdate T (.map (some B)) (.int .u32 (x : Nat)) v).run Try.prog w = .ok () (setBlock w B o) ∧ UAt (setBlock w B o) B (putU M x v) := by
  obtain ⟨es, clock, h1, h2⟩ := h
  have h3 := uFind h2 x w
  have hlt := (Array.getElem?_eq_some_iff.1 h1).1
  have same : ∀ o : Obj, (setBlock w B o).heap[B]? = some o := fun o => by
    show (w.heap.setIfInBounds B _)[B]? = _
    rw [Array.getElem?_setIfInBounds_self_of_lt hlt]
  unfold putU
  cases hp : posU M x 0 with
  | none =>
    rw [hp] at h3
    refine ⟨.map (es.push { key := .int .u32 (x : Nat), val := v, born := clock }) (clock + 1), ?_, es.push { key := .int .u32 (x : Nat), val := v, born := clock }, clock + 1, same _, ?_⟩
    · simp [Instr.mapUpdate, run_underlying hT, MapKept.run_getObj_map h1, chk32, h3, MapKept.run_setObj_map _ h1, Result.andThen, setBlock, Sem.run_bind]
    · rw [Array.toList_push]
      unfold prs at h2 ⊢
      rw [List.map_append, h2, List.map_append]
      rfl
  | some p =>
    obtain ⟨j, u⟩ := p
    rw [hp] at h3
    obtain ⟨_, hj, _⟩ := pos_at x M 0 j u hp
    rw [Nat.sub_zero] at hj
    have he : (prs es.toList)[j]? = some (cU (x, u)) := by rw [h2, List.getElem?_map, hj]; rfl
    unfold prs at he
    rw [List.getElem?_map] at he
    obtain ⟨en, hen, hcu⟩ := Option.map_eq_some_iff.1 he
    have hen2 : es[j]? = some en := by simpa using hen
    simp only [cU, Prod.mk.injEq] at hcu
    have hkey : en.key = .int .u32 (x : Nat) := hcu.1
    have hstay : (Instr.keyThatStays (.int .u32 (x : Nat)) (.int .u32 (x : Nat))).run Try.prog w = .ok (.int .u32 (x : Nat)) w := by
      unfold Instr.keyThatStays
      rw [if_pos (by simp [Instr.sameBits])]
      rfl
    refine ⟨.map (es.modify j fun e => { e with key := .int .u32 (x : Nat), val := v }) clock, ?_, (es.modify j fun e => { e with key := .int .u32 (x : Nat), val := v }), clock, same _, ?_⟩
    · simp [Instr.mapUpdate, run_underlying hT, MapKept.run_getObj_map h1, chk32, h3, hen2, hkey, hstay, MapKept.run_setObj_map _ h1, Result.andThen, setBlock, Sem.run_bind]
    · unfold prs at h2 ⊢
      apply List.ext_getElem?
      intro q
      have h2q := congrArg (fun l => l[q]?) h2
      simp only [List.getElem?_map] at h2q
      rw [List.getElem?_map, List.getElem?_map, Array.toList_modify, List.getElem?_modify, List.getElem?_set]
      by_cases hq : j = q
      · subst hq
        have hjl : j < M.length := (List.getElem?_eq_some_iff.1 hj).1
        rw [if_pos rfl, if_pos hjl, hen]
        simp [cU]
      · rw [if_neg hq]
        cases hv : es.toList[q]? with
        | none => rw [hv] at h2q; simpa [hq] using h2q
        | some en2 => rw [hv] at h2q; simpa [hq] using h2q
theorem zeroInt2 (w : World) : (zeroValue 3).run Try.prog w = .ok (.int .i64 0) w := by kernel_rfl
theorem zeroBool (w : World) : (zeroValue 4).run Try.prog w = .ok (.bool false) w := by kernel_rfl
theorem newblk (w : World) (o : Obj) : (w.alloc o).heap[w.heap.size]? = some o := by
  show (w.heap.push o)[w.heap.size]? = some o
  simp
theorem Ext.blk {W w1 : World} (hb : Ext W w1) {B : Nat} {o : Obj} (h : W.heap[B]? = some o) : w1.heap[B]? = some o :=
  (hb.block B (Array.getElem?_eq_some_iff.1 h).1).trans h
theorem blk_lt {w : World} {B : Nat} {o : Obj} (h : w.heap[B]? = some o) : B < w.heap.size := (Array.getElem?_eq_some_iff.1 h).1
theorem cells1 {w : World} {B : Nat} {c0 : Value} {T : TypeId} (h : w.heap[B]? = some (.cells #[c0] T (0, 0))) : w.cell? ⟨B, 0, none⟩ = some c0 ∧ w.frozen? ⟨B, 0, none⟩ = false :=
  ⟨by rw [Lib.cell_of_heap h]; rfl, Lib.frozen_of_heap h 0⟩
theorem set1 {w : World} {B : Nat} {c0 : Value} {T : TypeId} (h : w.heap[B]? = some (.cells #[c0] T (0, 0))) (v : Value) : (w.setCell ⟨B, 0, none⟩ v).heap[B]? = some (.cells #[v] T (0, 0)) := heap_setCell_same w B 0 _ _ _ h
theorem setO {w : World} {A B k : Nat} {o : Obj} (h : w.heap[A]? = some o) (hne : A ≠ B) (v : Value) : (w.setCell ⟨B, k, none⟩ v).heap[A]? = some o := (heap_setCell_other w ⟨B, k, none⟩ A v hne).trans h
theorem setBlock_same {w : World} {B : Nat} (h : B < w.heap.size) (o : Obj) : (setBlock w B o).heap[B]? = some o := by
  show (w.heap.setIfInBounds B _)[B]? = _
  rw [Array.getElem?_setIfInBounds_self_of_lt h]
theorem setBlock_other {w : World} {A B : Nat} {o' : Obj} (h : w.heap[A]? = some o') (hne : A ≠ B) (o : Obj) : (setBlock w B o).heap[A]? = some o' := by
  show (w.heap.setIfInBounds B _)[A]? = _
  rw [Array.getElem?_setIfInBounds, if_neg (fun e => hne e.symm)]
  exact h
theorem UAt.setO {w : World} {B C k : Nat} {M : List (Nat × Value)} (h : UAt w B M) (hne : B ≠ C) (v : Value) : UAt (w.setCell ⟨C, k, none⟩ v) B M := by
  obtain ⟨es, clock, h1, h2⟩ := h
  exact ⟨es, clock, Go.Proofs.Ytbhfpofcebepiaa.setO h1 hne v, h2⟩
end Go.Proofs.Ytbhfpofcebepiaa
