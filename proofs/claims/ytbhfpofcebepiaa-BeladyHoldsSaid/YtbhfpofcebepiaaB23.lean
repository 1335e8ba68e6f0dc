import Derived.Test.YtbhfpofcebepiaaB22
import Derived.Maps.RangeRun
/- The map of the keys that are there: its laws; the contracts of maps.DeleteFunc and turn. -/
namespace Go.Proofs.Ytbhfpofcebepiaa
open Go.RowKit Go.ChangeMaps
def tC (C : List Nat) : List (Nat × Value) := C.map fun k => (k, .bool true)
theorem tC_get (C : List Nat) (x : Nat) : getU (tC C) x = if x ∈ C then some (.bool true) else none := by
  induction C with
  | nil => rfl
  | cons c C ih =>
    show (if c = x then some (Value.bool true) else getU (tC C) x) = _
    rw [ih]
    by_cases h : c = x
    · subst h; simp
    · have : ¬ x = c := fun e => h e.symm
      simp [h, this]
/-- The map in memory. -/
structure BMap (es : List MapEntry) (C : List Nat) (clock : Nat) : Prop where
  pairs : prs es = (tC C).map cU
  born : ∀ e ∈ es, e.born < clock
  ones : (es.map (·.born)).Nodup
def BAt (w : World) (B : Nat) (C : List Nat) : Prop := ∃ es clock, w.heap[B]? = some (.map es clock) ∧ BMap es.toList C clock
theorem BAt.u {w : World} {B : Nat} {C : List Nat} (h : BAt w B C) : UAt w B (tC C) := by
  obtain ⟨es, clock, h1, h2⟩ := h
  exact ⟨es, clock, h1, h2.pairs⟩
theorem BAt.size {w : World} {B : Nat} {C : List Nat} (h : BAt w B C) : ∃ es clock, w.heap[B]? = some (.map es clock) ∧ es.size = C.length := by
  obtain ⟨es, clock, h1, h2⟩ := h.u.size
  exact ⟨es, clock, h1, by rw [h2]; simp [tC]⟩
theorem BAt.of {w w' : World} {B : Nat} {C : List Nat} (h : BAt w B C) (e : w'.heap[B]? = w.heap[B]?) : BAt w' B C := by
  obtain ⟨es, clock, h1, h2⟩ := h
  exact ⟨es, clock, e.trans h1, h2⟩
theorem bLook {w : World} {B : Nat} {C : List Nat} (h : BAt w B C) (x : Nat) : (Instr.lookup 73 (.map (some B)) (.int .u32 (x : Nat)) false).run Try.prog w = .ok (.bool (decide (x ∈ C))) w := by
  have h1 := uLook1 (T := 73) Try.underlying73 zeroBool h.u x
  rw [tC_get] at h1
  by_cases hx : x ∈ C
  · rw [if_pos hx] at h1
    rw [decide_eq_true hx]; exact h1
  · rw [if_neg hx] at h1
    rw [decide_eq_false hx]; exact h1
theorem bmap_at {es : List MapEntry} {C : List Nat} {clock : Nat} (h : BMap es C clock) (j : Nat) (e : MapEntry) (he : es[j]? = some e) : ∃ k, C[j]? = some k ∧ e.key = .int .u32 (k : Nat) ∧ e.val = .bool true := by
  have h1 := congrArg (fun l => l[j]?) h.pairs
  simp only [prs, tC, List.getElem?_map, he, Option.map_some] at h1
  cases hc : C[j]? with
  | none => rw [hc] at h1; cases h1
  | some k =>
    rw [hc] at h1
    simp [cU] at h1
    exact ⟨k, rfl, h1.1, h1.2⟩
/-- A key is laid into the map. -/
theorem bPut {w : World} {B : Nat} {C : List Nat} (h : BAt w B C) (x : Nat) : ∃ o, (Instr.mapUpdate 73 (.map (some B)) (.int .u32 (x : Nat)) (.bool true)).run Try.prog w = .ok () (setBlock w B o) ∧ BAt (setBlock w B o) B (if x ∈ C then C else C ++ [x]) := by
  have hT := Try.underlying73
  obtain ⟨es, clock, h1, h2⟩ := h
  have h3 := uFind h2.pairs x w
  have hlt := (Array.getElem?_eq_some_iff.1 h1).1
  cases hp : posU (tC C) x 0 with
  | none =>
    rw [hp] at h3
    have hx : x ∉ C := fun hx => by
      have := pos_get x (tC C) 0
      rw [hp, tC_get, if_pos hx] at this
      cases this
    rw [if_neg hx]
    refine ⟨.map (es.push { key := .int .u32 (x : Nat), val := .bool true, born := clock }) (clock + 1), ?_, es.push { key := .int .u32 (x : Nat), val := .bool true, born := clock }, clock + 1, setBlock_same hlt _, ?_, ?_, ?_⟩
    · simp [Instr.mapUpdate, run_underlying hT, MapKept.run_getObj_map h1, chk32, h3, MapKept.run_setObj_map _ h1, Result.andThen, setBlock, Sem.run_bind]
    · have h4 := h2.pairs
      rw [Array.toList_push]
      unfold prs at h4 ⊢
      unfold tC at h4 ⊢
      rw [List.map_append, h4, List.map_append, List.map_append]
      rfl
    · intro e he
      rw [Array.toList_push, List.mem_append] at he
      rcases he with he | he
      · have := h2.born e he; omega
      · simp at he; subst he; exact Nat.lt_succ_self _
    · rw [Array.toList_push, List.map_append]
      refine snoc_nodup h2.ones fun hm => ?_
      obtain ⟨e, he, hb⟩ := List.mem_map.1 hm
      have := h2.born e he
      simp at hb
      omega
  | some p =>
    obtain ⟨j, u⟩ := p
    rw [hp] at h3
    obtain ⟨_, hj, _⟩ := pos_at x (tC C) 0 j u hp
    rw [Nat.sub_zero] at hj
    have hx : x ∈ C := by
      have := List.mem_of_getElem? hj
      simp only [tC, List.mem_map, Prod.mk.injEq] at this
      obtain ⟨k, hk, rfl, _⟩ := this
      exact hk
    have hu : u = .bool true := by
      have := List.mem_of_getElem? hj
      simp only [tC, List.mem_map, Prod.mk.injEq] at this
      obtain ⟨k, hk, _, rfl⟩ := this
      rfl
    rw [if_pos hx]
    have he : (prs es.toList)[j]? = some (cU (x, u)) := by rw [h2.pairs, List.getElem?_map, hj]; rfl
    unfold prs at he
    rw [List.getElem?_map] at he
    obtain ⟨en, hen, hcu⟩ := Option.map_eq_some_iff.1 he
    have hen2 : es[j]? = some en := by simpa using hen
    simp only [cU, Prod.mk.injEq] at hcu
    have hkey : en.key = .int .u32 (x : Nat) := hcu.1
    have hval : en.val = .bool true := hcu.2.trans hu
    have hstay : (Instr.keyThatStays (.int .u32 (x : Nat)) (.int .u32 (x : Nat))).run Try.prog w = .ok (.int .u32 (x : Nat)) w := by
      unfold Instr.keyThatStays
      rw [if_pos (by simp [Instr.sameBits])]
      rfl
    have hsame : es.modify j (fun e => { e with key := .int .u32 (x : Nat), val := .bool true }) = es := by
      apply Array.ext'
      apply List.ext_getElem?
      intro q
      rw [Array.toList_modify, List.getElem?_modify]
      by_cases hq : j = q
      · subst hq
        rw [hen]
        simp only [if_true, Option.map_eq_map, Option.map_some, Option.some.injEq]
        cases en
        simp only at hkey hval
        subst hkey hval
        rfl
      · cases hv : es.toList[q]? with
        | none => rfl
        | some e => simp [hq]
    refine ⟨.map es clock, ?_, es, clock, setBlock_same hlt _, h2⟩
    have : (Instr.mapUpdate 73 (.map (some B)) (.int .u32 (x : Nat)) (.bool true)).run Try.prog w = .ok () (setBlock w B (.map (es.modify j fun e => { e with key := .int .u32 (x : Nat), val := .bool true }) clock)) := by
      simp [Instr.mapUpdate, run_underlying hT, MapKept.run_getObj_map h1, chk32, h3, hen2, hkey, hstay, MapKept.run_setObj_map _ h1, Result.andThen, setBlock, Sem.run_bind]
    rw [hsame] at this
    exact this
theorem pos_tC (C : List Nat) (j x : Nat) (hn : C.Nodup) (hj : C[j]? = some x) : posU (tC C) x 0 = some (j, .bool true) := by
  have key : ∀ (C : List Nat) (i j : Nat), C.Nodup → C[j]? = some x → posU (tC C) x i = some (i + j, .bool true) := by
    intro C
    induction C with
    | nil => intro i j _ h; simp at h
    | cons c C ih =>
      intro i j hn h
      rw [List.nodup_cons] at hn
      show (if c = x then some (i, Value.bool true) else posU (tC C) x (i + 1)) = _
      cases j with
      | zero =>
        simp at h
        rw [if_pos h]; rfl
      | succ j =>
        have hm : x ∈ C := List.mem_of_getElem? (by simpa using h)
        rw [if_neg (fun e : c = x => hn.1 (e ▸ hm)), ih (i + 1) j hn.2 (by simpa using h)]
        rw [show i + 1 + j = i + (j + 1) by omega]
  have := key C 0 j hn hj
  rw [Nat.zero_add] at this
  exact this
theorem eraseIdx_wo (C : List Nat) (j x : Nat) (hn : C.Nodup) (hj : C[j]? = some x) : C.eraseIdx j = woB C x := by
  obtain ⟨hl, hx⟩ := List.getElem?_eq_some_iff.1 hj
  rw [← hx, ← woB_split hn hl, List.eraseIdx_eq_take_drop_succ]
theorem erase_map {α β : Type} (f : α → β) : ∀ (l : List α) (j : Nat), (l.eraseIdx j).map f = (l.map f).eraseIdx j
  | [], _ => rfl
  | a :: l, 0 => rfl
  | a :: l, j + 1 => by
    show f a :: (l.eraseIdx j).map f = f a :: (l.map f).eraseIdx j
    rw [erase_map f l j]
/-- A key is struck. -/
theorem bDel {w : World} {B : Nat} {C : List Nat} {es : Array MapEntry} {clock : Nat} (h1 : w.heap[B]? = some (.map es clock)) (h2 : BMap es.toList C clock) (hn : C.Nodup) (j x : Nat) (hj : C[j]? = some x) (ty : TypeId) :
    (Builtin.delete_ #[73, 45] ty #[.map (some B), .int .u32 (x : Nat)]).run Try.prog w = .ok (.tuple #[]) (setBlock w B (.map (es.eraseIdxIfInBounds j) clock)) ∧ BMap (es.eraseIdxIfInBounds j).toList (woB C x) clock := by
  have hT := Try.underlying73
  have h3 := uFind h2.pairs x w
  rw [pos_tC C j x hn hj] at h3
  refine ⟨?_, ?_, ?_, ?_⟩
  · simp [Builtin.delete_, run_underlying hT, MapKept.run_getObj_map h1, chk32, h3, MapKept.run_setObj_map _ h1, Result.andThen, setBlock, Sem.run_bind]
  · rw [← eraseIdx_wo C j x hn hj]
    have h4 := h2.pairs
    unfold prs tC at h4 ⊢
    rw [Array.toList_eraseIdxIfInBounds, erase_map, h4, erase_map, erase_map]
  · intro e he
    rw [Array.toList_eraseIdxIfInBounds] at he
    exact h2.born e (List.mem_of_mem_eraseIdx he)
  · rw [Array.toList_eraseIdxIfInBounds]
    exact h2.ones.sublist ((List.eraseIdx_sublist _ _).map _)
end Go.Proofs.Ytbhfpofcebepiaa
