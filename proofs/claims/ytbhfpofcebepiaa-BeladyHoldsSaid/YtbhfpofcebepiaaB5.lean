import Derived.Test.YtbhfpofcebepiaaB4
import Derived.WideLaws
/- The map of the keys' numbers: raw laws of lookup, store and length. -/
namespace Go.Proofs.Ytbhfpofcebepiaa
open Go.RowKit Go.ChangeMaps
/-- The entries: keys in the order in which they came, numbered from k on. -/
def numP : List Nat → Nat → List (Value × Value)
  | [], _ => []
  | d :: D, k => (.int .u32 (d : Nat), .int .i64 (k : Nat)) :: numP D (k + 1)
theorem numP_snoc (x : Nat) : ∀ (D : List Nat) (k : Nat), numP (D ++ [x]) k = numP D k ++ [(.int .u32 (x : Nat), .int .i64 ((k + D.length : Nat) : Int))]
  | [], k => rfl
  | d :: D, k => by
    show _ :: numP (D ++ [x]) (k + 1) = _
    rw [numP_snoc x D (k + 1)]
    show _ = _ :: (numP D (k + 1) ++ _)
    rw [show k + 1 + D.length = k + (d :: D).length by simp; omega]
theorem numP_len : ∀ (D : List Nat) (k : Nat), (numP D k).length = D.length
  | [], _ => rfl
  | d :: D, k => by
    show (numP D (k + 1)).length + 1 = D.length + 1
    rw [numP_len D (k + 1)]
def prs (es : List MapEntry) : List (Value × Value) := es.map fun e => (e.key, e.val)
theorem findU (x : Nat) : ∀ (D : List Nat) (es : List MapEntry) (k i : Nat), prs es = numP D k → Instr.findNow (.int .u32) (.int .u32 (x : Nat)) es i = some (if x ∈ D then some (i + D.idxOf x, .int .i64 ((k + D.idxOf x : Nat) : Int)) else none)
  | [], es, k, i, h => by
    cases es with
    | nil => rfl
    | cons e es => simp [prs, numP] at h
  | d :: D, es, k, i, h => by
    cases es with
    | nil => simp [prs, numP] at h
    | cons e es =>
      simp only [prs, numP, List.map_cons, List.cons.injEq, Prod.mk.injEq] at h
      obtain ⟨⟨h1, h2⟩, h3⟩ := h
      unfold Instr.findNow
      rw [h1]
      by_cases hx : x = d
      · subst hx
        simp [Instr.sameNow, h2]
      · have hb : ((x : Int) == (d : Int)) = false := by rw [beq_eq_false_iff_ne]; omega
        have ih := findU x D es (k + 1) (i + 1) h3
        have hi : (d :: D).idxOf x = D.idxOf x + 1 := by
          rw [List.idxOf_cons]
          have : (d == x) = false := by rw [beq_eq_false_iff_ne]; exact fun e => hx e.symm
          rw [this]; rfl
        simp only [Instr.sameNow, if_pos, hb]
        rw [ih, hi]
        have hm : x ∈ d :: D ↔ x ∈ D := by simp [hx]
        by_cases hmem : x ∈ D
        · rw [if_pos hmem, if_pos (hm.2 hmem)]
          congr 3
          · omega
          · congr 2; omega
        · rw [if_neg hmem, if_neg (fun h => hmem (hm.1 h))]
/-- The map of the keys' numbers. -/
def NumAt (w : World) (B : Nat) (D : List Nat) : Prop := ∃ es clock, w.heap[B]? = some (.map es clock) ∧ prs es.toList = numP D 0
theorem NumAt.ext {w w' : World} {B : Nat} {D : List Nat} (h : NumAt w B D) (hb : Ext w w') : NumAt w' B D := by
  obtain ⟨es, clock, h1, h2⟩ := h
  exact ⟨es, clock, (hb.block B (Array.getElem?_eq_some_iff.1 h1).1).trans h1, h2⟩
theorem chk32 (em : Bool) (a : Int) (w : World) : (Instr.checkKey em 10000 45 (.int .u32 a)).run Try.prog w = .ok () w := by
  have : (Instr.checkKey em (9999 + 1) 45 (.int .u32 a)).run Try.prog w = .ok () w := by
    generalize 9999 = n
    simp [Instr.checkKey, run_underlying Try.underlying45]
  exact this
theorem numFind {es : Array MapEntry} {D : List Nat} (h : prs es.toList = numP D 0) (x : Nat) (w : World) : (Instr.findKey 45 (.int .u32 (x : Nat)) es.toList).run Try.prog w = .ok (if x ∈ D then some (D.idxOf x, .int .i64 ((D.idxOf x : Nat) : Int)) else none) w := by
  have := findU x D es.toList 0 0 h
  rw [Nat.zero_add] at this
  exact MapKept.run_findKey Try.underlying45 this
theorem numLook {w : World} {B : Nat} {D : List Nat} (h : NumAt w B D) (x : Nat) (hx : x ∈ D) : (Instr.lookup 56 (.map (some B)) (.int .u32 (x : Nat)) false).run Try.prog w = .ok (.int .i64 ((D.idxOf x : Nat) : Int)) w := by
  obtain ⟨es, clock, h1, h2⟩ := h
  have h3 := numFind h2 x w
  rw [if_pos hx] at h3
  simp [Instr.lookup, run_underlying Try.underlying56, MapKept.run_getObj_map h1, chk32, h3, Result.andThen, Sem.run_bind]
theorem numLook2 {w : World} {B : Nat} {D : List Nat} (h : NumAt w B D) (x : Nat) : (Instr.lookup 56 (.map (some B)) (.int .u32 (x : Nat)) true).run Try.prog w = .ok (.tuple #[.int .i64 ((if x ∈ D then D.idxOf x else 0 : Nat) : Int), .bool (decide (x ∈ D))]) w := by
  obtain ⟨es, clock, h1, h2⟩ := h
  have h3 := numFind h2 x w
  by_cases hx : x ∈ D
  · rw [if_pos hx] at h3
    simp [Instr.lookup, run_underlying Try.underlying56, MapKept.run_getObj_map h1, chk32, h3, Result.andThen, Sem.run_bind, hx]
  · rw [if_neg hx] at h3
    simp [Instr.lookup, run_underlying Try.underlying56, MapKept.run_getObj_map h1, chk32, h3, Result.andThen, Sem.run_bind, hx, zeroInt]
theorem numPut {w : World} {B : Nat} {D : List Nat} (h : NumAt w B D) (x : Nat) (hx : x ∉ D) : ∃ w', (Instr.mapUpdate 56 (.map (some B)) (.int .u32 (x : Nat)) (.int .i64 ((D.length : Nat) : Int))).run Try.prog w = .ok () w' ∧ NumAt w' B (D ++ [x]) ∧ ∃ o, w' = setBlock w B o := by
  obtain ⟨es, clock, h1, h2⟩ := h
  have h3 := numFind h2 x w
  rw [if_neg hx] at h3
  refine ⟨setBlock w B (.map (es.push { key := .int .u32 (x : Nat), val := .int .i64 ((D.length : Nat) : Int), born := clock }) (clock + 1)), ?_, ?_, _, rfl⟩
  · simp [Instr.mapUpdate, run_underlying Try.underlying56, MapKept.run_getObj_map h1, chk32, h3, MapKept.run_setObj_map _ h1, Result.andThen, setBlock, Sem.run_bind]
  · refine ⟨es.push { key := .int .u32 (x : Nat), val := .int .i64 ((D.length : Nat) : Int), born := clock }, clock + 1, ?_, ?_⟩
    · show (w.heap.setIfInBounds B _)[B]? = _
      rw [Array.getElem?_setIfInBounds_self_of_lt (Array.getElem?_eq_some_iff.1 h1).1]
    · rw [Array.toList_push]
      unfold prs at h2 ⊢
      rw [List.map_append, h2, numP_snoc, Nat.zero_add]
      rfl
theorem numSize {w : World} {B : Nat} {D : List Nat} (h : NumAt w B D) : ∃ es clock, w.heap[B]? = some (.map es clock) ∧ es.size = D.length := by
  obtain ⟨es, clock, h1, h2⟩ := h
  refine ⟨es, clock, h1, ?_⟩
  have := congrArg List.length h2
  rw [numP_len] at this
  simpa [prs] using this
end Go.Proofs.Ytbhfpofcebepiaa
