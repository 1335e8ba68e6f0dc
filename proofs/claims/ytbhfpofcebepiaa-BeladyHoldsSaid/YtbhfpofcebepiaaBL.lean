import Derived.Test.YtbhfpofcebepiaaB14
import Derived.RangeFuncWrites
import Derived.RangeFuncNested
import Derived.RangeFuncBound
import Derived.RangeFuncCalls
import Derived.RangeFuncLeaves
import Derived.Shelf.Abstract
import Derived.Shelf.RegionOpen
import Derived.WalkKit
import Derived.OwnWalkIn
import Derived.TacticsInMore
import Derived.LoopNIn
import Derived.LoopIn
/- A range over slices.Backward: the law for the caller. -/
namespace Go.Proofs.Ytbhfpofcebepiaa
open Go.RowKit Go.Shelf

def OwnP (B : Nat) (p : World → Prop) : Prop := ∀ W W' row, p W → W.grownBy W' row → (∀ r, row = some r → B ≤ r ∧ ∃ o : Obj, W.heap[r]? = some o ∧ o.isCells = false) → p W'
theorem OwnP.putObj {B : Nat} {p : World → Prop} (h : OwnP B p) {W : World} {l : Nat} {o : Obj} (o' : Obj) (hs : p W) (hB : B ≤ l) (hl : W.heap[l]? = some o) (ho : o.isCells = false) : p (W.putObj l o') :=
  h W _ (some l) hs (grownBy_putObj' W l o') (fun r e => by cases e; exact ⟨hB, o, hl, ho⟩)
theorem OwnP.alloc {B : Nat} {p : World → Prop} (h : OwnP B p) {W : World} (o : Obj) (hs : p W) : p (W.alloc o) :=
  h W _ none hs (World.grownBy_alloc W o none) (fun r e => by cases e)
/-- The slice lies in block b, and its elements. -/
def InBack (b : Nat) (a : Option Addr) (c : Nat) (L : List Nat) (W : World) : Prop :=
  W.cell? ⟨b, 0, none⟩ = some (.slice a L.length c) ∧ CellsAt W a (u32L L)
/-- The contract of the iterator. -/
def IterB (F : Fence) (n : Nat) (P : Program) (gf : Nat) (lb : Array Value) (b : Nat) (a : Option Addr) (c : Nat) (L : List Nat) : Prop :=
  ∀ (lp : Nat) (J : Nat → World → Prop) (W : World),
    (∀ t W, J t W → InBack b a c L W) →
    (∀ t W, t < L.length → J (t + 1) W → YieldAt F (n - 1) P lp #[.int .i64 (t : Nat), .int .u32 (keyB L t : Nat)] W fun e W' => e = .returned (.bool true) ∧ J t W') →
    J L.length W →
    CallsIn F n P gf (#[.func (.yield lp) #[] #[]] ++ lb) W fun e W' => (∃ v, e = .returned v) ∧ J 0 W'
/-- How the body may be left. -/
def rbPost (B : Nat) (G : World → Prop) (W : World) : Exit → Act → World → Prop
  | .normal, _, W' => KeepsFrom B W W' ∧ G W'
  | .ret, _, _ => False
  | .exit _, _, _ => False
  | .goto _, _, _ => False
  | .panic _, _, _ => False
  | .outgrown, _, _ => False

theorem range_back {F : Fence} {n : Nat} {P : Program} {g : Operand} {ps : Array Tmp} {assign body : Code} {Q : Exit → Act → World → Prop} {a : Act} {w : World}
    (hro : F.round = none) (h1 : 1 ≤ n) {gf : Nat} {lb : Array Value} (hg : a.eval g = .func (.func gf) #[] lb) (hFg : F.fn gf) (eg : ∀ args w, (callFunc gf args).run P w = .ok (.enter gf args) w)
    {b c : Nat} {aa : Option Addr} {L : List Nat} (hit : IterB F (n - 1) P gf lb b aa c L) (hps : ps.size = 2)
    (I : Nat → World → Prop) (hI : ∀ t, OwnP w.heap.size (I t))
    (hc : ∀ t W, I t W → InBack b aa c L W)
    (h0 : I L.length w) (a₁ : Nat → Act)
    (hassign : ∀ (lp : Nat) (t : Nat) (W : World) (K : Act → World → Prop), K (a₁ t) W →
      assign.wpIn (F.inRound lp) (n - 1 - 1) P (Exit.then K (fun _ _ _ => False)) { tmps := (ps.zip #[.int .i64 (t : Nat), .int .u32 (keyB L t : Nat)]).foldl (fun t (p, v) => t.setIfInBounds p v) a.tmps, defers := [] } W)
    (hbody : ∀ (lp : Nat) (t : Nat) (W : World), t < L.length → I (t + 1) W → body.wpIn (F.inRound lp) (n - 1 - 1) P (rbPost w.heap.size (I t) W) (a₁ t) W)
    (hdone : ∀ (D : Nat) (W : World), w.heap.size ≤ D → I 0 W → W.heap[D]? = some (.deferred (some [])) → Q .normal { a with defers := { target := .collected D, args := #[] } :: a.defers } W) :
    (Code.rangeFunc g ps assign body).wpIn F n P Q a w := by
  have hitl := hit
  refine wpIn_rangeFunc fun fn hfn => ?_
  rw [hro]
  generalize hR : w.heap.size + 1 = R
  let rec0 : LoopState → Option Code → Loop := fun st pe => { state := st, pending := pe, fn, tmps := a.tmps, params := ps, assign, body, defers := w.heap.size }
  let Bk : LoopState → Option Code → World → Prop := fun st pe W => W.heap[R]? = some (.loop (rec0 st pe)) ∧ W.heap[w.heap.size]? = some (.deferred (some []))
  have hw1 : Bk .ready none ((w.alloc (.deferred (some []))).alloc (.loop (rec0 .ready none))) := by
    constructor
    · have h := World.alloc_heap_new (w.alloc (.deferred (some []))) (.loop (rec0 .ready none))
      rw [World.size_alloc, hR] at h
      exact h
    · exact (Below.heap_alloc _ _ _ (by simp)).trans (World.alloc_heap_new w _)
  have turn : ∀ st pe st' pe' W, Bk st pe W → Bk st' pe' (W.putObj R (.loop (rec0 st' pe'))) := fun st pe st' pe' W h =>
    ⟨World.putObj_heap_same (Array.getElem?_eq_some_iff.1 h.1).1, (World.putObj_heap_other (by omega)).trans h.2⟩
  have keep : ∀ st pe W W', Bk st pe W → KeepsFrom w.heap.size W W' → Bk st pe W' := fun st pe W W' h k => ⟨k.same _ _ (by omega) h.1 rfl, k.same _ _ (Nat.le_refl _) h.2 rfl⟩
  refine ⟨R, [{ target := .collected w.heap.size, args := #[] }], ((w.alloc (.deferred (some []))).alloc (.loop (rec0 .ready none))), { target := .fn (.func gf) lb, args := #[.func (.yield R) #[] #[]] }, ((w.alloc (.deferred (some []))).alloc (.loop (rec0 .ready none))), gf, #[.func (.yield R) #[] #[]] ++ lb, ((w.alloc (.deferred (some []))).alloc (.loop (rec0 .ready none))), ?_, ?_, ?_, ?_, fun _ => h1, ?_⟩
  · rw [← hR]; exact run_enterLoop_outer _ _ _ _ _
  · simp only [resolve, hg]
    simp [go_sem]
  · intro f' hf'
    simp [Target.leads] at hf'
    subst hf'
    exact hFg
  · simp [invoke, go_sem, eg]
  refine (hitl R (fun t W => I t W ∧ Bk .ready none W) _ (fun t W h => hc t W h.1) ?_ ⟨(hI L.length).alloc _ ((hI L.length).alloc _ h0), hw1⟩).mono ?_
  · rintro t W ht ⟨hi, hB⟩
    have hy := run_yield (P := P) (args := #[.int .i64 (t : Nat), .int .u32 (keyB L t : Nat)]) hB.1 (by rw [hps]; rfl)
    refine ⟨fn, _, assign, body, hy, roundIn_of_wpIn hfn (hassign R t W _ ⟨_, run_beginRound hB.1 rfl, ?_⟩)⟩
    have hB2 := turn _ _ .busy none W hB
    refine wpIn_mono (hbody R t _ ht ((hI (t + 1)).putObj _ hi (by omega) hB.1 rfl)) ?_
    rintro e a3 W3 hp
    cases e with
    | normal =>
      have hB3 := keep _ _ _ _ hB2 hp.1
      exact ⟨_, _, run_endRound none hB3.1, rfl, (hI _).putObj _ hp.2 (by omega) hB3.1 rfl, turn _ _ .ready none _ hB3⟩
    | ret => exact hp.elim
    | exit id => exact hp.elim
    | goto t => exact hp.elim
    | panic ch => exact hp.elim
    | outgrown => exact hp.elim
  · rintro e W2 ⟨⟨v, rfl⟩, hi, hB⟩
    exact ⟨none, _, run_endLoop hB.1 (fun h => by cases h), hdone _ _ (Nat.le_refl _) ((hI 0).putObj _ hi (by omega) hB.1 rfl) (turn _ _ .exhausted none _ hB).2⟩
end Go.Proofs.Ytbhfpofcebepiaa
