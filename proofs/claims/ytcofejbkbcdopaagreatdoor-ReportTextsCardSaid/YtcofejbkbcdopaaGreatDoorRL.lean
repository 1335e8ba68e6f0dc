import Derived.Test.YtcofejbkbcdopaaGreatDoorCUM
import Derived.RangeFuncNested
import Derived.RangeFuncBound
import Derived.RangeFuncCalls
import Derived.RangeFuncLeaves
import Derived.Shelf.Abstract
import Derived.Shelf.RegionOpen
import Derived.WalkKit
import Derived.OwnWalkIn
import Derived.TacticsInMore
import Derived.LoopNIn
import Derived.LoopIn
/- A range over strings.Lines: the iterator keeps the rest of the text in a cell of its own. -/
namespace Go.Proofs.YtcofejbkbcdopaaGreatDoor
open Go.RowKit Go.Shelf

def OwnP (B : Nat) (p : World → Prop) : Prop := ∀ W W' row, p W → W.grownBy W' row → (∀ r, row = some r → B ≤ r ∧ ∃ o : Obj, W.heap[r]? = some o ∧ o.isCells = false) → p W'
theorem OwnP.putObj {B : Nat} {p : World → Prop} (h : OwnP B p) {W : World} {l : Nat} {o : Obj} (o' : Obj) (hs : p W) (hB : B ≤ l) (hl : W.heap[l]? = some o) (ho : o.isCells = false) : p (W.putObj l o') :=
  h W _ (some l) hs (grownBy_putObj' W l o') (fun r e => by cases e; exact ⟨hB, o, hl, ho⟩)
theorem OwnP.alloc {B : Nat} {p : World → Prop} (h : OwnP B p) {W : World} (o : Obj) (hs : p W) : p (W.alloc o) :=
  h W _ none hs (World.grownBy_alloc W o none) (fun r e => by cases e)
/-- The rest of the string lies in block b. -/
def InCell (b : Nat) (i : Nat) (l : List UInt8) (W : World) : Prop :=
  W.cell? ⟨b, 0, none⟩ = some (.string ⟨l.toArray⟩) ∧ W.frozen? ⟨b, 0, none⟩ = false ∧ i + l.length ≤ 1000000
/-- The first line of a text, and the rest. -/
def lnA (l : List UInt8) : List UInt8 := if cF 10 l then cA 10 l ++ [10] else l
def lnZ (l : List UInt8) : List UInt8 := if cF 10 l then cZ 10 l else []
/-- The contract of the iterator. -/
def IterN (F : Fence) (n : Nat) (P : Program) (gf : Nat) (lb : Array Value) (b : Nat) (l0 : List UInt8) : Prop :=
  ∀ (lp : Nat) (J J1 : List UInt8 → World → Prop) (Jx : World → Prop) (W : World),
    (∀ l W, J l W → InCell b 0 l W) →
    (∀ l W, J l W → l ≠ [] → J1 l (W.setCell ⟨b, 0, none⟩ (.string ⟨(lnZ l).toArray⟩)).drew ∧ J1 l (W.setCell ⟨b, 0, none⟩ (.string ⟨(lnZ l).toArray⟩))) →
    (∀ l W, J1 l W → YieldAt F (n - 1) P lp #[.string ⟨(lnA l).toArray⟩] W fun e W' => (e = .returned (.bool true) ∧ J (lnZ l) W') ∨ (e = .returned (.bool false) ∧ Jx W')) →
    J l0 W →
    CallsIn F n P gf (#[.func (.yield lp) #[] #[]] ++ lb) W fun e W' => (∃ v, e = .returned v) ∧ (J [] W' ∨ Jx W')
/-- How the body may be left. -/
def rcPost (G : World → Prop) (Ix : World → Prop) (W : World) : Exit → Act → World → Prop
  | .normal, _, W' => KeepsOthers W W' ∧ G W'
  | .ret, _, W' => KeepsOthers W W' ∧ Ix W'
  | .exit _, _, _ => False
  | .goto _, _, _ => False
  | .panic _, _, _ => False
  | .outgrown, _, _ => False

theorem range_line {F : Fence} {n : Nat} {P : Program} {g : Operand} {ps : Array Tmp} {assign body : Code} {Q : Exit → Act → World → Prop} {a : Act} {w : World}
    (hro : F.round = none) (h1 : 1 ≤ n) {gf : Nat} {lb : Array Value} (hg : a.eval g = .func (.func gf) #[] lb) (hFg : F.fn gf) (eg : ∀ args w, (callFunc gf args).run P w = .ok (.enter gf args) w)
    {b : Nat} {l0 : List UInt8} (hit : IterN F (n - 1) P gf lb b l0) (hps : ps.size = 1)
    (I I1 : List UInt8 → World → Prop) (Ix : World → Prop) (hI : ∀ l, OwnP w.heap.size (I l)) (hI1 : ∀ l, OwnP w.heap.size (I1 l)) (hIx : OwnP w.heap.size Ix)
    (hc : ∀ l W, I l W → InCell b 0 l W)
    (hput : ∀ l W, I l W → l ≠ [] → I1 l (W.setCell ⟨b, 0, none⟩ (.string ⟨(lnZ l).toArray⟩)))
    (hdrew : ∀ l W, I1 l W → I1 l W.drew)
    (h0 : I l0 w) (a₁ : List UInt8 → Act)
    (hassign : ∀ (lp : Nat) (l : List UInt8) (W : World) (K : Act → World → Prop), K (a₁ l) W →
      assign.wpIn (F.inRound lp) (n - 1 - 1) P (Exit.then K (fun _ _ _ => False)) { tmps := (ps.zip #[.string ⟨(lnA l).toArray⟩]).foldl (fun t (p, v) => t.setIfInBounds p v) a.tmps, defers := [] } W)
    (hbody : ∀ (lp : Nat) (l : List UInt8) (W : World), I1 l W → body.wpIn (F.inRound lp) (n - 1 - 1) P (rcPost (I (lnZ l)) Ix W) (a₁ l) W)
    (hdone : ∀ (D : Nat) (W : World), w.heap.size ≤ D → I [] W → W.heap[D]? = some (.deferred (some [])) → Q .normal { a with defers := { target := .collected D, args := #[] } :: a.defers } W)
    (hstop : ∀ (D : Nat) (W : World), w.heap.size ≤ D → Ix W → W.heap[D]? = some (.deferred (some [])) → Code.ret.wpIn F n P Q { a with defers := { target := .collected D, args := #[] } :: a.defers } W) :
    (Code.rangeFunc g ps assign body).wpIn F n P Q a w := by
  have hitl := hit
  refine wpIn_rangeFunc fun fn hfn => ?_
  rw [hro]
  generalize hR : w.heap.size + 1 = R
  let rec0 : LoopState → Option Code → Loop := fun st pe => { state := st, pending := pe, fn, tmps := a.tmps, params := ps, assign, body, defers := w.heap.size }
  let Bk : LoopState → Option Code → World → Prop := fun st pe W => W.heap[R]? = some (.loop (rec0 st pe)) ∧ W.heap[w.heap.size]? = some (.deferred (some []))
  have hw1 : Bk .ready none ((w.alloc (.deferred (some []))).alloc (.loop (rec0 .ready none))) := by
    constructor
    · have h := World.alloc_heap_new (w.alloc (.deferred (some []))) (.loop (rec0 .ready none))
      rw [World.size_alloc, hR] at h
      exact h
    · exact (Below.heap_alloc _ _ _ (by simp)).trans (World.alloc_heap_new w _)
  have turn : ∀ st pe st' pe' W, Bk st pe W → Bk st' pe' (W.putObj R (.loop (rec0 st' pe'))) := fun st pe st' pe' W h =>
    ⟨World.putObj_heap_same (Array.getElem?_eq_some_iff.1 h.1).1, (World.putObj_heap_other (by omega)).trans h.2⟩
  have keep : ∀ st pe W W', Bk st pe W → KeepsOthers W W' → Bk st pe W' := fun st pe W W' h k => ⟨k.same _ _ h.1 rfl, k.same _ _ h.2 rfl⟩
  have dr : ∀ st pe W, Bk st pe W → Bk st pe W.drew := fun st pe W h => h
  refine ⟨R, [{ target := .collected w.heap.size, args := #[] }], ((w.alloc (.deferred (some []))).alloc (.loop (rec0 .ready none))), { target := .fn (.func gf) lb, args := #[.func (.yield R) #[] #[]] }, ((w.alloc (.deferred (some []))).alloc (.loop (rec0 .ready none))), gf, #[.func (.yield R) #[] #[]] ++ lb, ((w.alloc (.deferred (some []))).alloc (.loop (rec0 .ready none))), ?_, ?_, ?_, ?_, fun _ => h1, ?_⟩
  · rw [← hR]; exact run_enterLoop_outer _ _ _ _ _
  · simp only [resolve, hg]
    simp [go_sem]
  · intro f' hf'
    simp [Target.leads] at hf'
    subst hf'
    exact hFg
  · simp [invoke, go_sem, eg]
  refine (hitl R (fun l W => I l W ∧ Bk .ready none W) (fun l W => I1 l W ∧ Bk .ready none W) (fun W => Ix W ∧ Bk .done (some .ret) W) _
    (fun l W h => hc l W h.1)
    (fun l W h hne => ⟨⟨hdrew l _ (hput l W h.1 hne), dr _ _ _ (keep _ _ _ _ h.2 (KeepsOthers.setCell _ _ _))⟩, ⟨hput l W h.1 hne, keep _ _ _ _ h.2 (KeepsOthers.setCell _ _ _)⟩⟩) ?_
    ⟨(hI l0).alloc _ ((hI l0).alloc _ h0), hw1⟩).mono ?_
  · rintro l W ⟨hi, hB⟩
    have hy := run_yield (P := P) (args := #[.string ⟨(lnA l).toArray⟩]) hB.1 (by rw [hps]; rfl)
    refine ⟨fn, _, assign, body, hy, roundIn_of_wpIn hfn (hassign R l W _ ⟨_, run_beginRound hB.1 rfl, ?_⟩)⟩
    have hB2 := turn _ _ .busy none W hB
    refine wpIn_mono (hbody R l _ ((hI1 l).putObj _ hi (by omega) hB.1 rfl)) ?_
    rintro e a3 W3 hp
    cases e with
    | normal =>
      have hB3 := keep _ _ _ _ hB2 hp.1
      exact ⟨_, _, run_endRound none hB3.1, .inl ⟨rfl, (hI _).putObj _ hp.2 (by omega) hB3.1 rfl, turn _ _ .ready none _ hB3⟩⟩
    | ret =>
      have hB3 := keep _ _ _ _ hB2 hp.1
      exact ⟨_, _, run_endRound (some .ret) hB3.1, .inr ⟨rfl, hIx.putObj _ hp.2 (by omega) hB3.1 rfl, turn _ _ .done (some .ret) _ hB3⟩⟩
    | exit id => exact hp.elim
    | goto t => exact hp.elim
    | panic ch => exact hp.elim
    | outgrown => exact hp.elim
  · rintro e W2 ⟨⟨v, rfl⟩, (⟨hi, hB⟩ | ⟨hi, hB⟩)⟩
    · exact ⟨none, _, run_endLoop hB.1 (fun h => by cases h), hdone _ _ (Nat.le_refl _) ((hI []).putObj _ hi (by omega) hB.1 rfl) (turn _ _ .exhausted none _ hB).2⟩
    · exact ⟨some .ret, _, run_endLoop hB.1 (fun h => by cases h), hstop _ _ (Nat.le_refl _) (hIx.putObj _ hi (by omega) hB.1 rfl) (turn _ _ .exhausted (some .ret) _ hB).2⟩
end Go.Proofs.YtcofejbkbcdopaaGreatDoor
