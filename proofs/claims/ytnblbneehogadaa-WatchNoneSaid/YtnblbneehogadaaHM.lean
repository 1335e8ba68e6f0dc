import Derived.Test.YtnblbneehogadaaHX
import Derived.Test.YtnblbneehogadaaWP2
/- Watchers and hubs in memory, and what they stand for; what stays when one of them changes. -/
namespace Go.Proofs.Ytnblbneehogadaa
open Go.RowKit Go.ChangeMaps
abbrev CoreT := Int × ByteArray × List UInt8 × Nat × Nat × Nat
def fitsB (pre : ByteArray) (ks : List Int) (s : ByteArray) (k : Int) : Bool := pre.data.toList.isPrefixOf s.data.toList && (decide (ks = []) || decide (k ∈ ks))
/-- What a watcher stands for. -/
structure WMd where
  pre : ByteArray
  ks : List Int
  room : Nat
  old : Bool
  st : WtB CoreT
def WMd.fit (x : WMd) (v : CoreT) : Bool := fitsB x.pre x.ks v.2.1 v.1
def WMd.put (x : WMd) (v : CoreT) : WMd := { x with st := x.st.put x.room x.old v }
def WMd.pub (x : WMd) (v : CoreT) : WMd := if x.fit v then x.put v else x
def WMd.got (x : WMd) (v : CoreT) : Bool := x.fit v && x.st.took x.room x.old
def WMd.pubs (x : WMd) (l : List CoreT) : WMd := l.foldl WMd.pub x
def WMd.gots : WMd → List CoreT → Nat
  | _, [] => 0
  | x, v :: l => (x.got v).toNat + WMd.gots (x.pub v) l
theorem WMd.pubs_snoc (x : WMd) (l : List CoreT) (v : CoreT) : x.pubs (l ++ [v]) = (x.pubs l).pub v := by
  unfold WMd.pubs
  rw [List.foldl_append]
  rfl
theorem WMd.gots_snoc (l : List CoreT) (v : CoreT) : ∀ x : WMd, x.gots (l ++ [v]) = x.gots l + ((x.pubs l).got v).toNat := by
  induction l with
  | nil =>
    intro x
    show (x.got v).toNat + 0 = 0 + (x.got v).toNat
    omega
  | cons a l ih =>
    intro x
    show (x.got a).toNat + (x.pub a).gots (l ++ [v]) = _
    rw [ih]
    show _ = (x.got a).toNat + (x.pub a).gots l + (((x.pub a).pubs l).got v).toNat
    omega
theorem WMd.gots_le (l : List CoreT) : ∀ x : WMd, x.gots l ≤ l.length := by
  induction l with
  | nil => intro x; exact Nat.le_refl _
  | cons a l ih =>
    intro x
    show (x.got a).toNat + (x.pub a).gots l ≤ l.length + 1
    have h1 := ih (x.pub a)
    have h2 : (x.got a).toNat ≤ 1 := by cases x.got a <;> decide
    omega
theorem WMd.pub_lost (x : WMd) (v : CoreT) : (x.pub v).st.lost ≤ x.st.lost + 1 := by
  unfold WMd.pub WMd.put WtB.put
  (repeat' split) <;> simp
theorem WMd.pubs_lost (l : List CoreT) : ∀ x : WMd, (x.pubs l).st.lost ≤ x.st.lost + l.length := by
  induction l with
  | nil => intro x; exact Nat.le_refl _
  | cons a l ih =>
    intro x
    have h1 := ih (x.pub a)
    have h2 := x.pub_lost a
    show ((x.pub a).pubs l).st.lost ≤ x.st.lost + (l.length + 1)
    omega
theorem WMd.pub_st (x : WMd) (v : CoreT) : (x.pub v).pre = x.pre ∧ (x.pub v).ks = x.ks ∧ (x.pub v).room = x.room ∧ (x.pub v).old = x.old := by
  unfold WMd.pub WMd.put
  split <;> exact ⟨rfl, rfl, rfl, rfl⟩
theorem WMd.pubs_st (l : List CoreT) : ∀ x : WMd, (x.pubs l).pre = x.pre ∧ (x.pubs l).ks = x.ks ∧ (x.pubs l).room = x.room ∧ (x.pubs l).old = x.old := by
  induction l with
  | nil => intro x; exact ⟨rfl, rfl, rfl, rfl⟩
  | cons a l ih =>
    intro x
    obtain ⟨h1, h2, h3, h4⟩ := ih (x.pub a)
    obtain ⟨g1, g2, g3, g4⟩ := x.pub_st a
    exact ⟨h1.trans g1, h2.trans g2, h3.trans g3, h4.trans g4⟩
/-- The event that is none. -/
def zX : EvX := ⟨0, ⟨#[]⟩, .slice none 0 0, [], 0, 0, 0⟩
/-- A watcher in memory. -/
structure WtX where
  B : Nat
  pre : ByteArray
  kv : Value
  ks : List Int
  room : Nat
  old : Bool
  rv : Value
  R : List EvX
  f : Nat
  m : Nat
  lost : Nat
def WtX.wait (x : WtX) : List CoreT := (ringW x.R zX x.f x.m).map EvX.core
def WtX.md (x : WtX) : WMd := ⟨x.pre, x.ks, x.room, x.old, ⟨x.wait, x.lost⟩⟩
def vbs (R : List EvX) : List Nat := R.filterMap (·.u.ownBlock)
/-- The blocks of a watcher that change. -/
def WtX.fp (x : WtX) : List Nat := x.B :: (x.rv.ownBlock.toList ++ vbs x.R)
def wtC (x : WtX) : Array Value := #[.string x.pre, x.kv, .int .i64 (x.room : Nat), .bool x.old, x.rv, .int .i64 (x.f : Nat), .int .i64 (x.m : Nat), .int .i64 (x.lost : Nat)]
def KRow (base : Nat) (w : World) (v : Value) (ks : List Int) : Prop := w.ownsRow base 25 1 v ks.length (ks.map (Value.int .i64))
structure WOk (base : Nat) (w : World) (x : WtX) : Prop where
  hd : w.heap[x.B]? = some (.cells (wtC x) 76 (0, 0))
  low : base ≤ x.B
  row : w.ownsRow base 30 6 x.rv x.R.length (xs x.R)
  own : ∀ s ∈ x.R, s.In ∧ OwnB base w s.u s.l
  kin : KRow base w x.kv x.ks
  kle : x.ks.length ≤ 5
  room1 : 1 ≤ x.room
  room2 : x.room ≤ 1000
  fit : x.R.length ≤ x.room
  mle : x.m ≤ x.R.length
  fl : x.f < x.R.length ∨ (x.R = [] ∧ x.f = 0)
  nd : x.fp.Nodup
theorem ownsRow_of {w w' : World} {base : Nat} {e : TypeId} {size : Nat} {v : Value} {n : Nat} {xs : List Value} (h : w.ownsRow base e size v n xs) (hb : ∀ g, v.ownBlock = some g → w'.heap[g]? = w.heap[g]?) : w'.ownsRow base e size v n xs := by
  refine ⟨h.1, ?_⟩
  rcases h.2 with h2 | ⟨g, cap, cur, rfl, hb1, hg, r⟩
  · exact Or.inl h2
  · exact Or.inr ⟨g, cap, cur, rfl, hb1, (hb g rfl).trans hg, r⟩
theorem vbs_mem {R : List EvX} {b : Nat} : b ∈ vbs R ↔ ∃ s ∈ R, s.u.ownBlock = some b := by
  unfold vbs
  rw [List.mem_filterMap]
theorem fp_mem {x : WtX} {b : Nat} : b ∈ x.fp ↔ b = x.B ∨ x.rv.ownBlock = some b ∨ ∃ s ∈ x.R, s.u.ownBlock = some b := by
  unfold WtX.fp
  rw [List.mem_cons, List.mem_append, vbs_mem, Option.mem_toList]
/-- The types of the blocks that change. -/
def tH (U : TypeId) : Prop := U = 76 ∨ U = 30 ∨ U = 5
theorem tH_k : ¬ tH 25 := by unfold tH; decide
theorem tH_h : ¬ tH 36 := by unfold tH; decide
section
variable {base : Nat} {w w' : World} {x : WtX}
theorem WOk.frame (h : WOk base w x) (hb : ∀ b ∈ x.fp, w'.heap[b]? = w.heap[b]?) (hk : ∀ g, x.kv.ownBlock = some g → w'.heap[g]? = w.heap[g]?) : WOk base w' x :=
  ⟨(hb _ (fp_mem.2 (Or.inl rfl))).trans h.hd, h.low, ownsRow_of h.row (fun g hg => hb g (fp_mem.2 (Or.inr (Or.inl hg)))), fun s hs => ⟨(h.own s hs).1, ownsRow_of (h.own s hs).2 (fun g hg => hb g (fp_mem.2 (Or.inr (Or.inr ⟨s, hs, hg⟩))))⟩, ownsRow_of h.kin hk, h.kle, h.room1, h.room2, h.fit, h.mle, h.fl, h.nd⟩
theorem WOk.types (h : WOk base w x) {b : Nat} (hb : b ∈ x.fp) : base ≤ b ∧ b < w.heap.size ∧ ∃ cs U, w.heap[b]? = some (.cells cs U (0, 0)) ∧ tH U := by
  rcases fp_mem.1 hb with rfl | hg | ⟨s, hs, hg⟩
  · exact ⟨h.low, blk_lt h.hd, _, _, h.hd, Or.inl rfl⟩
  · obtain ⟨cs, h1⟩ := row_block h.row b hg
    exact ⟨(h.row.lt b hg).1, blk_lt h1, _, _, h1, Or.inr (Or.inl rfl)⟩
  · have ho := (h.own s hs).2
    obtain ⟨cs, h1⟩ := row_block ho b hg
    exact ⟨(World.ownsRow.lt ho b hg).1, blk_lt h1, _, _, h1, Or.inr (Or.inr rfl)⟩
theorem WOk.kblk (h : WOk base w x) {g : Nat} (hg : x.kv.ownBlock = some g) : base ≤ g ∧ g < w.heap.size ∧ ∃ cs, w.heap[g]? = some (.cells cs 25 (0, 0)) := by
  obtain ⟨cs, h1⟩ := row_block h.kin g hg
  exact ⟨(World.ownsRow.lt h.kin g hg).1, blk_lt h1, cs, h1⟩
theorem WOk.ext (h : WOk base w x) (hb : Ext w w') : WOk base w' x :=
  h.frame (fun b hm => hb.block b (h.types hm).2.1) (fun g hg => hb.block g (h.kblk hg).2.1)
theorem WOk.keep (h : WOk base w x) (hk : Keep tH w w') : ∀ g, x.kv.ownBlock = some g → w'.heap[g]? = w.heap[g]? := fun g hg => by
  obtain ⟨_, _, cs, h1⟩ := h.kblk hg
  exact (hk.same h1 tH_k).trans h1.symm
end
/-- The entries of the map. -/
def ent (p : Int × WtX) : Int × Value := (p.1, .pointer (some ⟨p.2.B, 0, none⟩))
def cI (p : Int × Value) : Value × Value := (.int .i64 p.1, p.2)
def prs (es : List MapEntry) : List (Value × Value) := es.map fun e => (e.key, e.val)
structure MMap (es : List MapEntry) (M : List (Int × Value)) (clock : Nat) : Prop where
  pairs : prs es = M.map cI
  born : ∀ e ∈ es, e.born < clock
  ones : (es.map (·.born)).Nodup
def MAt (w : World) (B : Nat) (M : List (Int × Value)) : Prop := ∃ es clock, w.heap[B]? = some (.map es clock) ∧ MMap es.toList M clock
theorem MAt.of {w w' : World} {B : Nat} {M : List (Int × Value)} (h : MAt w B M) (e : w'.heap[B]? = w.heap[B]?) : MAt w' B M := by
  obtain ⟨es, clock, h1, h2⟩ := h
  exact ⟨es, clock, e.trans h1, h2⟩
def fpL (L : List (Int × WtX)) : List Nat := L.flatMap fun p => p.2.fp
/-- A hub in memory. -/
structure HubOk (base : Nat) (w : World) (H : Nat) (mo : Option Nat) (L : List (Int × WtX)) : Prop where
  hd : w.heap[H]? = some (.cells #[.map mo] 36 (0, 0))
  low : base ≤ H
  mp : (mo = none ∧ L = []) ∨ ∃ mb, mo = some mb ∧ base ≤ mb ∧ MAt w mb (L.map ent)
  ids : (L.map (·.1)).Nodup
  oks : ∀ p ∈ L, WOk base w p.2
  nd : (fpL L).Nodup
theorem fpL_mem {L : List (Int × WtX)} {b : Nat} : b ∈ fpL L ↔ ∃ p ∈ L, b ∈ p.2.fp := by
  unfold fpL
  rw [List.mem_flatMap]
theorem nodup_swap {α : Type} {A X Y C : List α} (h : (A ++ X ++ C).Nodup) (hY : Y.Nodup) (h2 : ∀ y ∈ Y, y ∈ X ∨ (y ∉ A ∧ y ∉ C)) : (A ++ Y ++ C).Nodup := by
  rw [List.nodup_append] at h ⊢
  obtain ⟨h1, h3, h4⟩ := h
  rw [List.nodup_append] at h1
  obtain ⟨g1, g2, g3⟩ := h1
  refine ⟨List.nodup_append.2 ⟨g1, hY, fun a ha b hb e => ?_⟩, h3, fun a ha b hb e => ?_⟩
  · subst e
    rcases h2 _ hb with h | h
    · exact g3 _ ha _ h rfl
    · exact h.1 ha
  · subst e
    rcases List.mem_append.1 ha with ha | ha
    · exact h4 _ (List.mem_append_left _ ha) _ hb rfl
    · rcases h2 _ ha with h | h
      · exact h4 _ (List.mem_append_right _ h) _ hb rfl
      · exact h.2 hb
section
variable {base : Nat} {w w' : World} {H : Nat} {mo : Option Nat} {L : List (Int × WtX)}
theorem HubOk.types (h : HubOk base w H mo L) {b : Nat} (hb : b ∈ fpL L) : base ≤ b ∧ b < w.heap.size ∧ ∃ cs U, w.heap[b]? = some (.cells cs U (0, 0)) ∧ tH U := by
  obtain ⟨p, hp, hb⟩ := fpL_mem.1 hb
  exact (h.oks p hp).types hb
theorem HubOk.frame (h : HubOk base w H mo L) (h1 : w'.heap[H]? = w.heap[H]?) (h2 : ∀ mb, mo = some mb → w'.heap[mb]? = w.heap[mb]?) (h3 : ∀ p ∈ L, WOk base w' p.2) : HubOk base w' H mo L :=
  ⟨h1.trans h.hd, h.low, by
    rcases h.mp with h0 | ⟨mb, e, h4, h5⟩
    · exact Or.inl h0
    · exact Or.inr ⟨mb, e, h4, h5.of (h2 mb e)⟩, h.ids, h3, h.nd⟩
theorem HubOk.ext (h : HubOk base w H mo L) (hb : Ext w w') : HubOk base w' H mo L :=
  h.frame (hb.block _ (blk_lt h.hd)) (fun mb e => by
    rcases h.mp with ⟨h0, _⟩ | ⟨mb', e', _, es, cl, h5, _⟩
    · rw [h0] at e; cases e
    · rw [e'] at e; cases e
      exact hb.block _ (blk_lt h5)) (fun p hp => (h.oks p hp).ext hb)
/-- Blocks change that are none of the hub's. -/
theorem HubOk.apart (h : HubOk base w H mo L) {X : Nat → Prop} (hM : Mut X w w') (hX : ∀ j, X j → j ∉ fpL L ∧ ∃ cs U, w.heap[j]? = some (.cells cs U (0, 0)) ∧ tH U) : HubOk base w' H mo L := by
  have hk : Keep tH w w' := Keep.of_mut hM fun j hj => (hX j hj).2
  refine h.frame ((hk.same h.hd tH_h).trans h.hd.symm) (fun mb e => ?_) (fun p hp => ?_)
  · rcases h.mp with ⟨h0, _⟩ | ⟨mb', e', _, es, cl, h5, _⟩
    · rw [h0] at e; cases e
    · rw [e'] at e; cases e
      refine hM.other _ (blk_lt h5) (fun hx => ?_)
      obtain ⟨_, cs, U, h6, _⟩ := hX _ hx
      rw [h5] at h6; cases h6
  · refine (h.oks p hp).frame (fun b hb => hM.other b ((h.oks p hp).types hb).2.1 (fun hx => (hX b hx).1 (fpL_mem.2 ⟨p, hp, hb⟩))) ((h.oks p hp).keep hk)
/-- One watcher changes. -/
theorem HubOk.upd {A C : List (Int × WtX)} {id : Int} {x x' : WtX} (h : HubOk base w H mo (A ++ (id, x) :: C)) (hM : Mut (fun j => j ∈ x.fp) w w') (hx : WOk base w' x') (hB : x'.B = x.B) (hf : ∀ b ∈ x'.fp, b ∈ x.fp ∨ w.heap.size ≤ b) : HubOk base w' H mo (A ++ (id, x') :: C) := by
  have hx0 := h.oks (id, x) (by simp)
  have hk : Keep tH w w' := Keep.of_mut hM fun j hj => (hx0.types hj).2.2
  have hnd := h.nd
  have e1 : ∀ y : WtX, fpL (A ++ (id, y) :: C) = fpL A ++ y.fp ++ fpL C := fun y => by
    unfold fpL
    rw [List.flatMap_append, List.flatMap_cons, List.append_assoc]
  rw [e1] at hnd
  have hdis : ∀ p ∈ A ++ C, ∀ b ∈ p.2.fp, b ∉ x.fp := fun p hp b hb hbx => by
    rw [List.nodup_append] at hnd
    obtain ⟨h1, h3, h4⟩ := hnd
    rw [List.nodup_append] at h1
    rcases List.mem_append.1 hp with hp | hp
    · exact h1.2.2 b (fpL_mem.2 ⟨p, hp, hb⟩) b hbx rfl
    · exact h4 b (List.mem_append_right _ hbx) b (fpL_mem.2 ⟨p, hp, hb⟩) rfl
  refine ⟨(hk.same h.hd tH_h), h.low, ?_, ?_, fun p hp => ?_, ?_⟩
  · rcases h.mp with ⟨_, h0⟩ | ⟨mb', e', h4, es, cl, h5, h6⟩
    · simp at h0
    · refine Or.inr ⟨mb', e', h4, es, cl, (hM.other _ (blk_lt h5) (fun hx => ?_)).trans h5, ?_⟩
      · obtain ⟨_, _, cs, U, h6, _⟩ := hx0.types hx
        rw [h5] at h6; cases h6
      · have : (A ++ (id, x') :: C).map ent = (A ++ (id, x) :: C).map ent := by
          simp [ent, hB]
        rw [this]
        exact h6
  · have := h.ids
    simpa using this
  · rcases List.mem_append.1 hp with hp | hp
    · have ho := h.oks p (by simp [hp])
      exact ho.frame (fun b hb => hM.other b (ho.types hb).2.1 (hdis p (List.mem_append_left _ hp) b hb)) (ho.keep hk)
    · rcases List.mem_cons.1 hp with rfl | hp
      · exact hx
      · have ho := h.oks p (by simp [hp])
        exact ho.frame (fun b hb => hM.other b (ho.types hb).2.1 (hdis p (List.mem_append_right _ hp) b hb)) (ho.keep hk)
  · rw [e1]
    refine nodup_swap hnd hx.nd fun y hy => ?_
    rcases hf y hy with h1 | h1
    · exact Or.inl h1
    · refine Or.inr ⟨fun hm => ?_, fun hm => ?_⟩
      · obtain ⟨p, hp, hb⟩ := fpL_mem.1 hm
        have := ((h.oks p (by simp [hp])).types hb).2.1
        omega
      · obtain ⟨p, hp, hb⟩ := fpL_mem.1 hm
        have := ((h.oks p (by simp [hp])).types hb).2.1
        omega
end
end Go.Proofs.Ytnblbneehogadaa
