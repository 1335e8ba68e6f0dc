import Derived.Test.YtnblbneehogadaaH6
/- Plain laws of a round over all watchers. -/
namespace Go.Proofs.Ytnblbneehogadaa
open Go.RowKit Go.ChangeMaps
def absL (L : List (Int × WtX)) : List (Int × WMd) := L.map fun p => (p.1, p.2.md)
def midA (es : List MapEntry) (seen : Array Nat) (A : List (Int × WMd)) (c : CoreT) : List (Int × WMd) := (A.zip es).map fun q => if seen.contains q.2.born then (q.1.1, q.1.2.pub c) else q.1
def cntA (es : List MapEntry) (seen : Array Nat) (A : List (Int × WMd)) (c : CoreT) : Nat := ((A.zip es).map fun q => if seen.contains q.2.born then (q.1.2.got c).toNat else 0).sum
def pubA (A : List (Int × WMd)) (c : CoreT) : List (Int × WMd) := A.map fun p => (p.1, p.2.pub c)
def gotA (A : List (Int × WMd)) (c : CoreT) : Nat := (A.map fun p => (p.2.got c).toNat).sum
theorem midA_nil (es : List MapEntry) (A : List (Int × WMd)) (c : CoreT) (hl : A.length = es.length) : midA es #[] A c = A := by
  unfold midA
  have : ∀ q : (Int × WMd) × MapEntry, (if (#[] : Array Nat).contains q.2.born then (q.1.1, q.1.2.pub c) else q.1) = q.1 := fun q => by simp
  simp only [this]
  exact List.map_fst_zip (by omega)
theorem cntA_nil (es : List MapEntry) (A : List (Int × WMd)) (c : CoreT) : cntA es #[] A c = 0 := by
  unfold cntA
  have : ∀ q : (Int × WMd) × MapEntry, (if (#[] : Array Nat).contains q.2.born then (q.1.2.got c).toNat else 0) = 0 := fun q => by simp
  simp only [this]
  induction A.zip es with
  | nil => rfl
  | cons a l ih => simpa using ih
theorem contains_push' (seen : Array Nat) (a b : Nat) : (seen.push a).contains b = (seen.contains b || b == a) := by
  rw [Array.contains_push]
theorem zip_at {α β : Type} (A : List α) (B : List β) (j : Nat) (hA : j < A.length) (hB : j < B.length) : (A.zip B)[j]? = some (A[j], B[j]) := by
  rw [List.getElem?_eq_getElem (by rw [List.length_zip]; omega), List.getElem_zip]
theorem born_inj {es : List MapEntry} (h : (es.map (·.born)).Nodup) {i j : Nat} (hi : i < es.length) (hj : j < es.length) (e : es[i].born = es[j].born) : i = j := by
  have hp := List.pairwise_iff_getElem.1 h
  rcases Nat.lt_trichotomy i j with h1 | h1 | h1
  · exact absurd (by rw [List.getElem_map, List.getElem_map]; exact e) (hp i j (by simpa using hi) (by simpa using hj) h1)
  · exact h1
  · exact absurd (by rw [List.getElem_map, List.getElem_map]; exact e.symm) (hp j i (by simpa using hj) (by simpa using hi) h1)
theorem sum_set (l : List Nat) (j v : Nat) (hj : j < l.length) : (l.set j v).sum + l[j] = l.sum + v := by
  induction l generalizing j with
  | nil => simp at hj
  | cons a l ih =>
    cases j with
    | zero => simp; omega
    | succ j =>
      have := ih j (by simpa using hj)
      simp only [List.set_cons_succ, List.sum_cons, List.getElem_cons_succ]
      omega
section
variable {es : List MapEntry} {seen : Array Nat} {A : List (Int × WMd)} {c : CoreT} {j : Nat}
theorem map_step {γ : Type} (f g : (Int × WMd) × MapEntry → γ) (hl : A.length = es.length) (hn : (es.map (·.born)).Nodup) (hj : j < es.length) :
    ((A.zip es).map fun q => if (seen.push es[j].born).contains q.2.born then f q else g q) = ((A.zip es).map fun q => if seen.contains q.2.born then f q else g q).set j (f (A[j]'(by omega), es[j])) := by
  have hlt : j < ((A.zip es).map fun q => if seen.contains q.2.born then f q else g q).length := by rw [List.length_map, List.length_zip]; omega
  apply List.ext_getElem?
  intro i
  by_cases e : j = i
  · subst e
    rw [List.getElem?_set_self hlt, List.getElem?_map, zip_at A es j (by omega) hj, Option.map_some, contains_push', if_pos (by simp)]
  · rw [List.getElem?_set_ne e, List.getElem?_map, List.getElem?_map]
    by_cases hi : i < es.length
    · have hne : (es[i].born == es[j].born) = false := by
        rw [beq_eq_false_iff_ne]
        exact fun h => e (born_inj hn hi hj h).symm
      rw [zip_at A es i (by omega) hi, Option.map_some, Option.map_some, contains_push', hne, Bool.or_false]
    · have h0 : (A.zip es)[i]? = none := List.getElem?_eq_none (by rw [List.length_zip]; omega)
      rw [h0]; rfl
theorem midA_push (hl : A.length = es.length) (hn : (es.map (·.born)).Nodup) (hj : j < es.length) :
    midA es (seen.push es[j].born) A c = (midA es seen A c).set j ((A[j]'(by omega)).1, (A[j]'(by omega)).2.pub c) :=
  map_step (fun q => (q.1.1, q.1.2.pub c)) (fun q => q.1) hl hn hj
theorem midA_at (hl : A.length = es.length) (hj : j < es.length) (hs : seen.contains es[j].born = false) : (midA es seen A c)[j]? = some (A[j]'(by omega)) := by
  unfold midA
  rw [List.getElem?_map, zip_at A es j (by omega) hj, Option.map_some, hs]
  rfl
theorem cntA_push (hl : A.length = es.length) (hn : (es.map (·.born)).Nodup) (hj : j < es.length) (hs : seen.contains es[j].born = false) :
    cntA es (seen.push es[j].born) A c = cntA es seen A c + ((A[j]'(by omega)).2.got c).toNat := by
  have h1 := map_step (A := A) (es := es) (seen := seen) (j := j) (fun q => (q.1.2.got c).toNat) (fun _ => 0) hl hn hj
  unfold cntA
  rw [h1]
  have hlen : j < ((A.zip es).map fun q => if seen.contains q.2.born then (q.1.2.got c).toNat else 0).length := by rw [List.length_map, List.length_zip]; omega
  have h2 := sum_set _ j ((A[j]'(by omega)).2.got c).toNat hlen
  have h3 : ((A.zip es).map fun q => if seen.contains q.2.born then (q.1.2.got c).toNat else 0)[j] = 0 := by
    rw [List.getElem_map]
    have : (A.zip es)[j]'(by rw [List.length_zip]; omega) = (A[j]'(by omega), es[j]) := List.getElem_zip
    rw [this]
    simp only [hs]
    rfl
  rw [h3] at h2
  omega
theorem midA_all (hl : A.length = es.length) (h : ∀ e ∈ es, seen.contains e.born = true) : midA es seen A c = pubA A c ∧ cntA es seen A c = gotA A c := by
  have hz : ∀ q ∈ A.zip es, seen.contains q.2.born = true := fun q hq => h _ (List.of_mem_zip (show (q.1, q.2) ∈ A.zip es from hq)).2
  have hf : (A.zip es).map Prod.fst = A := List.map_fst_zip (by omega)
  constructor
  · unfold midA pubA
    conv => rhs; rw [← hf, List.map_map]
    exact List.map_congr_left fun q hq => by rw [hz q hq]; rfl
  · unfold cntA gotA
    conv => rhs; rw [← hf, List.map_map]
    congr 1
    exact List.map_congr_left fun q hq => by rw [hz q hq]; rfl
end
theorem run_next_nil {P : Program} (w : World) (ty : TypeId) (r a b : Nat) (s : Array Nat) (hr : w.heap[r]? = some (.mapIter none a s b)) : (Instr.next (.pointer (some ⟨r, 0, none⟩)) false ty).run P w = .ok (.tuple #[.bool false]) w := by
  simp only [Instr.next, getObj, Sem.run_bind, Sem.run, hr, Result.andThen]
  rfl
/-- What a map's iterator does. -/
def MpIn (w : World) (mo : Option Nat) (es : Array MapEntry) (cl : Nat) (L : List (Int × WtX)) : Prop := (mo = none ∧ es = #[] ∧ L = []) ∨ ∃ mb, mo = some mb ∧ w.heap[mb]? = some (.map es cl) ∧ MMap es.toList (L.map ent) cl
theorem next_in {P : Program} {w : World} {mo : Option Nat} {es : Array MapEntry} {cl it : Nat} {L : List (Int × WtX)} {seen : Array Nat} (ty : TypeId) (h : MpIn w mo es cl L) (hr : w.heap[it]? = some (.mapIter mo cl seen cl)) :
    ((leftOf es seen).size = 0 ∧ (Instr.next (.pointer (some ⟨it, 0, none⟩)) false ty).run P w = .ok (.tuple #[.bool false]) w) ∨
    ∃ mb, mo = some mb ∧ w.heap[mb]? = some (.map es cl) ∧ MMap es.toList (L.map ent) cl ∧ ∃ e ∈ (leftOf es seen).toList, ∃ w1 : World, (w1 = w ∨ w1 = w.drew) ∧ (Instr.next (.pointer (some ⟨it, 0, none⟩)) false ty).run P w = .ok (.tuple #[.bool true, e.key, e.val]) (setBlock w1 it (.mapIter (some mb) cl (seen.push e.born) cl)) := by
  rcases h with ⟨rfl, rfl, _⟩ | ⟨mb, rfl, hb, hm⟩
  · refine Or.inl ⟨by simp [leftOf], run_next_nil w ty it _ _ _ hr⟩
  · rcases run_next_at (P := P) w ty it mb cl cl seen es cl hr hb hm.born (Nat.le_refl _) with h1 | ⟨e, he, w1, h2, h3⟩
    · exact Or.inl h1
    · exact Or.inr ⟨mb, rfl, hb, hm, e, he, w1, h2, h3⟩
theorem range_in {P : Program} {w : World} {base H : Nat} {mo : Option Nat} {L : List (Int × WtX)} {t k e : TypeId} (h : HubOk base w H mo L) (ht : P.underlying t = some (.map k e)) : ∃ es cl, MpIn w mo es cl L ∧ (Instr.range t (.map mo)).run P w = .ok (.pointer (some ⟨w.heap.size, 0, none⟩)) (w.alloc (.mapIter mo cl #[] cl)) := by
  rcases h.mp with ⟨rfl, rfl⟩ | ⟨mb, rfl, _, es, cl, h1, h2⟩
  · exact ⟨#[], 0, Or.inl ⟨rfl, rfl, rfl⟩, run_range_nilMap w t k e ht⟩
  · exact ⟨es, cl, Or.inr ⟨mb, rfl, h1, h2⟩, run_range_map w t k e mb es cl ht h1⟩
theorem MpIn.len {w : World} {mo : Option Nat} {es : Array MapEntry} {cl : Nat} {L : List (Int × WtX)} (h : MpIn w mo es cl L) : L.length = es.toList.length ∧ (es.toList.map (·.born)).Nodup := by
  rcases h with ⟨_, rfl, rfl⟩ | ⟨mb, _, _, hm⟩
  · exact ⟨rfl, List.nodup_nil⟩
  · refine ⟨?_, hm.ones⟩
    have := congrArg List.length hm.pairs
    simpa [prs] using this.symm
theorem mem_left {es : Array MapEntry} {seen : Array Nat} {e : MapEntry} (h : e ∈ (leftOf es seen).toList) : e ∈ es.toList ∧ seen.contains e.born = false := by
  unfold leftOf at h
  simp only [Array.toList_filter, List.mem_filter] at h
  exact ⟨h.1, by simpa using h.2⟩
theorem left_none {es : Array MapEntry} {seen : Array Nat} (h : (leftOf es seen).size = 0) : ∀ e ∈ es.toList, seen.contains e.born = true := fun e he => by
  cases hc : seen.contains e.born with
  | true => rfl
  | false =>
    have : e ∈ leftOf es seen := by
      unfold leftOf
      rw [Array.mem_filter]
      exact ⟨Array.mem_toList_iff.1 he, by rw [hc]; rfl⟩
    have hp := Array.size_pos_of_mem this
    omega
theorem ent_at {es : List MapEntry} {L : List (Int × WtX)} {cl : Nat} (h : MMap es (L.map ent) cl) {j : Nat} (hj : j < es.length) (hl : j < L.length) : es[j].key = .int .i64 L[j].1 ∧ es[j].val = .pointer (some ⟨L[j].2.B, 0, none⟩) := by
  have h1 := congrArg (fun l => l[j]?) h.pairs
  simp only [prs, List.getElem?_map, List.getElem?_eq_getElem hj, List.getElem?_eq_getElem hl, Option.map_some, Option.some.injEq, ent, cI, Prod.mk.injEq] at h1
  exact h1
end Go.Proofs.Ytnblbneehogadaa
