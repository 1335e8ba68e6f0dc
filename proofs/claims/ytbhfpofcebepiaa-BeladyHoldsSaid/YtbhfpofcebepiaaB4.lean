import Derived.Test.YtbhfpofcebepiaaB3
import Derived.WideKeyRuns
import Derived.ChangeMaps4
import Derived.MapKept
/- The memo: a map whose keys are structs of an index and bits: raw laws of lookup and store. -/
namespace Go.Proofs.Ytbhfpofcebepiaa
open Go.RowKit Go.ChangeMaps
theorem st_struct : Try.prog.underlying 79 = some (.struct (Try.prog.fieldsOf 79)) ∧ Try.prog.stoodInHeld 79 = false ∧ Try.prog.eqGuardType Try.prog.depth 79 = false := ⟨by kernel_rfl, by kernel_rfl, by kernel_rfl⟩
theorem eqSt0 (k : Nat) (a s a' s' : Int) (w : World) : (Op.equalIn (k + 3) 79 (.agg #[.int .i64 a, .int .u16 s]) (.agg #[.int .i64 a', .int .u16 s'])).run Try.prog w = .ok (a == a' && s == s') w := by
  rw [run_equalIn_agg w (k + 2) 79 _ _ st_struct.1 st_struct.2.1]
  simp only [Program.fieldsOf, Try.underlying79]
  go_simp
  by_cases h : a = a' <;> by_cases g : s = s' <;> simp [h, g]
theorem eqSt (a s a' s' : Int) (w : World) : (Op.equal 79 (.agg #[.int .i64 a, .int .u16 s]) (.agg #[.int .i64 a', .int .u16 s'])).run Try.prog w = .ok (a == a' && s == s') w := eqSt0 9997 a s a' s' w
theorem chkI (em : Bool) (n : Nat) (a : Int) (w : World) : (Instr.checkKey em (n + 1) 3 (.int .i64 a)).run Try.prog w = .ok () w := by
  simp [Instr.checkKey, run_underlying Try.underlying3]
theorem chkU (em : Bool) (n : Nat) (a : Int) (w : World) : (Instr.checkKey em (n + 1) 77 (.int .u16 a)).run Try.prog w = .ok () w := by
  simp [Instr.checkKey, run_underlying Try.underlying77]
theorem chkSt (em : Bool) (a s : Int) (w : World) : (Instr.checkKey em 10000 79 (.agg #[.int .i64 a, .int .u16 s])).run Try.prog w = .ok () w := by
  unfold Instr.checkKey
  simp only [Program.fieldsOf, Try.underlying79]
  go_simp
  have e1 : (Instr.checkKey em 9999 3 (.int .i64 a)).run Try.prog w = .ok () w := chkI em 9998 a w
  have e2 : (Instr.checkKey em 9999 77 (.int .u16 s)).run Try.prog w = .ok () w := chkU em 9998 s w
  rw [e1]
  exact e2
/-- All keys are structs of that kind. -/
def KeysSt (es : List MapEntry) : Prop := ∀ e ∈ es, ∃ a s : Int, e.key = (.agg #[.int .i64 a, .int .u16 s])
theorem findSt (a s : Int) (w : World) : ∀ (es : List MapEntry) (i : Nat), KeysSt es → ∃ r, (Instr.findAsking 79 (.agg #[.int .i64 a, .int .u16 s]) es i).run Try.prog w = .ok r w ∧ (match r with | none => ∀ e ∈ es, e.key ≠ (.agg #[.int .i64 a, .int .u16 s]) | some (j, v) => i ≤ j ∧ ∃ e, es[j - i]? = some e ∧ e.key = (.agg #[.int .i64 a, .int .u16 s]) ∧ v = e.val)
  | [], i, _ => ⟨none, rfl, fun e he => (by cases he)⟩
  | e :: es, i, h => by
    obtain ⟨a', s', hk⟩ := h e (by simp)
    have heq := eqSt a s a' s' w
    unfold Instr.findAsking
    by_cases hs : a = a' ∧ s = s'
    · obtain ⟨rfl, rfl⟩ := hs
      refine ⟨some (i, e.val), ?_, Nat.le_refl _, e, by simp, hk, rfl⟩
      rw [hk]
      simp [Sem.run_bind, heq]
    · obtain ⟨r, h1, h2⟩ := findSt a s w es (i + 1) (fun x hx => h x (by simp [hx]))
      have hb : (a == a' && s == s') = false := by
        simp only [Bool.and_eq_false_iff, beq_eq_false_iff_ne]
        by_cases ha : a = a'
        · right; exact fun e => hs ⟨ha, e⟩
        · exact Or.inl ha
      rw [hb] at heq
      refine ⟨r, ?_, ?_⟩
      · rw [hk]
        simp [Sem.run_bind, heq, h1]
      · have hne : e.key ≠ (.agg #[.int .i64 a, .int .u16 s]) := fun e1 => by
          rw [hk] at e1
          simp only [Value.agg.injEq] at e1
          have e2 := congrArg (·.toList) e1
          simp at e2
          exact hs ⟨e2.1.symm, e2.2.symm⟩
        cases r with
        | none =>
          intro x hx
          rcases List.mem_cons.1 hx with rfl | hx
          · exact hne
          · exact h2 x hx
        | some p =>
          obtain ⟨j, v⟩ := p
          obtain ⟨h3, e', h4, h5, h6⟩ := h2
          refine ⟨by omega, e', ?_, h5, h6⟩
          rw [show j - i = (j - (i + 1)) + 1 by omega, List.getElem?_cons_succ]
          exact h4
theorem st_wide : (match Try.prog.underlying 79 with | some (.array _ _) | some (.struct _) => true | _ => false) = true := by rw [st_struct.1]
theorem zeroInt (w : World) : (zeroValue 3).run Try.prog w = .ok (.int .i64 0) w := by kernel_rfl
/-- A lookup in the memo. -/
theorem lookSt {w : World} {B : Nat} {es : Array MapEntry} {clock : Nat} (hB : w.heap[B]? = some (.map es clock)) (hk : KeysSt es.toList) (a s : Int) :
    ∃ v ok, (Instr.lookup 75 (.map (some B)) (.agg #[.int .i64 a, .int .u16 s]) true).run Try.prog w = .ok (.tuple #[v, .bool ok]) w ∧ (ok = true → ∃ e ∈ es.toList, e.key = (.agg #[.int .i64 a, .int .u16 s]) ∧ v = e.val) ∧ (ok = false → v = .int .i64 0 ∧ ∀ e ∈ es.toList, e.key ≠ (.agg #[.int .i64 a, .int .u16 s])) := by
  obtain ⟨r, h1, h2⟩ := findSt a s w es.toList 0 hk
  rw [← run_findKey_eq w st_wide] at h1
  have hm := Try.underlying75
  cases r with
  | none =>
    refine ⟨.int .i64 0, false, ?_, fun h => (by cases h), fun _ => ⟨rfl, h2⟩⟩
    simp [Instr.lookup, run_underlying hm, MapKept.run_getObj_map hB, chkSt, h1, zeroInt, Result.andThen, Sem.run_bind]
  | some p =>
    obtain ⟨j, v⟩ := p
    obtain ⟨_, e, h4, h5, h6⟩ := h2
    refine ⟨v, true, ?_, fun _ => ⟨e, List.mem_of_getElem? h4, h5, h6⟩, fun h => (by cases h)⟩
    simp [Instr.lookup, run_underlying hm, MapKept.run_getObj_map hB, chkSt, h1, Result.andThen, Sem.run_bind]
theorem staySt (a s : Int) (w : World) : (Instr.keyThatStays (.agg #[.int .i64 a, .int .u16 s]) (.agg #[.int .i64 a, .int .u16 s])).run Try.prog w = .ok (.agg #[.int .i64 a, .int .u16 s]) w := by
  unfold Instr.keyThatStays
  rw [if_pos (by simp [Instr.sameBits])]
  rfl
/-- A store into the memo. -/
theorem putSt {w : World} {B : Nat} {es : Array MapEntry} {clock : Nat} (hB : w.heap[B]? = some (.map es clock)) (hk : KeysSt es.toList) (a s : Int) (v : Value) :
    ∃ es' clock', (Instr.mapUpdate 75 (.map (some B)) (.agg #[.int .i64 a, .int .u16 s]) v).run Try.prog w = .ok () (setBlock w B (.map es' clock')) ∧ KeysSt es'.toList ∧ ∀ e ∈ es'.toList, (e.key = (.agg #[.int .i64 a, .int .u16 s]) ∧ e.val = v) ∨ ∃ e0 ∈ es.toList, e0.key = e.key ∧ e0.val = e.val := by
  obtain ⟨r, h1, h2⟩ := findSt a s w es.toList 0 hk
  rw [← run_findKey_eq w st_wide] at h1
  have hm := Try.underlying75
  cases r with
  | none =>
    refine ⟨es.push { key := (.agg #[.int .i64 a, .int .u16 s]), val := v, born := clock }, clock + 1, ?_, ?_, ?_⟩
    · simp [Instr.mapUpdate, run_underlying hm, MapKept.run_getObj_map hB, chkSt, h1, MapKept.run_setObj_map _ hB, Result.andThen, setBlock, Sem.run_bind]
    · intro e he
      rw [Array.toList_push, List.mem_append] at he
      rcases he with he | he
      · exact hk e he
      · simp at he
        exact ⟨a, s, by rw [he]⟩
    · intro e he
      rw [Array.toList_push, List.mem_append] at he
      rcases he with he | he
      · exact Or.inr ⟨e, he, rfl, rfl⟩
      · simp at he
        exact Or.inl ⟨by rw [he], by rw [he]⟩
  | some p =>
    obtain ⟨j, v0⟩ := p
    obtain ⟨_, e, h4, h5, h6⟩ := h2
    rw [Nat.sub_zero] at h4
    have hj : es[j]? = some e := by simpa using h4
    have hkey : ((es[j]?).map (·.key)).getD (.agg #[.int .i64 a, .int .u16 s]) = (.agg #[.int .i64 a, .int .u16 s]) := by rw [hj]; exact h5
    have hmem : ∀ x ∈ (es.modify j fun e => { e with key := (.agg #[.int .i64 a, .int .u16 s]), val := v }).toList, (x.key = (.agg #[.int .i64 a, .int .u16 s]) ∧ x.val = v) ∨ x ∈ es.toList := by
      intro x hx
      obtain ⟨q, hq, rfl⟩ := List.getElem_of_mem hx
      rw [Array.getElem_toList, Array.getElem_modify]
      split
      · exact Or.inl ⟨rfl, rfl⟩
      · right
        exact Array.getElem_mem_toList _
    refine ⟨es.modify j fun e => { e with key := (.agg #[.int .i64 a, .int .u16 s]), val := v }, clock, ?_, ?_, ?_⟩
    · simp [Instr.mapUpdate, run_underlying hm, MapKept.run_getObj_map hB, chkSt, h1, hj, h5, staySt, MapKept.run_setObj_map _ hB, Result.andThen, setBlock, Sem.run_bind]
    · intro x hx
      rcases hmem x hx with ⟨h7, _⟩ | h7
      · exact ⟨a, s, h7⟩
      · exact hk x h7
    · intro x hx
      rcases hmem x hx with h7 | h7
      · exact Or.inl h7
      · exact Or.inr ⟨x, h7, rfl, rfl⟩
end Go.Proofs.Ytbhfpofcebepiaa
