import Derived.Test.YtapngkjgagapeaaDoorLib
import Derived.Lib.LaidU8
import Derived.Lib.LaidTab
import Derived.OpenShut
import Derived.Deep.Fields
/- What a listed variable holds, read off the row's list; a struct of one-cell fields that comes in. -/
namespace Go.Proofs.YtapngkjgagapeaaDoor
open Go.RowKit Go.Lib

theorem tab_of_reads {P : Program} {W : World} {name : String} {k : IntKind} {zs : List Int} {g : Nat} {t e : TypeId} {n : Nat}
    (hg : P.globalNamed name = some g) (hty : (P.globals[g]?).map (·.type) = some t) (ht : P.underlying t = some (.array n e)) (he : P.underlying e = some (.int k)) (hce : P.cellsOf e = 1) (hct : P.cellsOf t = n)
    (h : VarReads P W name (tabData k zs)) : TabIs P W name k zs := by
  obtain ⟨g', t', cs, fuel, p, hg', ht', hvar, hd⟩ := h
  obtain rfl := Option.some.inj (hg.symm.trans hg')
  obtain rfl := Option.some.inj (hty.symm.trans ht')
  unfold TabIs
  rw [hvar, ← cells_of_tab ht he hce hct hd]
theorem strs_of_reads {P : Program} {W : World} {name : String} {ls : List (List UInt8)} {g : Nat} {t e : TypeId} {n : Nat}
    (hg : P.globalNamed name = some g) (hty : (P.globals[g]?).map (·.type) = some t) (ht : P.underlying t = some (.array n e)) (he : P.underlying e = some .string) (hce : P.cellsOf e = 1) (hct : P.cellsOf t = n) (hl : ls.length = n)
    (h : VarReads P W name (.agg (ls.map fun l => .lit (.string l)))) : W.var? P name = some (ls.map fun l => Value.string ⟨l.toArray⟩).toArray := by
  obtain ⟨g', t', cs, fuel, p, hg', ht', hvar, hd⟩ := h
  obtain rfl := Option.some.inj (hg.symm.trans hg')
  obtain rfl := Option.some.inj (hty.symm.trans ht')
  rw [hvar]
  have hsz : cs.toList.length = n := by
    cases fuel with
    | zero => simp [DataW.trod] at hd
    | succ fuel =>
      simp only [DataW.trod, ht] at hd
      split at hd
      · rename_i h1; rw [← hct]; simpa using h1
      · cases hd
  congr 1
  apply Array.ext'
  apply List.ext_getElem?
  intro i
  by_cases hi : i < n
  · obtain ⟨fuel', d, q, h1, h2⟩ := array_elem ht hd i hi
    rw [hce, Nat.mul_one] at h2
    obtain ⟨s, hc, hx, _⟩ := DataW.trod_string he h2
    have hcs : cs.toList[i]? = some (.string s) := by
      have := congrArg (·[0]?) hc
      simpa [List.getElem?_take, List.getElem?_drop] using this
    simp only [List.getElem?_map] at h1
    obtain ⟨l, hl1, hl2⟩ := Option.map_eq_some_iff.1 h1
    have hsl : s.data.toList = l := by
      rw [← hl2] at hx
      simpa using (congrArg Prod.fst hx).symm
    rw [hcs]
    simp only [List.getElem?_map, hl1, Option.map_some]
    congr 2
    subst hsl
    apply ByteArray.ext; apply Array.ext'; rfl
  · rw [List.getElem?_eq_none (by omega), List.getElem?_eq_none (by simp; omega)]

theorem open_flat {P : Program} {H : Type} {enc : TypeId × Value → H} {t : TypeId} {fs : Array Field} {base : Nat} {r : Reach} {b0 : Nat} {W : World} {v : Value} {d : DataW H} {p : List MemPlace} {sp : Nat → Bool} {held : Bool}
    (hs : P.underlying t = some (.struct fs)) (hone : Deep.oneCellFields P fs = true) (hC : P.cellsOf t = fs.size)
    (ho : Value.okWide P W r b0 t v) (h : DataW.Trod enc P W base sp held t v d p) :
    ∃ cs : Array Value, v = .agg cs ∧ cs.size = fs.size ∧ ∀ (i : Nat) (f : Field), fs[i]? = some f → ∃ c y n, cs[i]? = some c ∧ DataW.trod enc P W base sp held n f.type [c] = some y := by
  obtain ⟨cs, rfl, hsz⟩ := WideShapes.okWide_struct hs ho
  obtain ⟨fuel, hf⟩ := h
  obtain ⟨xs, n, _, _, hl, hxl, hall⟩ := DataW.trod_struct hs hf
  refine ⟨cs, rfl, hsz.trans hC, fun i f hi => ?_⟩
  have h1 := hall i f hi
  have hif : i < fs.size := (Array.getElem?_eq_some_iff.1 hi).1
  have hk : f.offset = i ∧ P.cellsOf f.type = 1 := by
    unfold Deep.oneCellFields at hone
    have := List.all_eq_true.1 hone i (by simpa using hif)
    simp only [hi, Bool.and_eq_true, beq_iff_eq] at this
    exact this
  rw [hk.1, hk.2] at h1
  obtain ⟨b, hb⟩ : ∃ b, xs[i]? = some b := ⟨xs[i]'(by omega), List.getElem?_eq_getElem (by omega)⟩
  have hic : i < cs.size := by rw [hsz, hC]; exact hif
  have hc : (((Value.agg cs).cells.toList.drop i).take 1) = [cs[i]] := by
    show ((cs.toList.drop i).take 1) = _
    rw [List.drop_eq_getElem_cons (by simpa using hic)]; simp
  rw [hb, hc] at h1
  exact ⟨cs[i], b, n, Array.getElem?_eq_getElem hic, h1⟩
end Go.Proofs.YtapngkjgagapeaaDoor
