
import Derived.Test.YtcofejbkbcdopaaGreatDoorR29
import Derived.Test.YtcofejbkbcdopaaGreatDoorR30
import Derived.Test.YtcofejbkbcdopaaGreatDoorR32
import Derived.Deep.CutBlock
/- The walk of ReportScores. -/
namespace Go.Proofs.YtcofejbkbcdopaaGreatDoor
open Go.RowKit
def siS (x : Sc) : SI := ⟨x.k, x.size, x.b, x.a⟩
theorem rowsS_si (l : List Sc) : rowsS l = rows SI.cs (l.map siS) := by
  unfold rowsS rows
  rw [List.flatMap_map]
  rfl
theorem allS_snoc (L : List SI) (t : Nat) (h : t < L.length) : allS (L.take (t + 1)) = (allS (L.take t) && (L[t]).ok) := by
  unfold allS
  rw [List.take_succ_eq_append_getElem h, List.all_append]
  simp only [List.all_cons, List.all_nil, Bool.and_true]
theorem i64_one {i : Nat} (h : i ≤ 1000) : IntKind.i64.wrap ((i : Int) + 1) = (i : Int) + 1 := by rw [IntKind.wrap_i64]; omega
theorem ext_data (s : ByteArray) (a b : Nat) : (s.extract a b).data.toList = (s.data.toList.drop a).take (b - a) := by
  rw [ByteArray.data_extract, Array.toList_extract, List.extract_eq_take_drop]
theorem own_cells {w : World} {base : Nat} {e : TypeId} {size n c : Nat} {a : Option Addr} {xs : List Value} (h : w.ownsRow base e size (.slice a n c) n xs) (hn : n ≤ 2000) : CellsAt w a xs := by
  obtain ⟨a', c', h1, _, _, h2⟩ := Sl.owns h (by omega)
  cases h1
  exact h2
theorem same_acc (acc : List Sc) (a b : Option Addr) (c d : Nat) (w : World) (hl : acc.length ≤ 400) (h1 : CellsAt w a (rowsS acc)) (h2 : CellsAt w b (rowsS acc)) : Calls Tryz.prog 13 #[.slice a acc.length c, .slice b acc.length d] w fun e w' => e = .returned (.bool true) ∧ Ext w w' := by
  rw [rowsS_si] at h1 h2
  have := same_any a b c d (acc.map siS) (acc.map siS) true ⟨fun _ => rfl, fun _ => rfl⟩ w (by rw [List.length_map]; omega) (by rw [List.length_map]; omega) h1 h2
  rwa [List.length_map] at this
theorem si_back {x : SI} (h : x.ok = true) : siS x.sc = x := by
  obtain ⟨_, h2, h3, h4, h5⟩ := SI.sc_ok h
  cases x
  simp only [siS, SI.sc] at *
  congr 1 <;> omega
theorem rep_rows {x : SI} (h : x.ok = true) (n : Nat) : rowsS (List.replicate n x.sc) = rows SI.cs (List.replicate n x) := by
  rw [rowsS_si, List.map_replicate, si_back h]
theorem rep_snoc (x : SI) (n : Nat) : rows SI.cs (List.replicate (n + 1) x) = rows SI.cs (List.replicate n x) ++ SI.cs x := by
  unfold rows
  rw [List.replicate_succ', List.flatMap_append]
  simp
theorem allS_head {L : List SI} (h : allS L = true) (h0 : 0 < L.length) : (L[0]).ok = true := by
  unfold allS at h
  rw [List.all_eq_true] at h
  exact h _ (List.getElem_mem h0)
theorem same_rep (x : SI) (h : x.ok = true) (n : Nat) (hn : n ≤ 2000) (a b : Option Addr) (c d : Nat) (w : World) (h1 : CellsAt w a (rowsS (List.replicate n x.sc))) (h2 : CellsAt w b (rows SI.cs (List.replicate n x))) : Calls Tryz.prog 13 #[.slice a n c, .slice b n d] w fun e w' => e = .returned (.bool true) ∧ Ext w w' := by
  rw [rep_rows h] at h1
  have := same_any a b c d (List.replicate n x) (List.replicate n x) true ⟨fun _ => rfl, fun _ => rfl⟩ w (by rw [List.length_replicate]; omega) (by rw [List.length_replicate]; omega) h1 h2
  rwa [List.length_replicate] at this
theorem readrep_any (x : SI) (h : x.ok = true) (n : Nat) (hn : n ≤ 2000) (y : ByteArray) (hy : y.data.toList = txtS (List.replicate n x.sc)) (w : World) (hw : Env w) : Calls Tryz.prog 12 #[.string y] w (RdP (if 1000 < n then ([], 1001, 6) else (List.replicate n x.sc, 0, 0)) w) := by
  have hz : y.size ≤ 73 * n := by
    have := rep_len x.sc (SI.sc_ok h).1 n
    rw [← hy] at this
    exact this
  have := readscores_any y w (by omega) hw
  rw [show y.size = y.data.toList.length from rfl, hy, read_rep x.sc (SI.sc_ok h).1 n] at this
  exact this
end Go.Proofs.YtcofejbkbcdopaaGreatDoor
