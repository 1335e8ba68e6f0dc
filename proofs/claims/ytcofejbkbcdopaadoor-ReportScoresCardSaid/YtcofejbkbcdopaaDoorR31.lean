import Derived.Test.YtcofejbkbcdopaaDoorR29
import Derived.Test.YtcofejbkbcdopaaDoorR30
import Derived.Test.YtcofejbkbcdopaaDoorR32
import Derived.Deep.CutBlock
/- The walk of ReportScores. -/
namespace Go.Proofs.YtcofejbkbcdopaaDoor
open Go.RowKit
def siS (x : Sc) : SI := ⟨x.k, x.size, x.b, x.a⟩
theorem rowsS_si (l : List Sc) : rowsS l = rows SI.cs (l.map siS) := by
  unfold rowsS rows
  rw [List.flatMap_map]
  rfl
theorem allS_snoc (L : List SI) (t : Nat) (h : t < L.length) : allS (L.take (t + 1)) = (allS (L.take t) && (L[t]).ok) := by
  unfold allS
  rw [List.take_succ_eq_append_getElem h, List.all_append]
  simp only [List.all_cons, List.all_nil, Bool.and_true]
theorem sll_ok (x : SI) (h : x.ok = true) (w : World) : Calls Tryd.prog 12 #[.agg #[.int .i64 x.k, .int .i64 x.s, .int .i64 x.b, .int .i64 x.a]] w fun e w' => e = .returned (.tuple #[.string ⟨x.sc.line.toArray⟩, .bool true]) ∧ Ext w w' := by
  obtain ⟨h1, h2, h3, h4, h5⟩ := SI.sc_ok h
  have := lline_ok x.sc h1 w
  rw [← h2, ← h3, ← h4, ← h5] at this
  exact this
theorem sll_bad (x : SI) (h : x.ok = false) (w : World) : Calls Tryd.prog 12 #[.agg #[.int .i64 x.k, .int .i64 x.s, .int .i64 x.b, .int .i64 x.a]] w fun e w' => e = .returned (.tuple #[.string ⟨#[]⟩, .bool false]) ∧ Ext w w' :=
  lline_bad x.k x.s x.b x.a h w
theorem i64_one {i : Nat} (h : i ≤ 1000) : IntKind.i64.wrap ((i : Int) + 1) = (i : Int) + 1 := by rw [IntKind.wrap_i64]; omega
theorem ext_data (s : ByteArray) (a b : Nat) : (s.extract a b).data.toList = (s.data.toList.drop a).take (b - a) := by
  rw [ByteArray.data_extract, Array.toList_extract, List.extract_eq_take_drop]
theorem own_cells {w : World} {base : Nat} {e : TypeId} {size n c : Nat} {a : Option Addr} {xs : List Value} (h : w.ownsRow base e size (.slice a n c) n xs) (hn : n ≤ 2000) : CellsAt w a xs := by
  obtain ⟨a', c', h1, _, _, h2⟩ := Sl.owns h (by omega)
  cases h1
  exact h2
theorem same_acc (acc : List Sc) (a b : Option Addr) (c d : Nat) (w : World) (hl : acc.length ≤ 400) (h1 : CellsAt w a (rowsS acc)) (h2 : CellsAt w b (rowsS acc)) : Calls Tryd.prog 16 #[.slice a acc.length c, .slice b acc.length d] w fun e w' => e = .returned (.bool true) ∧ Ext w w' := by
  rw [rowsS_si] at h1 h2
  have := same_any a b c d (acc.map siS) (acc.map siS) true ⟨fun _ => rfl, fun _ => rfl⟩ w (by rw [List.length_map]; omega) (by rw [List.length_map]; omega) h1 h2
  rwa [List.length_map] at this
theorem si_back {x : SI} (h : x.ok = true) : siS x.sc = x := by
  obtain ⟨_, h2, h3, h4, h5⟩ := SI.sc_ok h
  cases x
  simp only [siS, SI.sc] at *
  congr 1 <;> omega
theorem rep_rows {x : SI} (h : x.ok = true) (n : Nat) : rowsS (List.replicate n x.sc) = rows SI.cs (List.replicate n x) := by
  rw [rowsS_si, List.map_replicate, si_back h]
theorem rep_snoc (x : SI) (n : Nat) : rows SI.cs (List.replicate (n + 1) x) = rows SI.cs (List.replicate n x) ++ SI.cs x := by
  unfold rows
  rw [List.replicate_succ', List.flatMap_append]
  simp
theorem allS_head {L : List SI} (h : allS L = true) (h0 : 0 < L.length) : (L[0]).ok = true := by
  unfold allS at h
  rw [List.all_eq_true] at h
  exact h _ (List.getElem_mem h0)
theorem same_rep (x : SI) (h : x.ok = true) (n : Nat) (hn : n ≤ 2000) (a b : Option Addr) (c d : Nat) (w : World) (h1 : CellsAt w a (rowsS (List.replicate n x.sc))) (h2 : CellsAt w b (rows SI.cs (List.replicate n x))) : Calls Tryd.prog 16 #[.slice a n c, .slice b n d] w fun e w' => e = .returned (.bool true) ∧ Ext w w' := by
  rw [rep_rows h] at h1
  have := same_any a b c d (List.replicate n x) (List.replicate n x) true ⟨fun _ => rfl, fun _ => rfl⟩ w (by rw [List.length_replicate]; omega) (by rw [List.length_replicate]; omega) h1 h2
  rwa [List.length_replicate] at this
theorem readrep_any (x : SI) (h : x.ok = true) (n : Nat) (hn : n ≤ 2000) (y : ByteArray) (hy : y.data.toList = txtS (List.replicate n x.sc)) (w : World) (hw : Env w) : Calls Tryd.prog 15 #[.string y] w (RdP (if 1000 < n then ([], 1001, 6) else (List.replicate n x.sc, 0, 0)) w) := by
  have hz : y.size ≤ 73 * n := by
    have := rep_len x.sc (SI.sc_ok h).1 n
    rw [← hy] at this
    exact this
  have := readscores_any y w (by omega) hw
  rw [show y.size = y.data.toList.length from rfl, hy, read_rep x.sc (SI.sc_ok h).1 n] at this
  exact this
set_option maxRecDepth 100000 in
set_option maxHeartbeats 40000000 in
theorem scores_main (a : Option Addr) (c : Nat) (L : List SI) (s : ByteArray) (many : Int) (W : World) (hn : L.length ≤ 20) (hs : s.size ≤ 400) (hC : CellsAt W a (rows SI.cs L)) (ht : EnvV W) :
    Calls Tryd.prog 4 #[.slice a L.length c, .string s, .int .i64 many] W fun e W' => e = .returned (.bool true) ∧ Below W.heap.size W W' := by
  have HC := Box.mk hC
  have cO : Box _ := ⟨sll_ok⟩
  have cB : Box _ := ⟨sll_bad⟩
  have cL : Box _ := ⟨lread_any⟩
  have ck : Box (∀ w', Ext W w' → _) := ⟨fun w' h => known_any w' (ht.ext h)⟩
  have cR : Box (∀ w', Ext W w' → Calls Tryd.prog 15 #[.string s] w' (RdP (rdS [] (linesL s.size s.data.toList)) w')) := ⟨fun w' h => readscores_any s w' (by omega) (ht.ext h).env⟩
  have cS : Box (∀ w', Ext W w' → Calls Tryd.prog 13 #[.slice a L.length c] w' (ScsP L w')) := ⟨fun w' h => scores_any a c L w' (by omega) (hC.ext h) (ht.ext h).env.tabs⟩
  have hEnv : Box (∀ w', Ext W w' → EnvV w') := ⟨fun w' h => ht.ext h⟩
  have d1 : decide ((20 : Int) < (L.length : Int)) = false := decide_eq_false (by omega)
  have d2 : decide (20 < L.length) = false := decide_eq_false (by omega)
  have d3 : decide ((400 : Int) < (s.size : Int)) = false := decide_eq_false (by omega)
  have d4 : decide (400 < s.size) = false := decide_eq_false (by omega)
  have hE0 : Box (Ext W W) := ⟨Below.refl _ _⟩
  have hm : Box (decide (many < 995) = true ∨ (decide (many < 995) = false ∧ decide (1005 < many) = true) ∨ (decide (many < 995) = false ∧ decide (1005 < many) = false)) := ⟨by
    by_cases h : many < 995
    · exact Or.inl (decide_eq_true h)
    · by_cases h2 : 1005 < many
      · exact Or.inr (Or.inl ⟨decide_eq_false h, decide_eq_true h2⟩)
      · exact Or.inr (Or.inr ⟨decide_eq_false h, decide_eq_false h2⟩)⟩
  obtain ⟨i0, hi, hz0, hz1, hz2⟩ := info_parts infoScore
  generalize hnn : L.length = nn at *
  have HN := Box.mk hnn
  clear hnn hC ht
  go_enter Tryd.func4, Tryd.ntmps4
  go_wp2
  go_loopw [7, 8, 9, 10, 11] (fun yv fv iv _ _ wr => ∃ t : Nat, t ≤ nn ∧ iv = .int .i64 t ∧ ∃ y : ByteArray, yv = .string y ∧ y.size ≤ 73 * t ∧ fv = .bool (allS (L.take t)) ∧ Box (allS (L.take t) = true → y.data.toList = txtS (scs (L.take t))) ∧ Box (Ext W wr)) (fun _ _ iv _ _ _ => nn - (intOf iv).toNat)
  case atStart => exact ⟨0, by omega, rfl, ⟨#[]⟩, rfl, by decide, rfl, ⟨fun _ => rfl⟩, hE0⟩
  case round =>
    clear hE0
    obtain ⟨t, ht, rfl, y, rfl, hys, rfl, hy, hE⟩ := hrel
    by_cases hkn : t < nn
    · as_aux_lemma =>
      have hkL : t < L.length := by rw [HN.out]; exact hkn
      have hn0 : (0 : Int) ≤ (t : Int) := by omega
      have hn1 : (t : Int) < (nn : Int) := by omega
      have hn2 : decide ((t : Int) < (nn : Int)) = true := decide_eq_true hn1
      have hn3 : decide (t < nn) = true := decide_eq_true hkn
      obtain ⟨b1, o1, rfl, r1⟩ := rows_row SI.cs 4 (fun _ => rfl) (by decide) (CellsAt.ext hE.out HC.out) t hkL
      have m0 : wr.cell? ⟨b1, o1 + t * 4, none⟩ = _ := r1 0 _ rfl
      have m1 := r1 1 _ rfl
      have m2 := r1 2 _ rfl
      have m3 := r1 3 _ rfl
      clear r1
      have hsn := Box.mk (allS_snoc L t hkL)
      have htx := Box.mk (scs_snoc L t hkL)
      have hll : (L[t]).ok = true → _ := fun hz => line_len (L[t]).sc (SI.sc_ok (x := L[t]) hz).1
      generalize L[t] = x at *
      generalize hfa : allS (L.take t) = fa at *
      cases hxo : x.ok with
      | true => as_aux_lemma =>
        have c1 := Box.mk (cO.out x hxo)
        have hyl : (⟨x.sc.line.toArray⟩ : ByteArray).size ≤ 73 := hll hxo
        have hy2 : Box (allS (L.take (t + 1)) = true → (y ++ ⟨x.sc.line.toArray⟩).data.toList = txtS (scs (L.take (t + 1)))) := ⟨fun h => by
          rw [hsn.out, hxo, Bool.and_true] at h
          rw [htx.out, ← hy.out h]
          simp [ByteArray.data_append]⟩
        have hf2 : Box (Value.bool fa = Value.bool (allS (L.take (t + 1)))) := ⟨by rw [hsn.out, hxo, Bool.and_true]⟩
        clear hll htx hsn hxo
        generalize (⟨x.sc.line.toArray⟩ : ByteArray) = yl at *
        have g1 : ¬ 9223372036854775807 < y.size + yl.size := by omega
        have hsz : (y ++ yl).size ≤ 73 * (t + 1) := by rw [ByteArray.size_append]; omega
        cases fa
        all_goals
          go_wp2_with (go_at_call 12; (with_reducible refine (c1.out _).mono ?_); rintro e w1 ⟨rfl, hb⟩; replace hE := Box.mk (Ext.trans' hE.out hb))
          go_roundw
          case rel => exact ⟨t + 1, by omega, by go_num, _, rfl, hsz, hf2.out, hy2, hE⟩
          case measure => simp [intOf]; omega
      | false => as_aux_lemma =>
        have c1 := Box.mk (cB.out x hxo)
        have hy2 : Box (allS (L.take (t + 1)) = true → (y ++ ⟨#[]⟩).data.toList = txtS (scs (L.take (t + 1)))) := ⟨fun h => by
          rw [hsn.out, hxo, Bool.and_false] at h
          cases h⟩
        have hf2 : Box (Value.bool false = Value.bool (allS (L.take (t + 1)))) := ⟨by rw [hsn.out, hxo, Bool.and_false]⟩
        clear hll htx hsn hxo
        have g1 : ¬ 9223372036854775807 < y.size := by omega
        have hsz : (y ++ ⟨#[]⟩).size ≤ 73 * (t + 1) := by rw [ByteArray.size_append]; show y.size + 0 ≤ _; omega
        cases fa
        all_goals
          go_wp2_with (go_at_call 12; (with_reducible refine (c1.out _).mono ?_); rintro e w1 ⟨rfl, hb⟩; replace hE := Box.mk (Ext.trans' hE.out hb))
          go_roundw
          case rel => exact ⟨t + 1, by omega, by go_num, _, rfl, hsz, hf2.out, hy2, hE⟩
          case measure => simp [intOf]; omega
    · obtain rfl : t = nn := by omega
      have e1 : decide ((t : Int) < (t : Int)) = false := decide_eq_false (by omega)
      have e2 : decide (t < t) = false := decide_eq_false (by omega)
      have hFull : L.take t = L := List.take_of_length_le (by rw [HN.out]; exact Nat.le_refl _)
      rw [hFull] at hy ⊢
      clear hFull
      go_upto_region 9 with (fail)
      go_cut [8, 12, 13] from 58 to 62 (fun s8 s12 s13 wx => s8 = .bool (allS L) ∧ Box (Ext W wx) ∧ Box ((allS L = true ∧ s12 = .string y ∧ s13 = .int .i64 0) ∨ (allS L = false ∧ s12 = .string ⟨#[]⟩ ∧ s13 = .int .i64 2)))
      case first => as_aux_lemma =>
        cases hfa : allS L with
        | true => as_aux_lemma =>
          have hy' : y = ⟨(txtS (scs L)).toArray⟩ := str_ext (by rw [hy.out hfa])
          have cS1 : Box (∀ w', Ext W w' → Calls Tryd.prog 13 #[.slice a t c] w' fun e w'' => e = .returned (.tuple #[.string y, .int .i64 0]) ∧ Ext w' w'') := ⟨fun w' h => (cS.out w' h).mono fun e w'' hp => by
            unfold ScsP at hp
            rw [if_neg (by rw [HN.out]; omega), hfa, if_pos rfl, ← hy'] at hp
            exact hp⟩
          clear hy'
          go_wp2_with (go_at_call 13; (with_reducible refine (cS1.out _ hE.out).mono ?_); rintro e w1 ⟨rfl, hb⟩; replace hE := Box.mk (Ext.trans' hE.out hb); clear hb)
          go_meet
          exact ⟨by rw [hfa], hE, ⟨Or.inl ⟨hfa, rfl, rfl⟩⟩⟩
        | false => as_aux_lemma =>
          have cS1 : Box (∀ w', Ext W w' → Calls Tryd.prog 13 #[.slice a t c] w' fun e w'' => e = .returned (.tuple #[.string ⟨#[]⟩, .int .i64 2]) ∧ Ext w' w'') := ⟨fun w' h => (cS.out w' h).mono fun e w'' hp => by
            unfold ScsP at hp
            rw [if_neg (by rw [HN.out]; omega), hfa, if_neg Bool.false_ne_true] at hp
            exact hp⟩
          go_wp2_with (go_at_call 13; (with_reducible refine (cS1.out _ hE.out).mono ?_); rintro e w1 ⟨rfl, hb⟩; replace hE := Box.mk (Ext.trans' hE.out hb); clear hb)
          go_meet
          exact ⟨by rw [hfa], hE, ⟨Or.inr ⟨hfa, rfl, rfl⟩⟩⟩
      case rest =>
        clear hE cS
        obtain ⟨rfl, hE, hz⟩ := hcut
        go_upto_region 10 with (fail)
        go_cut [8, 12, 13, 84] from 63 to 84 (fun s8 _ _ s84 wx => s8 = .bool (allS L) ∧ s84 = .bool false ∧ wc = wx)
        case first => as_aux_lemma =>
          have hyy : (y.toList == y.toList) = true := by simp
          rcases hz.out with ⟨hfa, rfl, rfl⟩ | ⟨hfa, rfl, rfl⟩
          all_goals as_aux_lemma =>
            rw [hfa]
            go_wp2
            go_meet
            exact ⟨by rw [hfa], rfl, rfl⟩
        case rest =>
          obtain ⟨rfl, rfl, rfl⟩ := hcut
          clear hz
          generalize hfa : allS L = fa at *
          replace hfa := Box.mk hfa
          have hi0 : LinI s.data.toList 0 0 [] := LinI.init _
          go_upto_block 2 with (fail)
          go_cut [14, 15, 16, 17, 18, 19] from 85 to 125 (fun s14 s15 _ _ _ _ wx => Box (Ext W wx) ∧ ((∃ acc a4 c4, s15 = .int .i64 0 ∧ s14 = .slice a4 acc.length c4 ∧ acc.length ≤ 400 ∧ Box (wx.ownsRow W.heap.size 33 4 (.slice a4 acc.length c4) acc.length (rowsS acc)) ∧ Box (rdS [] (linesL s.size s.data.toList) = (acc, 0, 0))) ∨ (∃ n : Nat, s15 = .int .i64 ((n + 1 : Nat) : Int) ∧ n ≤ 400 ∧ Box (rdS [] (linesL s.size s.data.toList) = ([], n + 1, 6)))))
          case first => as_aux_lemma =>
            clear cR ck hm
            go_wp2
            go_loopw [14, 15, 16, 17, 18, 19] (fun sv bv fv iv _ _ wr => ∃ (i fr : Nat), i ≤ s.size ∧ iv = .int .i64 i ∧ fv = .int .i64 fr ∧ Box (Ext W wr) ∧ ((∃ acc a4 c4, bv = .int .i64 0 ∧ Box (LinI s.data.toList i fr acc) ∧ sv = .slice a4 acc.length c4 ∧ Box (wr.ownsRow W.heap.size 33 4 (.slice a4 acc.length c4) acc.length (rowsS acc))) ∨ (∃ n : Nat, bv = .int .i64 ((n + 1 : Nat) : Int) ∧ n ≤ 400 ∧ Box (rdS [] (linesL s.size s.data.toList) = ([], n + 1, 6))))) (fun _ _ _ iv _ _ _ => s.size - (intOf iv).toNat)
            case atStart => exact ⟨0, 0, by omega, rfl, rfl, hE, Or.inl ⟨[], none, 0, rfl, ⟨hi0⟩, rfl, ⟨World.ownsRow_nil _ _ _ _⟩⟩⟩
            case round =>
              clear hE hi0
              obtain ⟨i, fr, hi9, rfl, rfl, hE, hst⟩ := hrel
              rcases hst with ⟨acc, a4, c4, rfl, hLI, rfl, hown⟩ | ⟨n, rfl, hn400, hrd⟩
              · by_cases hin : i < s.size
                · as_aux_lemma =>
                  have hg : ∀ h, s[i]'h = s.data.toList.getD i 0 := fun h => get_getD s i h
                  have hci : s.data.toList[i]? = some (s.data.toList.getD i 0) := by
                    rw [List.getD_eq_getElem?_getD, List.getElem?_eq_getElem (show i < s.data.toList.length from hin)]
                    rfl
                  have q0 : (0 : Int) ≤ (i : Int) := by omega
                  have q1 : (i : Int) < (s.size : Int) := by omega
                  have q2 : decide ((i : Int) < (s.size : Int)) = true := decide_eq_true q1
                  have q3 : decide (i < s.size) = true := decide_eq_true hin
                  have hfi := hLI.out.fi
                  have hal := hLI.out.al
                  generalize s.data.toList.getD i 0 = ch at *
                  by_cases hgo : ch ≠ 10 ∧ i + 1 < s.size
                  · as_aux_lemma =>
                    have hne : (ch.toNat : Int) ≠ 10 := fun e => hgo.1 (UInt8.toNat_inj.1 (by show ch.toNat = 10; omega))
                    have r0 : ((ch.toNat : Int) == 10) = false := beq_eq_false_iff_ne.2 hne
                    have r0' : ((ch.toNat : Int) != 10) = true := by rw [bne, r0]; rfl
                    have r1 : decide ((i : Int) + 1 < (s.size : Int)) = true := decide_eq_true (by omega)
                    have r2 : (i : Int) + 1 < (s.size : Int) := by omega
                    have hLI2 := Box.mk (hLI.out.go ch hgo.2 hci hgo.1)
                    clear hci hgo hne
                    go_wp2
                    go_roundw
                    case rel => exact ⟨i + 1, fr, by omega, by go_num, rfl, hE, Or.inl ⟨acc, a4, c4, rfl, hLI2, rfl, hown⟩⟩
                    case measure => simp [intOf]; omega
                  · as_aux_lemma =>
                    have hend : ch = 10 ∨ i + 1 = s.size := by
                      by_cases h : ch = 10
                      · exact Or.inl h
                      · exact Or.inr (by have : ¬ i + 1 < s.size := fun h2 => hgo ⟨h, h2⟩; omega)
                    have key : ((ch.toNat : Int) != 10) = false ∨ (((ch.toNat : Int) != 10) = true ∧ decide ((i : Int) + 1 < (s.size : Int)) = false ∧ ¬ (i : Int) + 1 < (s.size : Int)) := by
                      by_cases h : ch = 10
                      · left; rw [h]; rfl
                      · right
                        have hne : (ch.toNat : Int) ≠ 10 := fun e => h (UInt8.toNat_inj.1 (by show ch.toNat = 10; omega))
                        have h2 := hend.resolve_left h
                        exact ⟨by rw [bne_iff_ne]; exact hne, decide_eq_false (by omega), by omega⟩
                    replace key := Box.mk key
                    have f1 : (0 : Int) ≤ (fr : Int) := by omega
                    have f2 : (fr : Int) ≤ (i : Int) + 1 := by omega
                    have f3 : (i : Int) + 1 ≤ (s.size : Int) := by omega
                    have f4 : ((i : Int) + 1).toNat = i + 1 := by omega
                    have hx1 : (s.extract fr (i + 1)).size ≤ 1000 := by rw [ByteArray.size_extract]; omega
                    have cx := Box.mk (cL.out (s.extract fr (i + 1)) hx1)
                    rw [ext_data] at cx
                    have hk1 : i + 1 ≤ s.size := hin
                    have hk2 : s.size - (i + 1) < s.size - i := by omega
                    have hk3 : acc.length ≤ 400 := by omega
                    have hk4 : acc.length ≤ 1000 := by omega
                    have hk5 : acc.length + 1 ≤ 140737488355328 := by omega
                    have hk6 : (acc.length + 1) * 32 ≤ 140737488355328 := by omega
                    have hlen : s.data.toList.length ≤ 400 := hs
                    have f5 : IntKind.i64.wrap ((i : Int) + 1) = (i : Int) + 1 := i64_one (Nat.le_trans (Nat.le_of_lt hin) (Nat.le_trans hs (by decide)))
                    have f6 : IntKind.i64.wrap ((acc.length : Int) + 1) = (acc.length : Int) + 1 := i64_one hk4
                    cases hx : readL ((s.data.toList.drop fr).take (i + 1 - fr)) with
                    | some x =>
                      rw [hx] at cx
                      have cx2 : Box (∀ w, Calls Tryd.prog 14 #[.string (s.extract fr (i + 1))] w fun e w' => e = .returned (.tuple #[.agg #[.int .i64 x.k, .int .i64 x.size, .int .i64 x.b, .int .i64 x.a], .bool true]) ∧ Ext w w') := ⟨cx.out⟩
                      have hLI2 := Box.mk (hLI.out.some_ ch hin hci hend hlen x hx)
                      have hsn := Box.mk (rowsS_snoc acc x)
                      clear hci hgo hend hx hx1 hlen cx
                      rcases key.out with k1 | ⟨k1, k2, k3⟩
                      all_goals as_aux_lemma =>
                        go_wp2_with (first
                          | (go_at_call 14; (with_reducible refine (cx2.out _).mono ?_); rintro e w2 ⟨rfl, hb⟩; replace hown := Box.mk (ownsRow_ext hb hown.out); replace hE := Box.mk (Ext.trans' hE.out hb); clear hb)
                          | (at_builtin; have hE8 := Ext.alloc hE.out (.cells #[.int .i64 x.k, .int .i64 x.size, .int .i64 x.b, .int .i64 x.a] 33); refine wpList_push rfl _ _ 26 rfl W.heap.size 33 i0 (.agg #[.int .i64 0, .int .i64 0, .int .i64 0, .int .i64 0]) 4 32 Tryd.underlying26 hi hz0 hz1 hz2 rfl (by decide) _ _ _ rfl (hown.out.alloc _) [.int .i64 x.k, .int .i64 x.size, .int .i64 x.b, .int .i64 x.a] (by rw [World.size_alloc]; rfl) rfl (by simp [Value.oneCell']) hk5 hk6 hE8.size ?_; intro v1 w3 hown3 hg3 hbel3 hs3))
                        obtain ⟨a5, c5, rfl⟩ : ∃ a5 c5, v1 = .slice a5 (acc.length + 1) c5 := by
                          rcases hown3.2 with ⟨h9, h0⟩ | ⟨g, cap', cur, h9, _⟩
                          · exact absurd h0 (Nat.succ_ne_zero _)
                          · exact ⟨_, _, h9⟩
                        go_roundw
                        case rel =>
                          have e1 : (acc ++ [x]).length = acc.length + 1 := by rw [List.length_append]; rfl
                          exact ⟨i + 1, i + 1, hk1, by go_num, by go_num, ⟨Below.trans hE8 hbel3⟩, Or.inl ⟨acc ++ [x], a5, c5, rfl, hLI2, by rw [e1], ⟨by rw [hsn.out, e1]; exact hown3⟩⟩⟩
                        case measure =>
                          clear f5 f6
                          simp [intOf]; omega
                    | none =>
                      rw [hx] at cx
                      have cx2 : Box (∀ w, Calls Tryd.prog 14 #[.string (s.extract fr (i + 1))] w fun e w' => e = .returned (.tuple #[.agg #[.int .i64 0, .int .i64 0, .int .i64 0, .int .i64 0], .bool false]) ∧ Ext w w') := ⟨cx.out⟩
                      have hrd := Box.mk (hLI.out.none_ ch hin hci hend hlen hx)
                      clear hci hgo hend hx hx1 hlen cx
                      rcases key.out with k1 | ⟨k1, k2, k3⟩
                      all_goals as_aux_lemma =>
                        go_wp2_with (first
                          | (go_at_call 14; (with_reducible refine (cx2.out _).mono ?_); rintro e w2 ⟨rfl, hb⟩; replace hown := Box.mk (ownsRow_ext hb hown.out); replace hE := Box.mk (Ext.trans' hE.out hb); clear hb)
                          | (at_builtin; have hE8 := Ext.alloc hE.out (.cells #[.int .i64 0, .int .i64 0, .int .i64 0, .int .i64 0] 33); refine wpList_push rfl _ _ 26 rfl W.heap.size 33 i0 (.agg #[.int .i64 0, .int .i64 0, .int .i64 0, .int .i64 0]) 4 32 Tryd.underlying26 hi hz0 hz1 hz2 rfl (by decide) _ _ _ rfl (hown.out.alloc _) [.int .i64 0, .int .i64 0, .int .i64 0, .int .i64 0] (by rw [World.size_alloc]; rfl) rfl (by simp [Value.oneCell']) hk5 hk6 hE8.size ?_; intro v1 w3 hown3 hg3 hbel3 hs3))
                        go_roundw
                        case rel => exact ⟨i + 1, i + 1, hk1, by go_num, by go_num, ⟨Below.trans hE8 hbel3⟩, Or.inr ⟨acc.length, by go_num, hk3, hrd⟩⟩
                        case measure =>
                          clear f5 f6
                          simp [intOf]; omega
                · as_aux_lemma =>
                  obtain rfl : i = s.size := by omega
                  have u1 : decide ((s.size : Int) < (s.size : Int)) = false := decide_eq_false (by omega)
                  have u2 : decide (s.size < s.size) = false := decide_eq_false (by omega)
                  have hal := hLI.out.al
                  have hfi := hLI.out.fi
                  have hrd := Box.mk hLI.out.done
                  have hk4 : acc.length ≤ 400 := by omega
                  clear hLI hal hfi
                  go_wp2
                  go_meet
                  exact ⟨hE, Or.inl ⟨acc, a4, c4, rfl, rfl, hk4, hown, ⟨hrd.out⟩⟩⟩
              · as_aux_lemma =>
                have u0 : (((n + 1 : Nat) : Int) == 0) = false := by rw [beq_eq_false_iff_ne]; omega
                have u0' : ¬ ((n + 1 : Nat) : Int) = 0 := by omega
                have hin : (decide ((i : Int) < (s.size : Int)) = true ∧ decide (i < s.size) = true) ∨ (decide ((i : Int) < (s.size : Int)) = false ∧ decide (i < s.size) = false) := by
                  by_cases h : i < s.size
                  · exact Or.inl ⟨decide_eq_true (by omega), decide_eq_true h⟩
                  · exact Or.inr ⟨decide_eq_false (by omega), decide_eq_false h⟩
                rcases hin with ⟨v1, v2⟩ | ⟨v1, v2⟩
                all_goals as_aux_lemma =>
                  go_wp2
                  go_meet
                  exact ⟨hE, Or.inr ⟨n, rfl, hn400, hrd⟩⟩
          case rest =>
            clear hE hi0
            obtain ⟨hE, hst⟩ := hcut
            go_upto_region 23 with (fail)
            go_cut [14, 15, 20, 21, 22] from 126 to 131 (fun s14 s15 s20 s21 s22 wx => Box (Ext W wx) ∧ ((∃ acc a4 c4 a5 c5, s15 = .int .i64 0 ∧ s14 = .slice a4 (List.length (α := Sc) acc) c4 ∧ s20 = .slice a5 acc.length c5 ∧ s21 = .int .i64 0 ∧ s22 = .int .i64 0 ∧ acc.length ≤ 400 ∧ Box (CellsAt wx a4 (rowsS acc)) ∧ Box (CellsAt wx a5 (rowsS acc))) ∨ (∃ (n : Nat) (a5 : Option Addr) (c5 : Nat), s15 = .int .i64 ((n + 1 : Nat) : Int) ∧ s20 = .slice a5 0 c5 ∧ s21 = .int .i64 ((n + 1 : Nat) : Int) ∧ s22 = .int .i64 6)))
            case first => as_aux_lemma =>
              rcases hst with ⟨acc, a4, c4, rfl, rfl, hk4, hown, hrd⟩ | ⟨n, rfl, hn400, hrd⟩
              · as_aux_lemma =>
                have cR1 := cR
                rw [hrd.out] at cR1
                clear hrd cR
                have hk4' : acc.length ≤ 2000 := by omega
                go_wp2_with (go_at_call 15; (with_reducible refine (cR1.out _ hE.out).mono ?_); rintro e w2 ⟨a5, c5, rfl, hr, hb⟩; replace hown := Box.mk (own_cells (ownsRow_ext hb hown.out) hk4'); replace hr := Box.mk (own_cells hr hk4'); replace hE := Box.mk (Ext.trans' hE.out hb); clear hb)
                go_meet
                exact ⟨hE, Or.inl ⟨acc, a4, c4, a5, c5, rfl, rfl, rfl, rfl, rfl, hk4, hown, hr⟩⟩
              · as_aux_lemma =>
                have cR1 := cR
                rw [hrd.out] at cR1
                clear hrd cR
                go_wp2_with (go_at_call 15; (with_reducible refine (cR1.out _ hE.out).mono ?_); rintro e w2 ⟨a5, c5, rfl, hr, hb⟩; clear hr; replace hE := Box.mk (Ext.trans' hE.out hb); clear hb)
                go_meet
                exact ⟨hE, Or.inr ⟨n, a5, c5, rfl, rfl, rfl, rfl⟩⟩
            case rest =>
              clear hE hst cR
              obtain ⟨hE, hst⟩ := hcut
              go_upto_region 24 with (fail)
              go_cut [14, 15, 20, 21, 22, 165] from 132 to 165 (fun _ _ _ _ _ s165 wx => s165 = .bool false ∧ Box (Ext W wx))
              case first => as_aux_lemma =>
                rcases hst with ⟨acc, a4, c4, a5, c5, rfl, rfl, rfl, rfl, rfl, hk4, h4, h5⟩ | ⟨n, a5, c5, rfl, rfl, rfl, rfl⟩
                · as_aux_lemma =>
                  go_wp2_with (go_at_call 16; (with_reducible refine (same_acc acc a5 a4 c5 c4 _ hk4 h5.out h4.out).mono ?_); rintro e w5 ⟨rfl, hb⟩; replace hE := Box.mk (Ext.trans' hE.out hb); clear hb)
                  go_meet
                  exact ⟨rfl, hE⟩
                · as_aux_lemma =>
                  have u0 : (((n + 1 : Nat) : Int) == 0) = false := by rw [beq_eq_false_iff_ne]; omega
                  have u0' : ¬ ((n + 1 : Nat) : Int) = 0 := by omega
                  have u1 : decide ((0 : Int) < ((n + 1 : Nat) : Int)) = true := decide_eq_true (by omega)
                  have u3 : (((n + 1 : Nat) : Int) != ((n + 1 : Nat) : Int)) = false := by simp
                  go_wp2
                  go_meet
                  exact ⟨rfl, hE⟩
              case rest =>
                clear hE hst
                obtain ⟨rfl, hE⟩ := hcut
                go_upto_region 26 with (fail)
                go_cut [8, 180] from 166 to 180 (fun s8 s180 wx => s8 = .bool fa ∧ ∃ b, s180 = .bool b ∧ Box (b = false → 995 ≤ many ∧ many ≤ 1005 ∧ t ≠ 0 ∧ fa = true) ∧ wc = wx)
                case first => as_aux_lemma =>
                  clear hE cO cB cL ck hEnv HC
                  rcases hm.out with m1 | ⟨m1, m2⟩ | ⟨m1, m2⟩
                  · as_aux_lemma =>
                    go_wp2
                    go_meet
                    exact ⟨rfl, true, rfl, ⟨fun h => by cases h⟩, rfl⟩
                  · as_aux_lemma =>
                    go_wp2
                    go_meet
                    exact ⟨rfl, true, rfl, ⟨fun h => by cases h⟩, rfl⟩
                  · as_aux_lemma =>
                    by_cases h0 : t = 0
                    · as_aux_lemma =>
                      have q0 : ((t : Int) == 0) = true := by rw [h0]; rfl
                      have q1 : (t == 0) = true := by rw [h0]; rfl
                      clear h0
                      go_wp2
                      go_meet
                      exact ⟨rfl, true, rfl, ⟨fun h => by cases h⟩, rfl⟩
                    · as_aux_lemma =>
                      have q0 : ((t : Int) == 0) = false := by rw [beq_eq_false_iff_ne]; omega
                      have q1 : (t == 0) = false := by rw [beq_eq_false_iff_ne]; omega
                      have hz := Box.mk h0
                      have hm1 := Box.mk (of_decide_eq_false m1)
                      have hm2 := Box.mk (of_decide_eq_false m2)
                      cases fa
                      · as_aux_lemma =>
                        go_wp2
                        go_meet
                        exact ⟨rfl, true, rfl, ⟨fun h => by cases h⟩, rfl⟩
                      · as_aux_lemma =>
                        go_wp2
                        go_meet
                        exact ⟨rfl, false, rfl, ⟨fun _ => ⟨by have := hm1.out; omega, by have := hm2.out; omega, by first | exact ⟨hz.out, rfl⟩ | exact ⟨hz.out, trivial⟩⟩⟩, rfl⟩
                case rest =>
                  obtain ⟨rfl, b, rfl, hbb, rfl⟩ := hcut
                  clear hm
                  cases b with
                  | true => as_aux_lemma =>
                    go_wp2_with (go_at_call 9; (with_reducible refine (ck.out _ hE.out).mono ?_); rintro e w6 ⟨rfl, hb⟩; replace hE := Box.mk (Ext.trans' hE.out hb); clear hb)
                    go_ret
                    exact ⟨rfl, hE.out⟩
                  | false =>
                    obtain ⟨hm1, hm2, ht0, rfl⟩ := hbb.out rfl
                    clear hbb
                    obtain ⟨N, rfl⟩ : ∃ N : Nat, many = N := ⟨many.toNat, by omega⟩
                    have hN1 : 995 ≤ N := by omega
                    have hN2 : N ≤ 1005 := by omega
                    clear hm1 hm2
                    have hk0 : 0 < L.length := by rw [HN.out]; omega
                    have ht1 : (0 : Int) < (t : Int) := by omega
                    have ht2 : 0 < t := by omega
                    obtain ⟨b1, o1, rfl, r1⟩ := rows_row SI.cs 4 (fun _ => rfl) (by decide) HC.out 0 hk0
                    have k0 : W.cell? ⟨b1, o1, none⟩ = some (.int .i64 (L[0]).k) := by simpa using r1 0 _ rfl
                    have k1 : W.cell? ⟨b1, o1 + 1, none⟩ = some (.int .i64 (L[0]).s) := by simpa using r1 1 _ rfl
                    have k2 : W.cell? ⟨b1, o1 + 2, none⟩ = some (.int .i64 (L[0]).b) := by simpa using r1 2 _ rfl
                    have k3 : W.cell? ⟨b1, o1 + 3, none⟩ = some (.int .i64 (L[0]).a) := by simpa using r1 3 _ rfl
                    have hxo := allS_head hfa.out hk0
                    clear r1 HC HN hfa ht0 cB cL
                    generalize L[0] = x at *
                    clear hk0
                    have c1 := Box.mk (cO.out x hxo)
                    have hyl : (⟨x.sc.line.toArray⟩ : ByteArray).size ≤ 73 := line_len x.sc (SI.sc_ok hxo).1
                    have hyd : Box ((⟨x.sc.line.toArray⟩ : ByteArray).data.toList = x.sc.line) := ⟨rfl⟩
                    generalize (⟨x.sc.line.toArray⟩ : ByteArray) = yl at *
                    replace hxo := Box.mk hxo
                    clear cO
                    replace k0 := Box.mk k0
                    replace k1 := Box.mk k1
                    replace k2 := Box.mk k2
                    replace k3 := Box.mk k3
                    have m0 := Ext.cell hE.out k0.out
                    have m1 := Ext.cell hE.out k1.out
                    have m2 := Ext.cell hE.out k2.out
                    have m3 := Ext.cell hE.out k3.out
                    go_upto_block 4 with (go_at_call 12; (with_reducible refine (c1.out _).mono ?_); rintro e w1 ⟨rfl, hb⟩; replace hE := Box.mk (Ext.trans' hE.out hb); clear hb)
                    clear m0 m1 m2 m3
                    go_cut [25, 26, 27] from 189 to 202 (fun s25 s26 _ wx => Box (Ext W wx) ∧ (∃ a6 c6, s25 = .slice a6 N c6 ∧ Box (CellsAt wx a6 (rows SI.cs (List.replicate N x)))) ∧ ∃ y : ByteArray, s26 = .string y ∧ Box (y.data.toList = txtS (List.replicate N x.sc)))
                    case first => as_aux_lemma =>
                      clear ck hEnv c1
                      go_wp2
                      go_loopw [25, 26, 27] (fun lv yv iv wr => ∃ i : Nat, i ≤ N ∧ iv = .int .i64 i ∧ (∃ a6 c6, lv = .slice a6 i c6 ∧ Box (wr.ownsRow W.heap.size 33 4 (.slice a6 i c6) i (rows SI.cs (List.replicate i x)))) ∧ (∃ y : ByteArray, yv = .string y ∧ y.size ≤ 73 * i ∧ Box (y.data.toList = txtS (List.replicate i x.sc))) ∧ Box (Ext W wr)) (fun _ _ iv _ => N - (intOf iv).toNat)
                      case atStart => exact ⟨0, by omega, rfl, ⟨none, 0, rfl, ⟨World.ownsRow_nil _ _ _ _⟩⟩, ⟨⟨#[]⟩, rfl, by decide, ⟨rfl⟩⟩, hE⟩
                      case round =>
                        clear hE
                        obtain ⟨i, hi9, rfl, ⟨a6, c6, rfl, hown⟩, ⟨y, rfl, hys, hy⟩, hE⟩ := hrel
                        by_cases hin : i < N
                        · as_aux_lemma =>
                          have q1 : (i : Int) < (N : Int) := by omega
                          have q2 : decide ((i : Int) < (N : Int)) = true := decide_eq_true q1
                          have q3 : decide (i < N) = true := decide_eq_true hin
                          have m0 := Ext.cell hE.out k0.out
                          have m1 := Ext.cell hE.out k1.out
                          have m2 := Ext.cell hE.out k2.out
                          have m3 := Ext.cell hE.out k3.out
                          have hrep := Box.mk (rep_snoc x i)
                          have hk5 : i + 1 ≤ 140737488355328 := by omega
                          have hk6 : (i + 1) * 32 ≤ 140737488355328 := by omega
                          have g1 : ¬ 9223372036854775807 < y.size + yl.size := by omega
                          have hsz : (y ++ yl).size ≤ 73 * (i + 1) := by rw [ByteArray.size_append]; omega
                          have hy2 : Box ((y ++ yl).data.toList = txtS (List.replicate (i + 1) x.sc)) := ⟨by
                            rw [txt_replicate, ← hy.out, ← hyd.out]
                            simp [ByteArray.data_append]⟩
                          go_wp2_with (at_builtin; refine wpList_push rfl _ _ 26 rfl W.heap.size 33 i0 (.agg #[.int .i64 0, .int .i64 0, .int .i64 0, .int .i64 0]) 4 32 Tryd.underlying26 hi hz0 hz1 hz2 rfl (by decide) _ _ _ rfl hown.out [.int .i64 x.k, .int .i64 x.s, .int .i64 x.b, .int .i64 x.a] rfl rfl (by simp [Value.oneCell']) hk5 hk6 hE.out.size ?_; intro v1 w3 hown3 hg3 hbel3 hs3)
                          obtain ⟨a7, c7, rfl⟩ : ∃ a7 c7, v1 = .slice a7 (i + 1) c7 := by
                            rcases hown3.2 with ⟨h9, h0⟩ | ⟨g, cap', cur, h9, _⟩
                            · exact absurd h0 (Nat.succ_ne_zero _)
                            · exact ⟨_, _, h9⟩
                          go_roundw
                          case rel => exact ⟨i + 1, hin, by go_num, ⟨a7, c7, rfl, ⟨by rw [hrep.out]; exact hown3⟩⟩, ⟨_, rfl, hsz, hy2⟩, ⟨Below.trans hE.out hbel3⟩⟩
                          case measure => simp [intOf]; omega
                        · as_aux_lemma =>
                          obtain rfl : i = N := by omega
                          have q2 : decide ((i : Int) < (i : Int)) = false := decide_eq_false (by omega)
                          have q3 : decide (i < i) = false := decide_eq_false (by omega)
                          go_wp2
                          go_meet
                          exact ⟨hE, ⟨a6, c6, rfl, ⟨own_cells hown.out (by omega)⟩⟩, ⟨y, rfl, hy⟩⟩
                    case rest =>
                      clear hE
                      obtain ⟨hE, ⟨a6, c6, rfl, hC6⟩, ⟨y, rfl, hy⟩⟩ := hcut
                      have hN2000 : N ≤ 2000 := by omega
                      have hystr : (⟨(txtS (List.replicate N x.sc)).toArray⟩ : ByteArray) = y := str_ext hy.out.symm
                      have c2 : Box (∀ w', Ext W w' → CellsAt w' a6 (rows SI.cs (List.replicate N x)) → _) := ⟨fun w' h hc => scores_rep x hxo.out N hN2000 a6 c6 w' hc (hEnv.out w' h).env.tabs⟩
                      rw [hystr] at c2
                      have c3 : Box (∀ w', Ext W w' → _) := ⟨fun w' h => readrep_any x hxo.out N hN2000 y hy.out w' (hEnv.out w' h).env⟩
                      have c4 : Box (∀ a5 c5 w', CellsAt w' a5 (rowsS (List.replicate N x.sc)) → CellsAt w' a6 (rows SI.cs (List.replicate N x)) → _) := ⟨fun a5 c5 w' h1 h2 => same_rep x hxo.out N hN2000 a5 a6 c5 c6 w' h1 h2⟩
                      clear hystr hy hEnv hxo hyd c1
                      by_cases h1000 : 1000 < N
                      · as_aux_lemma =>
                        have q1 : decide ((1000 : Int) < (N : Int)) = true := decide_eq_true (by omega)
                        have q2 : decide (1000 < N) = true := decide_eq_true h1000
                        have q3 : (1000 : Int) < (N : Int) := by omega
                        rw [if_pos h1000] at c2 c3
                        clear c4
                        go_wp2_with (first
                          | (go_at_call 13; (with_reducible refine (c2.out _ hE.out hC6.out).mono ?_); rintro e w2 ⟨rfl, hb⟩; replace hE := Box.mk (Ext.trans' hE.out hb); clear hb)
                          | (go_at_call 15; (with_reducible refine (c3.out _ hE.out).mono ?_); rintro e w2 ⟨a5, c5, rfl, hr, hb⟩; clear hr; replace hE := Box.mk (Ext.trans' hE.out hb); clear hb)
                          | (go_at_call 9; (with_reducible refine (ck.out _ hE.out).mono ?_); rintro e w6 ⟨rfl, hb⟩; replace hE := Box.mk (Ext.trans' hE.out hb); clear hb))
                        go_ret
                        exact ⟨rfl, hE.out⟩
                      · as_aux_lemma =>
                        have q1 : decide ((1000 : Int) < (N : Int)) = false := decide_eq_false (by omega)
                        have q2 : decide (1000 < N) = false := decide_eq_false h1000
                        have q3 : (N : Int) ≤ 1000 := by omega
                        have hyy : (y.toList == y.toList) = true := by simp
                        rw [if_neg h1000] at c2 c3
                        have c5 : Box (∀ w', Ext W w' → Calls Tryd.prog 15 #[.string y] w' fun e w'' => ∃ a5 c5, e = .returned (.tuple #[.slice a5 N c5, .int .i64 0, .int .i64 0]) ∧ CellsAt w'' a5 (rowsS (List.replicate N x.sc)) ∧ Ext w' w'') := ⟨fun w' h => (c3.out w' h).mono fun e w'' hp => by
                          obtain ⟨a5, c5, rfl, hr, hb⟩ := hp
                          simp only [List.length_replicate] at hr ⊢
                          exact ⟨a5, c5, rfl, own_cells hr hN2000, hb⟩⟩
                        clear c3 h1000
                        go_wp2_with (first
                          | (go_at_call 13; (with_reducible refine (c2.out _ hE.out hC6.out).mono ?_); rintro e w2 ⟨rfl, hb⟩; replace hE := Box.mk (Ext.trans' hE.out hb); replace hC6 := Box.mk (CellsAt.ext hb hC6.out); clear hb)
                          | (go_at_call 15; (with_reducible refine (c5.out _ hE.out).mono ?_); rintro e w2 ⟨a5, c5, rfl, hr, hb⟩; replace hr := Box.mk hr; replace hE := Box.mk (Ext.trans' hE.out hb); replace hC6 := Box.mk (CellsAt.ext hb hC6.out); clear hb)
                          | (go_at_call 16; (with_reducible refine (c4.out _ _ _ hr.out hC6.out).mono ?_); rintro e w5 ⟨rfl, hb⟩; replace hE := Box.mk (Ext.trans' hE.out hb); clear hb)
                          | (go_at_call 9; (with_reducible refine (ck.out _ hE.out).mono ?_); rintro e w6 ⟨rfl, hb⟩; replace hE := Box.mk (Ext.trans' hE.out hb); clear hb))
                        go_ret
                        exact ⟨rfl, hE.out⟩
end Go.Proofs.YtcofejbkbcdopaaDoor
