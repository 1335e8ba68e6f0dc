import Derived.Test.YtcofejbkbcdopaaDoorR20
import Derived.Deep.CutRange
/- Contract: the law's count, for at most 4096 results. -/
namespace Go.Proofs.YtcofejbkbcdopaaDoor
open Go.RowKit
def s1 (F : Nat → Int) (x : Res) : Nat → Int := if x.e = 0 then (if x.read = true then upR F 2 (F 2 + 1) else if x.put = true then upR F 4 (F 4 + 1) else F) else upR F 1 (F 1 + 1)
def s2 (F : Nat → Int) (x : Res) : Nat → Int := if x.e = 0 ∧ x.read = true ∧ x.hit = true then upR F 3 (F 3 + 1) else F
def s3 (F : Nat → Int) (x : Res) : Nat → Int := upR F 10 (gt x.len (F 10))
def s4 (F : Nat → Int) (x : Res) : Nat → Int := upR F 11 (gt x.cost (F 11))
def Bd (F : Nat → Int) (M : Int) : Prop := ∀ i, i < 10 → 0 ≤ F i ∧ F i ≤ M
theorem Bd.up {F : Nat → Int} {M : Int} (h : Bd F M) (q : Nat) : Bd (upR F q (F q + 1)) (M + 1) := by
  intro i hi
  unfold upR
  have := h i hi
  split
  · subst_vars; omega
  · omega
theorem Bd.s1 {F : Nat → Int} {M : Int} (h : Bd F M) (x : Res) : Bd (s1 F x) (M + 1) := by
  have w : Bd F (M + 1) := fun i hi => by have := h i hi; omega
  unfold Proofs.YtcofejbkbcdopaaDoor.s1
  repeat' split
  all_goals first
    | exact w
    | exact h.up _
theorem Bd.s2 {F : Nat → Int} {M : Int} (h : Bd F M) (x : Res) : Bd (s2 F x) (M + 1) := by
  have w : Bd F (M + 1) := fun i hi => by have := h i hi; omega
  unfold Proofs.YtcofejbkbcdopaaDoor.s2
  split
  · exact h.up _
  · exact w
theorem Bd.s3 {F : Nat → Int} {M : Int} (h : Bd F M) (x : Res) : Bd (s3 F x) M := fun i hi => by
  have := h i hi
  unfold Proofs.YtcofejbkbcdopaaDoor.s3 upR
  rw [if_neg (by omega)]
  exact this
theorem Bd.s4 {F : Nat → Int} {M : Int} (h : Bd F M) (x : Res) : Bd (s4 F x) M := fun i hi => by
  have := h i hi
  unfold Proofs.YtcofejbkbcdopaaDoor.s4 upR
  rw [if_neg (by omega)]
  exact this
theorem s_all (f : Nat → Int) (n : Int) (x : Res) : ∀ i, i < 12 → evR (s4 (s3 (s2 (s1 (upR f 0 n) x) x) x) x) x.el i = upR (stepR f x) 0 n i := by
  apply cases12
  all_goals by_cases he : x.e = 0 <;> cases hr : x.read <;> cases hp : x.put <;> cases hh : x.hit
  all_goals first
    | (exfalso
       have e1 : x.read = (x.k == 3 || x.k == 4 || x.k == 5) := rfl
       have e2 : x.put = (x.k == 1 || x.k == 2) := rfl
       rw [hr] at e1
       rw [hp] at e2
       simp only [Eq.comm (a := true), Bool.or_eq_true, beq_iff_eq] at e1 e2
       omega)
    | (intro i h5 h9
       simp [upR, evR, s1, s2, s3, s4, stepR, h5, h9, he, hr, hp, hh, show ¬ i = 0 by omega, show ¬ i = 1 by omega, show ¬ i = 2 by omega, show ¬ i = 3 by omega, show ¬ i = 4 by omega, show ¬ i = 10 by omega, show ¬ i = 11 by omega]; done)
    | (simp [upR, evR, s1, s2, s3, s4, stepR, he, hr, hp, hh]; done)
theorem upR_same (F : Nat → Int) (q : Nat) (v : Int) (h : v = F q) : ∀ i, i < 12 → F i = upR F q v i := fun i _ => by
  unfold upR
  split
  · subst_vars; rfl
  · rfl
theorem Ext.setRow {w0 w : World} (h : Ext w0 w) {g : Nat} (hg : w0.heap.size ≤ g) (c : Array Value) : Ext w0 (w.setRow g c) :=
  ⟨h.os, h.tape, h.output, by have := h.size; simp [World.setRow]; exact this, fun k hk => by
    rw [← h.block k hk]
    unfold World.setRow
    rw [Array.getElem?_modify, if_neg (by omega)]⟩
theorem blk_put2 {w : World} {C o X : Nat} {v : Value} {b : Obj} (h : w.heap[X]? = some b) (ne : X ≠ C) : (w.setCell ⟨C, o, none⟩ v).heap[X]? = some b := (heap_setCell_other _ _ _ _ ne).trans h
theorem results_one {fn : Func} {p : Tmp} {ty : TypeId} (h : fn.results = #[.cell p ty]) (tmps : Array Value) (P : Program) (w : World) :
    (results fn tmps).run P w = ((asAddr (tmps.getD p undef)).run P w).andThen fun a w₁ => (loadVar ty a).run P w₁ := by
  simp only [results, h]
  simp [Sem.run_bind, Result.andThen]
/-- A whole store into a block. -/
theorem wpList_store_row {P : Program} {ops : Array Oper} {rest : List Oper} {o : Oper} {a : Act} {Q : Exit → Act → World → Prop} {w : World} (hgd : o.guard = none) (ty : TypeId) (x y : Operand) (ho : o.op = .store ty x y)
    (g : Nat) (cs : Array Value) (hx : a.eval x = .pointer (some ⟨g, 0, none⟩)) (hy : a.eval y = .agg cs) (t : TypeId) (old : Array Value) (hg : w.heap[g]? = some (.cells old t (0, 0))) (hi : (P.info? ty).map (·.size) = some cs.size) (hz : old.size = cs.size) (h1 : cs.all (·.oneCell') = true)
    (h : wpList P ops Q rest (a.put o.dst undef) (w.setRow g cs)) : wpList P ops Q (o :: rest) a w :=
  wpList_plain hgd fun _ hK => wp_store_row ty x y ho g cs hx hy t old hg hi hz h1 (hK _ _ h)
set_option maxRecDepth 100000 in
set_option maxHeartbeats 40000000 in
theorem count_any (a : Option Addr) (c : Nat) (L : List Res) (w : World) (hL : L.length ≤ 4096) (h20 : ∀ x ∈ L, x.el.length ≤ 20) (hC : CellsAt w a (rows Res.cs L)) (hE : ∀ x ∈ L, CellsAt w x.ea (rows Ev6.cs x.el)) :
    Calls Tryd.prog 21 #[.slice a L.length c] w fun e w' => e = .returned (.agg (rC (fR L))) ∧ Ext w w' := by
  have HC := Box.mk hC
  have HE := Box.mk hE
  have H20 := Box.mk h20
  have HF : Box (L.take L.length = L) := ⟨List.take_of_length_le (Nat.le_refl _)⟩
  have HU : Box (∀ i, i < 12 → upR (fR L) 0 (L.length : Int) i = fR L i) := ⟨fun i _ => by
    unfold upR
    split
    · subst_vars; rfl
    · rfl⟩
  generalize hnn : L.length = nn at *
  have HN := Box.mk hnn
  clear hnn hC hE h20
  obtain ⟨dR, huR, hdR⟩ := und_row rowRes
  obtain ⟨dC, huC, hdC⟩ := und_row rowRC
  have hD0 : Box (((w.alloc (.cells #[.int .i64 0, .int .i64 0, .int .i64 0, .int .i64 0, .int .i64 0, .int .i64 0, .int .i64 0, .int .i64 0, .int .i64 0, .int .i64 0, .int .i64 0, .int .i64 0] 54)).alloc (.cells (rC (upR (fR (L.take 0)) 0 nn)) 54)).heap[w.heap.size]? = some (.cells (rC fun _ => 0) 54 (0, 0))) := ⟨Ext.blk (Ext.alloc (Below.refl _ _) _) (newblk _ _)⟩
  have hR0 : Box (RcAt (w.heap.size + 1) (upR (fR (L.take 0)) 0 nn) ((w.alloc (.cells #[.int .i64 0, .int .i64 0, .int .i64 0, .int .i64 0, .int .i64 0, .int .i64 0, .int .i64 0, .int .i64 0, .int .i64 0, .int .i64 0, .int .i64 0, .int .i64 0] 54)).alloc (.cells (rC (upR (fR (L.take 0)) 0 nn)) 54))) := ⟨by
    have := newblk (w.alloc (.cells #[.int .i64 0, .int .i64 0, .int .i64 0, .int .i64 0, .int .i64 0, .int .i64 0, .int .i64 0, .int .i64 0, .int .i64 0, .int .i64 0, .int .i64 0, .int .i64 0] 54)) (.cells (rC (upR (fR (L.take 0)) 0 nn)) 54)
    rwa [World.size_alloc] at this⟩
  have hE0 : Box (Ext w ((w.alloc (.cells #[.int .i64 0, .int .i64 0, .int .i64 0, .int .i64 0, .int .i64 0, .int .i64 0, .int .i64 0, .int .i64 0, .int .i64 0, .int .i64 0, .int .i64 0, .int .i64 0] 54)).alloc (.cells (rC (upR (fR (L.take 0)) 0 nn)) 54))) := ⟨Ext.alloc (Ext.alloc (Below.refl _ _) _) _⟩
  go_enter Tryd.func21, Tryd.ntmps21
  go_wp2_with (first
    | (refine wpList_store_new rfl (w.alloc (.cells #[.int .i64 0, .int .i64 0, .int .i64 0, .int .i64 0, .int .i64 0, .int .i64 0, .int .i64 0, .int .i64 0, .int .i64 0, .int .i64 0, .int .i64 0, .int .i64 0] 54)) 54 (.tmp 3) (.tmp 11) rfl _ (rC (upR (fR (L.take 0)) 0 nn)) rfl rfl infoRC rfl (oneRC _) ?_))
  have hCD : w.heap.size < w.heap.size + 1 := by omega
  have hDs : w.heap.size ≤ w.heap.size := Nat.le_refl _
  generalize hCC : w.heap.size + 1 = C at *
  generalize hDD : w.heap.size = D at hD0 hCD hDs ⊢
  have hDs : w.heap.size ≤ D := Nat.le_of_eq hDD
  have hCs : w.heap.size ≤ C := by omega
  have hCD : D < C := by omega
  clear hCC hDD
  go_loopw [4, 5, 6, 7, 8] (fun i _ _ _ _ wr => ∃ t : Nat, t ≤ nn ∧ i = .int .i64 t ∧ Box (RcAt C (upR (fR (L.take t)) 0 nn) wr) ∧ Box (wr.heap[D]? = some (.cells (rC fun _ => 0) 54 (0, 0))) ∧ Box (Ext w wr)) (fun i _ _ _ _ _ => nn - (intOf i).toNat)
  case atStart => exact ⟨0, by omega, rfl, hR0, hD0, hE0⟩
  case round =>
    clear hR0 hE0 hD0
    obtain ⟨t, ht, rfl, hR, hD, hE⟩ := hrel
    by_cases hkn : t < nn
    case neg =>
      obtain rfl : t = nn := by omega
      have d3 : decide ((t : Int) < (t : Int)) = false := decide_eq_false (by omega)
      have d4 : decide (t < t) = false := decide_eq_false hkn
      rw [HF.out] at hR
      replace hR := Box.mk (hR.out.congr HU.out)
      have hRL := Box.mk (rc_range hR.out)
      generalize hff : fR L = f at *
      have hDf : RcAt D f (wr.setRow D (rC f)) := setRow_heap wr D _ _ _ _ hD.out
      have hDR := Box.mk (rc_range hDf)
      go_wp2_with (first
        | (refine wpList_load_mid rfl 54 (.tmp 3) rfl C 0 rfl (rC f).toList dC hRL.out huC hdC infoRC ?_)
        | (refine wpList_store_row rfl 54 (.tmp 2) (.tmp 121) rfl D (rC f) rfl rfl 54 (rC fun _ => 0) hD.out infoRC rfl (oneRC f) ?_))
      subst hff
      have hend : Ending.returned (.agg (rC (fR L))) = Ending.returned (.agg (rC (fR L))) ∧ Ext w (wr.setRow D (rC (fR L))) := ⟨rfl, Ext.setRow hE.out hDs _⟩
      generalize fR L = f at *
      refine bodyPost_ret (v := .agg (rC f)) ?_ rfl hend
      rw [results_one rfl]
      simp [asAddr, Act.put, Result.andThen, run_loadVar_mid (wr.setRow D (rC f)) D 0 54 (rC f).toList dC hDR.out huC hdC infoRC]
    case pos =>
      have hkL : t < L.length := by rw [HN.out]; exact hkn
      obtain ⟨b, o, rfl, hrow⟩ := rows_row Res.cs 21 Res.cs_len (by decide) (CellsAt.ext hE.out HC.out) t hkL
      have hm := List.getElem_mem hkL
      have hEv := Box.mk (HE.out _ hm)
      have h20 := H20.out _ hm
      have hst := Box.mk (fR_step L t hkL)
      have hbd : Box (Bd (upR (fR (L.take t)) 0 nn) 81920) := ⟨fun i hi => by
        have h := fR_bound (L.take t) (fun x hx => H20.out x (List.mem_of_mem_take hx)) i hi
        have h2 : (L.take t).length ≤ 4096 := by simp; omega
        unfold upR
        split <;> omega⟩
      have hall := Box.mk (s_all (fR (L.take t)) nn L[t])
      clear hm
      generalize L[t] = x at *
      replace hrow := Box.mk hrow
      have hfin : Box (∀ i, i < 12 → upR (stepR (fR (L.take t)) x) 0 nn i = upR (fR (L.take (t + 1))) 0 nn i) := ⟨fun i hi => by
        unfold upR
        split
        · rfl
        · exact hst.out i hi⟩
      generalize hF : upR (fR (L.take t)) 0 nn = F at *
      clear hF
      have hn0 : (0 : Int) ≤ (t : Int) := by omega
      have hn1 : (t : Int) < (nn : Int) := by omega
      have hn2 : decide ((t : Int) < (nn : Int)) = true := decide_eq_true hn1
      have hn3 : decide (t < nn) = true := decide_eq_true hkn
      have xA := Ext.alloc (Below.refl wr.heap.size wr) (.cells (Res.cs x).toArray 75)
      have hX := Box.mk (newblk wr (.cells (Res.cs x).toArray 75))
      have hA := Box.mk (hR.out.ext xA)
      have hEA := Box.mk (Ext.trans' hE.out xA)
      have hDA := Box.mk (Ext.blk xA hD.out)
      have hCX := blk_lt hR.out
      clear xA hR hE hD
      go_upto_region 6 with (first
        | (refine wpList_load_mid rfl 75 (.tmp 20) rfl b (o + t * 21) rfl (Res.cs x) dR hrow.out huR hdR infoRes ?_)
        | (refine wpList_store_new rfl wr 75 (.tmp 5) (.tmp 21) rfl _ (Res.cs x).toArray rfl rfl infoRes rfl (oneRes x) ?_))
      generalize wr.heap.size = X at *
      generalize wr.alloc (.cells (Res.cs x).toArray 75) = wA at *
      have hrd : Box (x.read = (x.k == 3 || x.k == 4 || x.k == 5)) := ⟨rfl⟩
      have hpt : Box (x.put = (x.k == 1 || x.k == 2)) := ⟨rfl⟩
      simp only [Act.put]
      go_cut [6] from 12 to 120 (fun s6 wx => s6 = .bool x.read ∧ wA = wx)
      case first => as_aux_lemma =>
        have z0 : wA.cell? ⟨X, 0, none⟩ = some (.int .i64 x.k) := by rw [Lib.cell_of_heap hX.out]; rfl
        have hk : x.k = 3 ∨ x.k = 4 ∨ x.k = 5 ∨ ((x.k == 3) = false ∧ (x.k == 4) = false ∧ (x.k == 5) = false) := by
          simp only [beq_eq_false_iff_ne]; omega
        rcases hk with hk | hk | hk | ⟨k1, k2, k3⟩
        all_goals first
          | rw [hk] at z0
          | skip
        all_goals
          go_wp2
          go_meet
          first
            | exact ⟨by rw [hrd.out, hk]; rfl, rfl⟩
            | exact ⟨by rw [hrd.out, k1, k2, k3]; rfl, rfl⟩
      case rest =>
        obtain ⟨rfl, rfl⟩ := hcut
        have z10 : wA.cell? ⟨X, 10, none⟩ = some (.int .i64 x.e) := by rw [Lib.cell_of_heap hX.out]; rfl
        go_upto_if 40 with (fail)
        go_cut [6] from 12 to 120 (fun s6 wx => s6 = .bool x.read ∧ Box (RcAt C (s1 F x) wx) ∧ Box (wx.heap[X]? = some (.cells (Res.cs x).toArray 75 (0, 0))) ∧ Box (wx.heap[D]? = some (.cells (rC fun _ => 0) 54 (0, 0))) ∧ Box (Ext w wx))
        case first => as_aux_lemma =>
          have z0 : wA.cell? ⟨X, 0, none⟩ = some (.int .i64 x.k) := by rw [Lib.cell_of_heap hX.out]; rfl
          have b1 := hbd.out 1 (by omega)
          have b2 := hbd.out 2 (by omega)
          have b4 := hbd.out 4 (by omega)
          have c1 : wA.cell? ⟨C, 1, none⟩ = some (.int .i64 (F 1)) := hA.out.cell 1 (by omega)
          have c2 : wA.cell? ⟨C, 2, none⟩ = some (.int .i64 (F 2)) := hA.out.cell 2 (by omega)
          have c4 : wA.cell? ⟨C, 4, none⟩ = some (.int .i64 (F 4)) := hA.out.cell 4 (by omega)
          have f1 := hA.out.froz 1
          have f2 := hA.out.froz 2
          have f4 := hA.out.froz 4
          by_cases he : x.e = 0
          · have e1 : s1 F x = if x.read = true then upR F 2 (F 2 + 1) else if x.put = true then upR F 4 (F 4 + 1) else F := by unfold s1; rw [if_pos he]
            have he1 : (x.e == 0) = true := by rw [beq_iff_eq]; exact he
            cases hr : x.read with
            | true =>
              have six : Value.bool true = Value.bool true := rfl
              rw [hr, if_pos rfl] at e1
              go_wp2
              go_meet
              exact ⟨by rw [hr], ⟨by rw [e1]; exact hA.out.put 2 (by omega) (F 2 + 1)⟩, ⟨blk_put2 hX.out (by omega)⟩, ⟨blk_put2 hDA.out (by omega)⟩, ⟨Ext.put hEA.out hCs 2 _⟩⟩
            | false =>
              have six : Value.bool false = Value.bool false := rfl
              rw [hr, if_neg Bool.false_ne_true] at e1
              have hk : x.k = 1 ∨ x.k = 2 ∨ ((x.k == 1) = false ∧ (x.k == 2) = false) := by
                simp only [beq_eq_false_iff_ne]; omega
              rcases hk with hk | hk | ⟨k1, k2⟩
              · rw [hk] at z0
                rw [if_pos (by rw [hpt.out, hk]; rfl)] at e1
                go_wp2
                go_meet
                exact ⟨by rw [hr], ⟨by rw [e1]; exact hA.out.put 4 (by omega) (F 4 + 1)⟩, ⟨blk_put2 hX.out (by omega)⟩, ⟨blk_put2 hDA.out (by omega)⟩, ⟨Ext.put hEA.out hCs 4 _⟩⟩
              · rw [hk] at z0
                rw [if_pos (by rw [hpt.out, hk]; rfl)] at e1
                go_wp2
                go_meet
                exact ⟨by rw [hr], ⟨by rw [e1]; exact hA.out.put 4 (by omega) (F 4 + 1)⟩, ⟨blk_put2 hX.out (by omega)⟩, ⟨blk_put2 hDA.out (by omega)⟩, ⟨Ext.put hEA.out hCs 4 _⟩⟩
              · rw [if_neg (by rw [hpt.out, k1, k2]; simp)] at e1
                go_wp2
                go_meet
                exact ⟨by rw [hr], ⟨by rw [e1]; exact hA.out⟩, hX, hDA, hEA⟩
          · have e1 : s1 F x = upR F 1 (F 1 + 1) := by unfold s1; rw [if_neg he]
            have he1 : (x.e == 0) = false := by rw [beq_eq_false_iff_ne]; exact he
            go_wp2
            go_meet
            exact ⟨rfl, ⟨by rw [e1]; exact hA.out.put 1 (by omega) (F 1 + 1)⟩, ⟨blk_put2 hX.out (by omega)⟩, ⟨blk_put2 hDA.out (by omega)⟩, ⟨Ext.put hEA.out hCs 1 _⟩⟩
        case rest =>
          clear hA hEA hDA hX z10
          obtain ⟨rfl, hA, hX, hDA, hEA⟩ := hcut
          replace hbd := Box.mk (hbd.out.s1 x)
          generalize hG : s1 F x = G at *
          clear hG
          have z10 : wc.cell? ⟨X, 10, none⟩ = some (.int .i64 x.e) := by rw [Lib.cell_of_heap hX.out]; rfl
          have z11 : wc.cell? ⟨X, 11, none⟩ = some (.bool x.hit) := by rw [Lib.cell_of_heap hX.out]; rfl
          go_upto_region 13 with (fail)
          go_cut [6, 73] from 12 to 120 (fun s6 s73 wx => s6 = .bool x.read ∧ s73 = .bool (decide (x.e = 0) && (x.read && x.hit)) ∧ wc = wx)
          case first => as_aux_lemma =>
            by_cases he : x.e = 0
            · have he1 : (x.e == 0) = true := by rw [beq_iff_eq]; exact he
              have he2 : decide (x.e = 0) = true := decide_eq_true he
              rw [he] at z10
              cases hr : x.read
              all_goals
                go_wp2
                go_meet
                exact ⟨by rw [hr], by simp [he, hr], rfl⟩
            · have he1 : (x.e == 0) = false := by rw [beq_eq_false_iff_ne]; exact he
              have he2 : decide (x.e = 0) = false := decide_eq_false he
              go_wp2
              go_meet
              exact ⟨rfl, by simp [he], rfl⟩
          case rest =>
            obtain ⟨rfl, rfl, rfl⟩ := hcut
            have hs2 : Box (s2 G x = if (decide (x.e = 0) && (x.read && x.hit)) = true then upR G 3 (G 3 + 1) else G) := ⟨by unfold s2; simp only [Bool.and_eq_true, decide_eq_true_eq]⟩
            generalize (decide (x.e = 0) && (x.read && x.hit)) = bb at *
            go_upto_if 73 with (fail)
            go_cut [] from 12 to 120 (fun wx => Box (RcAt C (s2 G x) wx) ∧ Box (wx.heap[X]? = some (.cells (Res.cs x).toArray 75 (0, 0))) ∧ Box (wx.heap[D]? = some (.cells (rC fun _ => 0) 54 (0, 0))) ∧ Box (Ext w wx))
            case first => as_aux_lemma =>
              have b3 := hbd.out 3 (by omega)
              have c3 : wc.cell? ⟨C, 3, none⟩ = some (.int .i64 (G 3)) := hA.out.cell 3 (by omega)
              have f3 := hA.out.froz 3
              cases bb with
              | true =>
                go_wp2
                go_meet
                exact ⟨⟨by rw [hs2.out]; (first | rw [if_pos rfl] | rw [if_pos trivial]); exact hA.out.put 3 (by omega) (G 3 + 1)⟩, ⟨blk_put2 hX.out (by omega)⟩, ⟨blk_put2 hDA.out (by omega)⟩, ⟨Ext.put hEA.out hCs 3 _⟩⟩
              | false =>
                go_wp2
                go_meet
                exact ⟨⟨by rw [hs2.out]; (first | rw [if_neg Bool.false_ne_true] | rw [if_neg not_false]); exact hA.out⟩, hX, hDA, hEA⟩
            case rest =>
              clear hA hEA hDA hX hs2 z10 z11
              obtain ⟨hA, hX, hDA, hEA⟩ := hcut
              replace hbd := Box.mk (hbd.out.s2 x)
              generalize hH : s2 G x = H at *
              clear hH
              have c10 : wc.cell? ⟨C, 10, none⟩ = some (.int .i64 (H 10)) := hA.out.cell 10 (by omega)
              have f10 := hA.out.froz 10
              have z19 : wc.cell? ⟨X, 19, none⟩ = some (.int .i64 x.len) := by rw [Lib.cell_of_heap hX.out]; rfl
              go_upto_if 82 with (fail)
              go_cut [] from 12 to 120 (fun wx => Box (RcAt C (s3 H x) wx) ∧ Box (wx.heap[X]? = some (.cells (Res.cs x).toArray 75 (0, 0))) ∧ Box (wx.heap[D]? = some (.cells (rC fun _ => 0) 54 (0, 0))) ∧ Box (Ext w wx))
              case first => as_aux_lemma =>
                by_cases hlt : H 10 < x.len
                · have d1 : decide (H 10 < x.len) = true := decide_eq_true hlt
                  go_wp2
                  go_meet
                  exact ⟨⟨(hA.out.put 10 (by omega) x.len).congr (fun i _ => by unfold s3 gt; rw [if_pos hlt])⟩, ⟨blk_put2 hX.out (by omega)⟩, ⟨blk_put2 hDA.out (by omega)⟩, ⟨Ext.put hEA.out hCs 10 _⟩⟩
                · have d1 : decide (H 10 < x.len) = false := decide_eq_false hlt
                  have d2 : x.len ≤ H 10 := by omega
                  go_wp2
                  go_meet
                  exact ⟨⟨hA.out.congr (upR_same H 10 _ (by unfold gt; rw [if_neg (by omega)]))⟩, hX, hDA, hEA⟩
              case rest =>
                clear hA hEA hDA hX c10 f10 z19
                obtain ⟨hA, hX, hDA, hEA⟩ := hcut
                replace hbd := Box.mk (hbd.out.s3 x)
                generalize hI : s3 H x = I at *
                clear hI
                have c10 : wc.cell? ⟨C, 11, none⟩ = some (.int .i64 (I 11)) := hA.out.cell 11 (by omega)
                have f10 := hA.out.froz 11
                have z19 : wc.cell? ⟨X, 20, none⟩ = some (.int .i64 x.cost) := by rw [Lib.cell_of_heap hX.out]; rfl
                go_upto_if 90 with (fail)
                go_cut [] from 12 to 120 (fun wx => Box (RcAt C (s4 I x) wx) ∧ Box (wx.heap[X]? = some (.cells (Res.cs x).toArray 75 (0, 0))) ∧ Box (wx.heap[D]? = some (.cells (rC fun _ => 0) 54 (0, 0))) ∧ Box (Ext w wx))
                case first => as_aux_lemma =>
                  by_cases hlt : I 11 < x.cost
                  · have d1 : decide (I 11 < x.cost) = true := decide_eq_true hlt
                    go_wp2
                    go_meet
                    exact ⟨⟨(hA.out.put 11 (by omega) x.cost).congr (fun i _ => by unfold s4 gt; rw [if_pos hlt])⟩, ⟨blk_put2 hX.out (by omega)⟩, ⟨blk_put2 hDA.out (by omega)⟩, ⟨Ext.put hEA.out hCs 11 _⟩⟩
                  · have d1 : decide (I 11 < x.cost) = false := decide_eq_false hlt
                    have d2 : x.cost ≤ I 11 := by omega
                    go_wp2
                    go_meet
                    exact ⟨⟨hA.out.congr (upR_same I 11 _ (by unfold gt; rw [if_neg (by omega)]))⟩, hX, hDA, hEA⟩
                case rest =>
                  clear hA hEA hDA hX c10 f10 z19
                  obtain ⟨hA, hX, hDA, hEA⟩ := hcut
                  replace hbd := Box.mk (hbd.out.s4 x)
                  generalize hK : s4 I x = K at *
                  clear hK
                  have z18 : wc.cell? ⟨X, 18, none⟩ = some (.slice x.ea x.el.length x.ec) := by rw [Lib.cell_of_heap hX.out]; rfl
                  generalize hee : x.el.length = ee at *
                  go_wp2
                  go_loopw [7, 8] (fun jv _ wv => ∃ j : Nat, j ≤ ee ∧ jv = .int .i64 j ∧ Box (RcAt C (evR K (x.el.take j)) wv) ∧ Box (wv.heap[X]? = some (.cells (Res.cs x).toArray 75 (0, 0))) ∧ Box (wv.heap[D]? = some (.cells (rC fun _ => 0) 54 (0, 0))) ∧ Box (Ext w wv)) (fun jv _ _ => ee - (intOf jv).toNat)
                  case atStart => exact ⟨0, by omega, rfl, ⟨hA.out.congr (by rw [List.take_zero]; exact evR_nil _)⟩, hX, hDA, hEA⟩
                  case round =>
                    clear hA hX hDA hEA z18
                    obtain ⟨j, hj, rfl, hR, hX, hD, hE⟩ := hrel
                    have z18 : wr.cell? ⟨X, 18, none⟩ = some (.slice x.ea x.el.length x.ec) := by rw [Lib.cell_of_heap hX.out]; rfl
                    rw [hee] at z18
                    by_cases hje : j < ee
                    · as_aux_lemma =>
                      have hjE : j < x.el.length := by rw [hee]; exact hje
                      obtain ⟨b2, o2, hea, hrow2⟩ := rows_row Ev6.cs 6 Ev6.cs_len (by decide) (CellsAt.ext hE.out hEv.out) j hjE
                      rw [hea] at z18
                      have v0 : wr.cell? ⟨b2, o2 + j * 6 + 0, none⟩ = some (.int .i64 (x.el[j]).k) := hrow2 0 _ rfl
                      rw [Nat.add_zero] at v0
                      clear hrow2
                      have jn0 : (0 : Int) ≤ (j : Int) := by omega
                      have jn1 : (j : Int) < (ee : Int) := by omega
                      have jn2 : decide ((j : Int) < (ee : Int)) = true := decide_eq_true jn1
                      have jn3 : decide (j < ee) = true := decide_eq_true hje
                      have hyes := Box.mk (evR_yes K x.el j)
                      have hno := Box.mk (evR_no K x.el j hjE)
                      have hbg : Box (∀ i, i < 10 → 0 ≤ evR K (x.el.take j) i ∧ evR K (x.el.take j) i ≤ 81982) := ⟨fun i hi => by
                        have := evR_bd K (x.el.take j) _ hbd.out (by simp; omega) i hi
                        omega⟩
                      generalize hvv : x.el[j] = v at *
                      generalize hgg : evR K (x.el.take j) = g at *
                      clear hgg
                      by_cases hk : 1 ≤ v.k ∧ v.k ≤ 5
                      · obtain ⟨m, hm⟩ : ∃ m : Nat, v.k = m := ⟨v.k.toNat, by omega⟩
                        obtain ⟨hk1, hk5⟩ := hk
                        rw [hm] at hk1 hk5 v0
                        have hy := Box.mk (hyes.out m hjE (by rw [hvv]; exact hm) (by omega) (by omega))
                        clear hyes hno
                        obtain rfl | rfl | rfl | rfl | rfl : m = 1 ∨ m = 2 ∨ m = 3 ∨ m = 4 ∨ m = 5 := by omega
                        · as_aux_lemma =>
                          have cq : wr.cell? ⟨C, 5, none⟩ = some (.int .i64 (g 5)) := hR.out.cell 5 (by omega)
                          have fq := hR.out.froz 5
                          have bq := hbg.out 5 (by omega)
                          have hRn : Box (RcAt C _ (wr.setCell ⟨C, 5, none⟩ (.int .i64 (g 5 + 1)))) := ⟨(hR.out.put 5 (by omega) (g 5 + 1)).congr hy.out⟩
                          have hXn : Box ((wr.setCell ⟨C, 5, none⟩ (.int .i64 (g 5 + 1))).heap[X]? = _) := ⟨blk_put2 hX.out (by omega)⟩
                          have hDn : Box ((wr.setCell ⟨C, 5, none⟩ (.int .i64 (g 5 + 1))).heap[D]? = _) := ⟨blk_put2 hD.out (by omega)⟩
                          have hEn := Box.mk (Ext.put hE.out hCs 5 (.int .i64 (g 5 + 1)))
                          go_wp2
                          go_roundw
                          case rel => exact ⟨j + 1, by omega, by go_num, hRn, hXn, hDn, hEn⟩
                          case measure => simp [intOf]; omega
                        · as_aux_lemma =>
                          have cq : wr.cell? ⟨C, 6, none⟩ = some (.int .i64 (g 6)) := hR.out.cell 6 (by omega)
                          have fq := hR.out.froz 6
                          have bq := hbg.out 6 (by omega)
                          have hRn : Box (RcAt C _ (wr.setCell ⟨C, 6, none⟩ (.int .i64 (g 6 + 1)))) := ⟨(hR.out.put 6 (by omega) (g 6 + 1)).congr hy.out⟩
                          have hXn : Box ((wr.setCell ⟨C, 6, none⟩ (.int .i64 (g 6 + 1))).heap[X]? = _) := ⟨blk_put2 hX.out (by omega)⟩
                          have hDn : Box ((wr.setCell ⟨C, 6, none⟩ (.int .i64 (g 6 + 1))).heap[D]? = _) := ⟨blk_put2 hD.out (by omega)⟩
                          have hEn := Box.mk (Ext.put hE.out hCs 6 (.int .i64 (g 6 + 1)))
                          go_wp2
                          go_roundw
                          case rel => exact ⟨j + 1, by omega, by go_num, hRn, hXn, hDn, hEn⟩
                          case measure => simp [intOf]; omega
                        · as_aux_lemma =>
                          have cq : wr.cell? ⟨C, 7, none⟩ = some (.int .i64 (g 7)) := hR.out.cell 7 (by omega)
                          have fq := hR.out.froz 7
                          have bq := hbg.out 7 (by omega)
                          have hRn : Box (RcAt C _ (wr.setCell ⟨C, 7, none⟩ (.int .i64 (g 7 + 1)))) := ⟨(hR.out.put 7 (by omega) (g 7 + 1)).congr hy.out⟩
                          have hXn : Box ((wr.setCell ⟨C, 7, none⟩ (.int .i64 (g 7 + 1))).heap[X]? = _) := ⟨blk_put2 hX.out (by omega)⟩
                          have hDn : Box ((wr.setCell ⟨C, 7, none⟩ (.int .i64 (g 7 + 1))).heap[D]? = _) := ⟨blk_put2 hD.out (by omega)⟩
                          have hEn := Box.mk (Ext.put hE.out hCs 7 (.int .i64 (g 7 + 1)))
                          go_wp2
                          go_roundw
                          case rel => exact ⟨j + 1, by omega, by go_num, hRn, hXn, hDn, hEn⟩
                          case measure => simp [intOf]; omega
                        · as_aux_lemma =>
                          have cq : wr.cell? ⟨C, 8, none⟩ = some (.int .i64 (g 8)) := hR.out.cell 8 (by omega)
                          have fq := hR.out.froz 8
                          have bq := hbg.out 8 (by omega)
                          have hRn : Box (RcAt C _ (wr.setCell ⟨C, 8, none⟩ (.int .i64 (g 8 + 1)))) := ⟨(hR.out.put 8 (by omega) (g 8 + 1)).congr hy.out⟩
                          have hXn : Box ((wr.setCell ⟨C, 8, none⟩ (.int .i64 (g 8 + 1))).heap[X]? = _) := ⟨blk_put2 hX.out (by omega)⟩
                          have hDn : Box ((wr.setCell ⟨C, 8, none⟩ (.int .i64 (g 8 + 1))).heap[D]? = _) := ⟨blk_put2 hD.out (by omega)⟩
                          have hEn := Box.mk (Ext.put hE.out hCs 8 (.int .i64 (g 8 + 1)))
                          go_wp2
                          go_roundw
                          case rel => exact ⟨j + 1, by omega, by go_num, hRn, hXn, hDn, hEn⟩
                          case measure => simp [intOf]; omega
                        · as_aux_lemma =>
                          have cq : wr.cell? ⟨C, 9, none⟩ = some (.int .i64 (g 9)) := hR.out.cell 9 (by omega)
                          have fq := hR.out.froz 9
                          have bq := hbg.out 9 (by omega)
                          have hRn : Box (RcAt C _ (wr.setCell ⟨C, 9, none⟩ (.int .i64 (g 9 + 1)))) := ⟨(hR.out.put 9 (by omega) (g 9 + 1)).congr hy.out⟩
                          have hXn : Box ((wr.setCell ⟨C, 9, none⟩ (.int .i64 (g 9 + 1))).heap[X]? = _) := ⟨blk_put2 hX.out (by omega)⟩
                          have hDn : Box ((wr.setCell ⟨C, 9, none⟩ (.int .i64 (g 9 + 1))).heap[D]? = _) := ⟨blk_put2 hD.out (by omega)⟩
                          have hEn := Box.mk (Ext.put hE.out hCs 9 (.int .i64 (g 9 + 1)))
                          go_wp2
                          go_roundw
                          case rel => exact ⟨j + 1, by omega, by go_num, hRn, hXn, hDn, hEn⟩
                          case measure => simp [intOf]; omega
                      · as_aux_lemma =>
                        have hy := Box.mk (hno.out (by omega))
                        clear hyes hno
                        have hk2 : (decide (1 ≤ v.k) = true ∧ decide (v.k ≤ 5) = false) ∨ decide (1 ≤ v.k) = false := by
                          by_cases h1 : 1 ≤ v.k
                          · exact Or.inl ⟨decide_eq_true h1, decide_eq_false (by omega)⟩
                          · exact Or.inr (decide_eq_false h1)
                        clear hk
                        rcases hk2 with ⟨h1, h2⟩ | h1
                        all_goals
                          go_wp2
                          go_roundw
                          case rel => exact ⟨j + 1, by omega, by go_num, ⟨hR.out.congr hy.out⟩, hX, hD, hE⟩
                          case measure => simp [intOf]; omega
                    · as_aux_lemma =>
                      obtain rfl : j = ee := by omega
                      have hRf : Box (RcAt C (evR K x.el) wr) := ⟨by
                        have := hR.out
                        rwa [← hee, List.take_length] at this⟩
                      have jd0 : decide ((j : Int) < (j : Int)) = false := decide_eq_false (by omega)
                      have jd1 : decide (j < j) = false := decide_eq_false (by omega)
                      go_wp2
                      go_roundw
                      case rel => exact ⟨t + 1, by omega, by go_num, ⟨hRf.out.congr fun i hi => (hall.out i hi).trans (hfin.out i hi)⟩, hD, hE⟩
                      case measure => simp [intOf]; omega
end Go.Proofs.YtcofejbkbcdopaaDoor
