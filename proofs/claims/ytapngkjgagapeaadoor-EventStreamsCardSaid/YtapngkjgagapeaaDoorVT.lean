import Derived.Test.YtapngkjgagapeaaDoorVS
import Derived.Test.YtapngkjgagapeaaDoorCU
/- Take, lists of events, SameAll, takes, Read of a short text, the known examples. -/
namespace Go.Proofs.YtapngkjgagapeaaDoor
open Go.RowKit
def evC (m : Nd) : List Value := [.int .i64 m.v.kind, .string (bs m.v.e.key), m.u, .int .u64 m.v.e.birth, .int .u64 m.v.e.dl, .int .u64 m.v.now]
def evs (L : List Nd) : List Value := L.flatMap evC
theorem evs_snoc (L : List Nd) (t : Nat) (h : t < L.length) : evs (L.take (t + 1)) = evs (L.take t) ++ evC L[t] := by
  unfold evs
  rw [List.take_succ_eq_append_getElem h, List.flatMap_append]
  simp
def stD (R : List Nd) (last : Value) (cs : Nat → Nat) (n : Nat) : Array Value := #[nxt R (.pointer none), last, .int .u64 (cs 0), .int .u64 (cs 1), .int .u64 (cs 2), .int .u64 (cs 3), .int .u64 (cs 4), .int .u64 (cs 5), .int .i64 n, .bool true]
theorem lst_drop (L : List Nd) (t : Nat) (h : t < L.length) : lst (L.drop t) = lst L := by
  induction L generalizing t with
  | nil => simp at h
  | cons a r ih =>
    cases t with
    | zero => rfl
    | succ t =>
      have h' : t < r.length := by simpa using h
      rw [List.drop_succ_cons, ih t h']
      cases r with
      | nil => simp at h'
      | cons b s => rfl
theorem Lnk.drop {w : World} {L : List Nd} {tl : Value} (h : Lnk w L tl) (t : Nat) : Lnk w (L.drop t) tl := by
  induction L generalizing t with
  | nil => simp; trivial
  | cons a r ih =>
    cases t with
    | zero => exact h
    | succ t => exact ih h.2 t
theorem Lnk.get {w : World} {L : List Nd} (h : Lnk w L (.pointer none)) (t : Nat) (ht : t < L.length) : NdAt w L[t] (nxt (L.drop (t + 1)) (.pointer none)) := by
  have h1 := h.drop t
  rw [List.drop_eq_getElem_cons ht] at h1
  exact h1.1
theorem infoEvent : (Tryd.prog.info? 28).map (fun i => (i.zero, i.size, i.bytes)) = some (some (.agg #[.int .i64 0, .string ⟨#[]⟩, .slice none 0 0, .int .u64 0, .int .u64 0, .int .u64 0]), 6, 72) := by kernel_rfl
theorem Mut.belowX {X : Nat → Prop} {w wr w2 : World} (h : Mut X w wr) (hb : Below w.heap.size wr w2) (hs : ∀ w0, Ext w0 w → w0.heap.size ≤ w.heap.size) : Mut X w w2 :=
  ⟨Nat.le_trans h.size hb.size, fun j hj hx => (hb.block j hj).trans (h.other j hj hx), fun w0 h0 h1 => Below.trans (h.ext w0 h0 h1) (hb.mono (hs w0 h0))⟩
theorem stD_cells {w : World} {S : Nat} {R : List Nd} {last : Value} {cs : Nat → Nat} {n : Nat} (h : w.heap[S]? = some (.cells (stD R last cs n) 69 (0, 0))) :
    w.cell? ⟨S, 0, none⟩ = some (nxt R (.pointer none)) ∧ w.cell? ⟨S, 1, none⟩ = some last ∧ w.cell? ⟨S, 8, none⟩ = some (.int .i64 n) ∧ w.frozen? ⟨S, 0, none⟩ = false ∧ w.frozen? ⟨S, 1, none⟩ = false ∧ w.frozen? ⟨S, 8, none⟩ = false :=
  ⟨by rw [Lib.cell_of_heap h]; rfl, by rw [Lib.cell_of_heap h]; rfl, by rw [Lib.cell_of_heap h]; rfl, Lib.frozen_of_heap h 0, Lib.frozen_of_heap h 1, Lib.frozen_of_heap h 8⟩
theorem node_cells {w : World} {m : Nd} {nx : Value} (h : w.heap[m.at_]? = some (.cells (ndC m.v m.u nx) 92 (0, 0))) :
    w.cell? ⟨m.at_, 0, none⟩ = some (.int .i64 m.v.kind) ∧ w.cell? ⟨m.at_, 1, none⟩ = some (.string (bs m.v.e.key)) ∧ w.cell? ⟨m.at_, 2, none⟩ = some m.u ∧ w.cell? ⟨m.at_, 3, none⟩ = some (.int .u64 m.v.e.birth) ∧ w.cell? ⟨m.at_, 4, none⟩ = some (.int .u64 m.v.e.dl) ∧ w.cell? ⟨m.at_, 5, none⟩ = some (.int .u64 m.v.now) ∧ w.cell? ⟨m.at_, 6, none⟩ = some nx :=
  ⟨by rw [Lib.cell_of_heap h]; rfl, by rw [Lib.cell_of_heap h]; rfl, by rw [Lib.cell_of_heap h]; rfl, by rw [Lib.cell_of_heap h]; rfl, by rw [Lib.cell_of_heap h]; rfl, by rw [Lib.cell_of_heap h]; rfl, by rw [Lib.cell_of_heap h]; rfl⟩
theorem row_shape {w : World} {base : Nat} {e : TypeId} {size : Nat} {v : Value} {n : Nat} {xs : List Value} (h : w.ownsRow base e size v n xs) : ∃ a c, v = .slice a n c := by
  rcases h.2 with ⟨rfl, rfl⟩ | ⟨g, cap, cur, rfl, _⟩
  · exact ⟨none, 0, rfl⟩
  · exact ⟨_, _, rfl⟩
theorem ownsRow_put {w : World} {base : Nat} {e : TypeId} {size : Nat} {v : Value} {n : Nat} {xs : List Value} (h : w.ownsRow base e size v n xs) (p : Addr) (hp : p.block < base) (x : Value) : (w.setCell p x).ownsRow base e size v n xs := by
  refine ⟨h.1, ?_⟩
  rcases h.2 with h2 | ⟨g, cap, cur, hv, hb1, hg, r⟩
  · exact Or.inl h2
  · exact Or.inr ⟨g, cap, cur, hv, hb1, (heap_setCell_other _ _ _ _ (by omega)).trans hg, r⟩
theorem Strm.rest {w w' : World} {S : Nat} {L : List Nd} {cs : Nat → Nat} {n : Nat} (h : Strm w S L cs n) (t m : Nat) (hM : Mut (fun j => j = S) w w') (hS : w'.heap[S]? = some (.cells (stC (L.drop t) cs m) 69 (0, 0))) : Strm w' S (L.drop t) cs m :=
  ⟨hS, (h.lk.drop t).keep (fun k hk => by
      have h1 := List.mem_of_mem_drop hk
      exact hM.other _ (h.lt k h1) (by have := h.up k h1; omega)) (fun u l hu => By.mut hM (fun j hj => h.noB j (Or.inl hj)) hu),
    fun k hk => h.up k (List.mem_of_mem_drop hk), h.inc.sublist (List.drop_sublist _ _)⟩
/-- What Take leaves. -/
def TakePost (S : Nat) (L : List Nd) (cs : Nat → Nat) (most : Nat) (w : World) (e : Ending) (w' : World) : Prop :=
  ∃ v, e = .returned (.tuple #[v, .int .i64 0]) ∧ w'.ownsRow w.heap.size 28 6 v (min most L.length) (evs (L.take (min most L.length))) ∧ Strm w' S (L.drop (min most L.length)) cs (L.length - min most L.length) ∧ Mut (fun j => j = S) w w'
set_option maxRecDepth 100000 in
set_option maxHeartbeats 4000000 in
theorem take_any (S : Nat) (L : List Nd) (cs : Nat → Nat) (most : Nat) (w : World) (h : Strm w S L cs L.length) (hL : L.length ≤ 1048576) (hmost : most ≤ 9223372036854775807) :
    Calls Tryd.prog 19 #[.pointer (some ⟨S, 0, none⟩), .int .i64 most] w (TakePost S L cs most w) := by
  obtain ⟨i0, hi, hz0, hz1, hz2⟩ := info_parts infoEvent
  obtain ⟨s0, s1, s8, s9, f0, f1, f8⟩ := h.cells
  have c1 : Box _ := ⟨none_any S w s9⟩
  have H := Box.mk h
  have hSlt := blk_lt h.hd
  have hb : Box (w.heap[S]? = some (.cells (stD (L.drop 0) (lst L) cs (L.length - 0)) 69 (0, 0))) := ⟨h.hd⟩
  obtain ⟨Post, hPost⟩ : ∃ P, P = TakePost S L cs most w := ⟨_, rfl⟩
  rw [← hPost]
  have HP := Box.mk hPost
  obtain ⟨len, hlen⟩ : ∃ n, n = L.length := ⟨_, rfl⟩
  have HLen := Box.mk hlen
  have d0 : decide ((most : Int) < 0) = false := decide_eq_false (by omega)
  clear hPost h s0 s1 s8 s9 f0 f1 f8
  go_enter Tryd.func19, Tryd.ntmps19
  go_wp2_with (first | (go_at_call 46; (with_reducible refine (c1.out).mono ?_); rintro e w' ⟨rfl, rfl⟩))
  go_loopw [6] (fun v wr => ∃ t : Nat, t ≤ L.length ∧ t ≤ most ∧ wr.ownsRow w.heap.size 28 6 v t (evs (L.take t)) ∧ Box (wr.heap[S]? = some (.cells (stD (L.drop t) (lst L) cs (L.length - t)) 69 (0, 0))) ∧ Box (Mut (fun j => j = S) w wr)) (fun v _ => match v with | .slice _ t _ => L.length - t | _ => 0)
  case atStart => exact ⟨0, by omega, by omega, World.ownsRow_nil _ _ _ _, hb, ⟨Mut.refl _ _⟩⟩
  case round =>
    obtain ⟨t, htL, htm, hown, hS, hM⟩ := hrel
    obtain ⟨a, c, rfl⟩ := row_shape hown
    obtain ⟨s0, s1, s8, f0, f1, f8⟩ := stD_cells hS.out
    by_cases htk : t < most ∧ t < L.length
    · obtain ⟨ht1, ht2⟩ := htk
      have d1 : decide ((t : Int) < (most : Int)) = true := decide_eq_true (by omega)
      have d2 : decide (t < most) = true := decide_eq_true ht1
      have hnd := H.out.lk.get t ht2
      have hnlt := H.out.lt _ (List.getElem_mem ht2)
      have hnS := H.out.up _ (List.getElem_mem ht2)
      have hnb := (hM.out.other _ hnlt (by omega)).trans hnd.2.1
      obtain ⟨n0, n1, n2, n3, n4, n5, n6⟩ := node_cells hnb
      obtain ⟨⟨pa, pc, hu⟩, _⟩ := hnd
      rw [hu] at n2
      have hdropq : Box (nxt (L.drop t) (.pointer none) = .pointer (some ⟨L[t].at_, 0, none⟩)) := ⟨by rw [List.drop_eq_getElem_cons ht2]; rfl⟩
      rw [hdropq.out] at s0
      have hsnoc := Box.mk (evs_snoc L t ht2)
      have hevc : Box (evC L[t] = [.int .i64 L[t].v.kind, .string (bs L[t].v.e.key), .slice pa L[t].v.e.val.length pc, .int .u64 L[t].v.e.birth, .int .u64 L[t].v.e.dl, .int .u64 L[t].v.now]) := ⟨by unfold evC; rw [hu]⟩
      have hsub : IntKind.i64.wrap (((L.length - t : Nat) : Int) - 1) = ((L.length - (t + 1) : Nat) : Int) := by rw [IntKind.wrap_i64]; omega
      obtain ⟨np, hnp⟩ := nxt_ptr (L.drop (t + 1))
      rw [hnp] at n6
      have HNP := Box.mk hnp
      generalize L[t] = m at *
      generalize (Option.map (fun x => (⟨x, 0, none⟩ : Addr)) np) = q at *
      have hbyte : (t + 1) * 72 ≤ 140737488355328 := by omega
      go_wp2_with (at_builtin; refine wpList_push rfl _ _ 41 rfl w.heap.size 28 i0 _ 6 72 Tryd.underlying41 hi hz0 hz1 hz2 rfl (by decide) _ _ _ rfl hown [.int .i64 m.v.kind, .string (bs m.v.e.key), .slice pa m.v.e.val.length pc, .int .u64 m.v.e.birth, .int .u64 m.v.e.dl, .int .u64 m.v.now] rfl rfl (by simp [Value.oneCell']) (by omega) hbyte hM.out.size ?_; intro v1 w2 hown2 hg2 hbel2 hs2; (try clear s0 s1 s8 f0 f1 f8 n0 n1 n2 n3 n4 n5 n6); have hS2 := (hbel2.block S hSlt).trans hS.out; have hnb2 := (hbel2.block _ hnlt).trans hnb; obtain ⟨s0, s1, s8, f0, f1, f8⟩ := stD_cells hS2; rw [hdropq.out] at s0; obtain ⟨n0, n1, n2, n3, n4, n5, n6⟩ := node_cells hnb2; rw [HNP.out] at n6; have hb9 := Box.mk hbel2; have hS9 := Box.mk hS2; clear hg2 hbel2 hS2 hnb2 n0 n1 n2 n3 n4 n5)
      rw [← hevc.out, ← hsnoc.out] at hown2
      obtain ⟨a2, c2, rfl⟩ := row_shape hown2
      have hM2 := hM.out.belowX hb9.out (fun _ h0 => h0.size)
      refine ⟨⟨t + 1, by omega, by omega, ownsRow_put (ownsRow_put hown2 ⟨S, 0, none⟩ hSlt _) ⟨S, 8, none⟩ hSlt _, ⟨?_⟩, ⟨(hM2.trans (Mut.put w2 ⟨S, 0, none⟩ _ rfl)).trans (Mut.put _ ⟨S, 8, none⟩ _ rfl)⟩⟩, by simp only; omega⟩
      rw [heap_setCell_same _ S 8 _ _ _ (heap_setCell_same w2 S 0 _ _ _ hS9.out)]
      unfold stD
      rw [HNP.out]
      rfl
    · by_cases hend : t = L.length
      · have hnil : Box (L.drop t = []) := ⟨by rw [hend]; exact List.drop_length⟩
        have hmn : Box (min most L.length = t) := ⟨by omega⟩
        rw [hnil.out] at s0
        have key : decide ((t : Int) < (most : Int)) = true ∨ decide ((t : Int) < (most : Int)) = false := by cases decide ((t : Int) < (most : Int)) <;> simp
        have key2 : decide (t < most) = decide ((t : Int) < (most : Int)) := decide_eq_decide.2 (by omega)
        simp only [nxt] at s0
        have hS' : (wr.setCell ⟨S, 1, none⟩ (.pointer none)).heap[S]? = some (.cells (stC (L.drop t) cs (L.length - t)) 69 (0, 0)) := by
          rw [heap_setCell_same _ S 1 _ _ _ hS.out]
          unfold stD stC
          rw [hnil.out]
          rfl
        have hM' := hM.out.trans (Mut.put wr ⟨S, 1, none⟩ (.pointer none) rfl)
        have hR := Box.mk (H.out.rest t (L.length - t) hM' hS')
        have HM := Box.mk hM'
        have HO := Box.mk (ownsRow_put hown ⟨S, 1, none⟩ hSlt (.pointer none))
        clear hS' hM' htk hend
        rcases key with d1 | d1
        all_goals
          rw [d1] at key2
          go_wp2
          rw [HP.out]
          unfold TakePost
          rw [hmn.out]
          exact ⟨_, rfl, HO.out, hR.out, HM.out⟩
      · have htl : t < L.length := by omega
        have hmn : Box (min most L.length = t) := ⟨by omega⟩
        have d1 : decide ((t : Int) < (most : Int)) = false := decide_eq_false (by omega)
        have d2 : decide (t < most) = false := decide_eq_false (by omega)
        rw [List.drop_eq_getElem_cons htl] at s0
        simp only [nxt, ptr] at s0
        have hS' : wr.heap[S]? = some (.cells (stC (L.drop t) cs (L.length - t)) 69 (0, 0)) := by
          rw [hS.out]
          unfold stD stC
          rw [lst_drop L t htl]
        have hR := Box.mk (H.out.rest t (L.length - t) hM.out hS')
        have HO := Box.mk hown
        clear hS' htk hend
        go_wp2
        rw [HP.out]
        unfold TakePost
        rw [hmn.out]
        exact ⟨_, rfl, HO.out, hR.out, hM.out⟩
/-- A slice of events. -/
def Es (w : World) (v : Value) (L : List Nd) : Prop :=
  ∃ a c, v = .slice a L.length c ∧ L.length ≤ 1048576 ∧ L.length ≤ c ∧ CellsAt w a (evs L) ∧ ∀ m ∈ L, (∃ p q, m.u = .slice p m.v.e.val.length q) ∧ By w m.u m.v.e.val
theorem evs_len (L : List Nd) : (evs L).length = 6 * L.length := by
  induction L with
  | nil => rfl
  | cons m r ih =>
    show (evC m ++ evs r).length = _
    rw [List.length_append, ih]
    simp [evC]; omega
theorem evs_at (L : List Nd) (i j : Nat) (hi : i < L.length) (hj : j < 6) : (evs L)[6 * i + j]? = (evC L[i])[j]? := by
  induction L generalizing i with
  | nil => simp at hi
  | cons m r ih =>
    show (evC m ++ evs r)[6 * i + j]? = _
    cases i with
    | zero =>
      rw [List.getElem?_append_left (by simp [evC]; omega)]
      simp
    | succ i =>
      rw [List.getElem?_append_right (by simp [evC]; omega)]
      have e : 6 * (i + 1) + j - (evC m).length = 6 * i + j := by simp [evC]; omega
      rw [e, ih i (by simpa using hi)]
      rfl
theorem Es.nil (w : World) : Es w (.slice none 0 0) [] := ⟨none, 0, rfl, by decide, by decide, fun j u h => by simp [evs] at h, fun m hm => by cases hm⟩
theorem Es.ext {w w' : World} {v : Value} {L : List Nd} (h : Es w v L) (hb : Ext w w') : Es w' v L := by
  obtain ⟨a, c, h1, h2, h3, h4, h5⟩ := h
  exact ⟨a, c, h1, h2, h3, CellsAt.ext hb h4, fun m hm => ⟨(h5 m hm).1, By.ext hb (h5 m hm).2⟩⟩
theorem Es.row {w : World} {a : Option Addr} {c : Nat} {L : List Nd} (hc : CellsAt w a (evs L)) (i : Nat) (hi : i < L.length) : ∃ b o, a = some ⟨b, o, none⟩ ∧
    w.cell? ⟨b, o + i * 6, none⟩ = some (.int .i64 L[i].v.kind) ∧ w.cell? ⟨b, o + i * 6 + 1, none⟩ = some (.string (bs L[i].v.e.key)) ∧ w.cell? ⟨b, o + i * 6 + 2, none⟩ = some L[i].u ∧ w.cell? ⟨b, o + i * 6 + 3, none⟩ = some (.int .u64 L[i].v.e.birth) ∧ w.cell? ⟨b, o + i * 6 + 4, none⟩ = some (.int .u64 L[i].v.e.dl) ∧ w.cell? ⟨b, o + i * 6 + 5, none⟩ = some (.int .u64 L[i].v.now) := by
  obtain ⟨b, o, ha, h0⟩ := hc (6 * i + 0) _ (evs_at L i 0 hi (by omega))
  have hh : ∀ j u, j < 6 → (evC L[i])[j]? = some u → w.cell? ⟨b, o + i * 6 + j, none⟩ = some u := fun j u hj hu => by
    obtain ⟨b', o', ha', h'⟩ := hc (6 * i + j) u ((evs_at L i j hi hj).trans hu)
    rw [ha] at ha'
    cases ha'
    rw [Nat.mul_comm i 6, Nat.add_assoc]
    exact h'
  exact ⟨b, o, ha, hh 0 _ (by omega) rfl, hh 1 _ (by omega) rfl, hh 2 _ (by omega) rfl, hh 3 _ (by omega) rfl, hh 4 _ (by omega) rfl, hh 5 _ (by omega) rfl⟩
set_option maxRecDepth 100000 in
set_option maxHeartbeats 4000000 in
theorem sameAll_any (u v : Value) (L M : List Nd) (w : World) (hu : Es w u L) (hv : Es w v M) (he : L.map (·.v) = M.map (·.v)) :
    Calls Tryd.prog 34 #[u, v] w fun e w' => e = .returned (.bool true) ∧ Ext w w' := by
  have hlen : L.length = M.length := by have := congrArg List.length he; simpa using this
  obtain ⟨a, c, rfl, hl1, hc1, hcl, hml⟩ := hu
  obtain ⟨b, d, rfl, hl2, hc2, hcm, hmm⟩ := hv
  rw [← hlen]
  have HC := Box.mk hcl; have HD := Box.mk hcm; have HL := Box.mk hml; have HM := Box.mk hmm; have HE := Box.mk he; have HN := Box.mk hlen
  clear hcl hcm hml hmm he
  go_enter Tryd.func34, Tryd.ntmps34
  go_wp2
  go_loopw [5] (fun i wr => ∃ k : Nat, k ≤ L.length ∧ i = .int .i64 k ∧ Box (Ext w wr)) (fun i _ => L.length - (intOf i).toNat)
  case atStart => exact ⟨0, by omega, rfl, ⟨Below.refl _ _⟩⟩
  case round =>
    obtain ⟨k, hk, rfl, hx⟩ := hrel
    by_cases hkl : k < L.length
    · have hkm : k < M.length := by omega
      obtain ⟨b1, o1, rfl, p0, p1, p2, p3, p4, p5⟩ := Es.row (c := 0) (CellsAt.ext (Ext.drew1 hx.out) HC.out) k hkl
      obtain ⟨b2, o2, rfl, q0, q1, q2, q3, q4, q5⟩ := Es.row (c := 0) (CellsAt.ext (Ext.drew1 hx.out) HD.out) k hkm
      obtain ⟨⟨x1, y1, hu1⟩, hb1⟩ := HL.out L[k] (List.getElem_mem hkl)
      obtain ⟨⟨x2, y2, hu2⟩, hb2⟩ := HM.out M[k] (List.getElem_mem hkm)
      have hvk : L[k].v = M[k].v := by
        have h := congrArg (fun l => l[k]?) HE.out
        simpa [hkl, hkm] using h
      have cs : Box (∀ w', Ext w w' → Calls Tryd.prog 28 #[.agg #[.int .i64 L[k].v.kind, .string (bs L[k].v.e.key), .slice x1 L[k].v.e.val.length y1, .int .u64 L[k].v.e.birth, .int .u64 L[k].v.e.dl, .int .u64 L[k].v.now], .agg #[.int .i64 L[k].v.kind, .string (bs L[k].v.e.key), .slice x2 L[k].v.e.val.length y2, .int .u64 L[k].v.e.birth, .int .u64 L[k].v.e.dl, .int .u64 L[k].v.now]] w' fun e w'' => e = .returned (.bool true) ∧ Ext w' w'') := ⟨fun w' hx' => by
        rw [hu1] at hb1
        rw [hu2, ← hvk] at hb2
        have h := same_any L[k].v.kind L[k].v.kind (bs L[k].v.e.key) (bs L[k].v.e.key) _ _ _ _ L[k].v.e.birth L[k].v.e.birth L[k].v.e.dl L[k].v.e.dl L[k].v.now L[k].v.now w' (hb1.ext hx') (hb2.ext hx')
        rw [eqV_self] at h
        exact h⟩
      rw [hu1] at p2
      rw [hu2] at q2
      rw [← hvk] at q0 q1 q2 q3 q4 q5
      generalize L[k] = m at *
      clear hb1 hb2 hvk hu1 hu2
      go_wp2
      have hx1 := Ext.drew1 hx.out
      go_region_held3 (fun w' => (w'.cell? ⟨b1, o1 + k * 6, none⟩ = some (.int .i64 m.v.kind) ∧ w'.cell? ⟨b1, o1 + k * 6 + 1, none⟩ = some (.string (bs m.v.e.key)) ∧ w'.cell? ⟨b1, o1 + k * 6 + 2, none⟩ = some (.slice x1 m.v.e.val.length y1) ∧ w'.cell? ⟨b1, o1 + k * 6 + 3, none⟩ = some (.int .u64 m.v.e.birth) ∧ w'.cell? ⟨b1, o1 + k * 6 + 4, none⟩ = some (.int .u64 m.v.e.dl) ∧ w'.cell? ⟨b1, o1 + k * 6 + 5, none⟩ = some (.int .u64 m.v.now)) ∧ (w'.cell? ⟨b2, o2 + k * 6, none⟩ = some (.int .i64 m.v.kind) ∧ w'.cell? ⟨b2, o2 + k * 6 + 1, none⟩ = some (.string (bs m.v.e.key)) ∧ w'.cell? ⟨b2, o2 + k * 6 + 2, none⟩ = some (.slice x2 m.v.e.val.length y2) ∧ w'.cell? ⟨b2, o2 + k * 6 + 3, none⟩ = some (.int .u64 m.v.e.birth) ∧ w'.cell? ⟨b2, o2 + k * 6 + 4, none⟩ = some (.int .u64 m.v.e.dl) ∧ w'.cell? ⟨b2, o2 + k * 6 + 5, none⟩ = some (.int .u64 m.v.now)))
        (first | (exact ⟨⟨p0, p1, p2, p3, p4, p5⟩, ⟨q0, q1, q2, q3, q4, q5⟩⟩) | (exact ⟨⟨Ext.cell hb p0, Ext.cell hb p1, Ext.cell hb p2, Ext.cell hb p3, Ext.cell hb p4, Ext.cell hb p5⟩, ⟨Ext.cell hb q0, Ext.cell hb q1, Ext.cell hb q2, Ext.cell hb q3, Ext.cell hb q4, Ext.cell hb q5⟩⟩))
        (first | (go_at_call 28; (with_reducible refine (cs.out _ hx1).mono ?_); rintro e w1 ⟨rfl, hb⟩))
      have hx2 := Box.mk (Ext.trans' hx1 hb)
      go_wp2
      go_roundw
      case rel => exact ⟨k + 1, by omega, by go_num, hx2⟩
      case measure => simp [intOf]; omega
    · obtain rfl : k = L.length := by omega
      go_wp2
      go_ret
      exact ⟨rfl, hx.out⟩
theorem Es.of_row {w : World} {base : Nat} {v : Value} {L : List Nd} (h : w.ownsRow base 28 6 v L.length (evs L)) (hL : L.length ≤ 1048576) (hm : ∀ m ∈ L, (∃ p q, m.u = .slice p m.v.e.val.length q) ∧ By w m.u m.v.e.val) : Es w v L := by
  have hh := h
  rcases h.2 with ⟨rfl, h0⟩ | ⟨g, cap, cur, rfl, _, hg, hnc, hcm, hcs, htake⟩
  · obtain rfl := List.eq_nil_of_length_eq_zero h0
    exact Es.nil w
  · refine ⟨some ⟨g, 0, none⟩, cap, rfl, hL, hnc, fun j u hj => ⟨g, 0, rfl, ?_⟩, hm⟩
    have := hh.cells (g := g) rfl j u hj
    rw [Go.WideShapes.add_plain] at this
    exact this
theorem Lnk.mem {w : World} {L : List Nd} {tl : Value} (h : Lnk w L tl) : ∀ m ∈ L, (∃ p q, m.u = .slice p m.v.e.val.length q) ∧ By w m.u m.v.e.val := by
  induction L with
  | nil => intro m hm; cases hm
  | cons a r ih =>
    intro m hm
    rcases List.mem_cons.1 hm with rfl | hm
    · exact ⟨h.1.1, h.1.2.2⟩
    · exact ih h.2 m hm
set_option maxHeartbeats 4000000 in
theorem takes_any (S : Nat) (L M : List Nd) (cs : Nat → Nat) (most : Nat) (want : Value) (w : World) (h : Strm w S L cs L.length) (hL : L.length ≤ 1048576) (hmost : most ≤ 9223372036854775807)
    (hwant : ∀ w', Mut (fun j => j = S) w w' → Es w' want M) (he : (L.take (min most L.length)).map (·.v) = M.map (·.v)) :
    Calls Tryd.prog 32 #[.pointer (some ⟨S, 0, none⟩), .int .i64 most, want, .int .i64 0] w fun e w' => e = .returned (.bool true) ∧ Strm w' S (L.drop (min most L.length)) cs (L.length - min most L.length) ∧ Mut (fun j => j = S) w w' := by
  have c1 : Box (Calls Tryd.prog 19 #[.pointer (some ⟨S, 0, none⟩), .int .i64 most] w fun e w' => ∃ v, e = .returned (.tuple #[v, .int .i64 0]) ∧ Es w' v (L.take (min most L.length)) ∧ Strm w' S (L.drop (min most L.length)) cs (L.length - min most L.length) ∧ Mut (fun j => j = S) w w') := ⟨(take_any S L cs most w h hL hmost).mono fun e w' ⟨v, h1, h2, h3, h4⟩ => by
    have hlen : (L.take (min most L.length)).length = min most L.length := by rw [List.length_take]; omega
    refine ⟨v, h1, Es.of_row (by rw [hlen]; exact h2) (by rw [hlen]; omega) (fun m hm => ?_), h3, h4⟩
    obtain ⟨q1, q2⟩ := h.lk.mem m (List.mem_of_mem_take hm)
    exact ⟨q1, By.mut h4 (fun j hj => h.noB j (Or.inl hj)) q2⟩⟩
  have c2 : Box (∀ u w', Es w' u (L.take (min most L.length)) → Mut (fun j => j = S) w w' → Calls Tryd.prog 34 #[u, want] w' fun e w'' => e = .returned (.bool true) ∧ Ext w' w'') := ⟨fun u w' h1 h2 => sameAll_any u want _ M w' h1 (hwant w' h2) he⟩
  clear h hwant he
  go_enter Tryd.func32, Tryd.ntmps32
  go_wp2_with (first
    | (go_at_call 19; (with_reducible refine c1.out.mono ?_); rintro e w1 ⟨v, rfl, hE, hS, hM⟩)
    | (go_at_call 34; (with_reducible refine (c2.out _ _ hE hM).mono ?_); rintro e w2 ⟨rfl, hb⟩))
  go_ret
  exact ⟨rfl, hS.ext hb, hM.trans (Mut.of_ext hb)⟩
set_option maxRecDepth 100000 in
set_option maxHeartbeats 4000000 in
theorem read_short (s : ByteArray) (w : World) (hs : s.size ≤ 100000) (h0 : s.data.toList ≠ []) (h10 : ∀ c ∈ s.data.toList, c ≠ 10) (x : Evt) (hp : parseV s.data.toList = some x) (hw : EnvV w) :
    Calls Tryd.prog 31 #[.string s] w fun e w' => e = .returned (.tuple #[.slice none 0 0, .int .i64 0, .int .i64 6]) ∧ Ext w w' := by
  have c1 : Box (∀ w', Calls Tryd.prog 60 #[.string s, .string ⟨#[10]⟩] w' fun e w'' => e = .returned (.tuple #[.string s, .string ⟨#[]⟩, .bool false]) ∧ Ext w' w'') := ⟨fun w' => by
    have h := xcut_any 10 s w' (by omega)
    rw [cA_all 10 _ h10, cZ_all 10 _ h10, cF_all 10 _ h10] at h
    have e9 : (⟨s.data.toList.toArray⟩ : ByteArray) = s := by apply ByteArray.ext; simp
    rw [e9] at h
    exact h⟩
  have c2 : Box (∀ w', Ext w w' → Calls Tryd.prog 40 #[.string s] w' fun e w'' => ∃ a n c, e = .returned (.tuple #[.agg #[.int .i64 x.kind, .string (bs x.e.key), .slice a n c, .int .u64 x.e.birth, .int .u64 x.e.dl, .int .u64 x.now], .int .i64 0]) ∧ Ext w' w'') := ⟨fun w' hx => (vparse_any s w' (by omega) (hw.ext hx)).mono fun e w'' hq => by
    rw [hp] at hq
    obtain ⟨v', h1, h2, h3, _⟩ := hq
    obtain ⟨a, c, rfl, _⟩ := h2.size
    exact ⟨a, _, c, h1, h3⟩⟩
  have e1 : (s.toList == []) = false := ne_test s [] h0
  have e2 : (s.toList == (⟨#[]⟩ : ByteArray).toList) = false := by rw [Lib.toList_data, Lib.toList_data]; simpa using h0
  have hx : Ext w w := Below.refl _ _
  clear h0 h10 hp hw
  go_enter Tryd.func31, Tryd.ntmps31
  go_wp2
  go_loopw [0, 5] (fun sv ov wr => sv = .string s ∧ ov = .slice none 0 0 ∧ wr = w) (fun _ _ _ => 1)
  case atStart => exact ⟨rfl, rfl, rfl⟩
  case round =>
    obtain ⟨rfl, rfl, rfl⟩ := hrel
    go_wp2_with (first
      | (go_at_call 60; (with_reducible refine (c1.out _).mono ?_); rintro e w1 ⟨rfl, hb⟩; have hx := Ext.trans' hx hb)
      | (go_at_call 40; (with_reducible refine (c2.out _ hx).mono ?_); rintro e w1 ⟨a, n, c, rfl, hb⟩; have hx := Ext.alloc (Ext.trans' hx hb) (.cells #[.int .i64 x.kind, .string (bs x.e.key), .slice a n c, .int .u64 x.e.birth, .int .u64 x.e.dl, .int .u64 x.now] 28)))
    go_ret3
    exact ⟨rfl, hx⟩
theorem dd1 (n : Nat) (h : n < 10) : Lib.decDigits n = [UInt8.ofNat (48 + n)] := by rw [Lib.decDigits, dif_pos h]
theorem dd12 : Lib.decDigits 12 = [49, 50] := by rw [dd_ten 12 (by decide), dd1 (12 / 10) (by decide), dd1 (12 % 10) (by decide)]; rfl
theorem dd20 : Lib.decDigits 20 = [50, 48] := by rw [dd_ten 20 (by decide), dd1 (20 / 10) (by decide), dd1 (20 % 10) (by decide)]; rfl
def evA : Evt := ⟨3, ⟨[107], [1, 2], 20, 3⟩, 12⟩
def evB : Evt := ⟨1, ⟨[107], [], 20, 1⟩, 20⟩
def evC' : Evt := ⟨5, ⟨[107], [], never, 7⟩, 0⟩
theorem txt_small (n : Nat) (h : n ≠ never) : txtL n = Lib.decDigits n := by unfold txtL; rw [if_neg h]
theorem text_A : Evt.text evA = [49, 50, 32, 114, 101, 112, 108, 97, 99, 101, 100, 32, 51, 32, 50, 48, 32, 54, 98, 32, 48, 49, 48, 50] := by
  unfold Evt.text Ent.text evA
  rw [txt_small 12 (by decide), txt_small 20 (by decide), dd12, dd20, dd1 3 (by decide)]
  rfl
theorem text_B : Evt.text evB = [50, 48, 32, 101, 120, 112, 105, 114, 101, 100, 32, 49, 32, 50, 48, 32, 54, 98, 32, 45] := by
  unfold Evt.text Ent.text evB
  rw [txt_small 20 (by decide), dd20, dd1 1 (by decide)]
  rfl
theorem text_C : Evt.text evC' = [48, 32, 99, 108, 101, 97, 114, 101, 100, 32, 55, 32, 110, 101, 118, 101, 114, 32, 54, 98, 32, 45] := by
  unfold Evt.text Ent.text evC'
  rw [txt_small 0 (by decide), dd1 0 (by decide), dd1 7 (by decide)]
  rfl
theorem in_C : evC'.In := ⟨⟨by decide, by decide⟩, by decide⟩
theorem parse_C : parseV [48, 32, 99, 108, 101, 97, 114, 101, 100, 32, 55, 32, 110, 101, 118, 101, 114, 32, 54, 98, 32, 45] = some evC' := by
  rw [← text_C]
  exact parseV_text evC' in_C (by decide)
theorem parse_07 : parseV [48, 32, 99, 108, 101, 97, 114, 101, 100, 32, 48, 55, 32, 110, 101, 118, 101, 114, 32, 54, 98, 32, 45] = none := by
  cases h : parseV [48, 32, 99, 108, 101, 97, 114, 101, 100, 32, 48, 55, 32, 110, 101, 118, 101, 114, 32, 54, 98, 32, 45] with
  | none => rfl
  | some v =>
    exfalso
    unfold parseV at h
    have hE : parseE (cutZ (cutZ [48, 32, 99, 108, 101, 97, 114, 101, 100, 32, 48, 55, 32, 110, 101, 118, 101, 114, 32, 54, 98, 32, 45])) = none := by
      cases hE : parseE (cutZ (cutZ [48, 32, 99, 108, 101, 97, 114, 101, 100, 32, 48, 55, 32, 110, 101, 118, 101, 114, 32, 54, 98, 32, 45])) with
      | none => rfl
      | some e =>
        exfalso
        obtain ⟨h1, h2, h3⟩ := parseE_of _ _ hE
        have h4 : Lib.decDigits e.birth = [48, 55] := by
          have h5 := cutA_at (Lib.decDigits e.birth) (txtL e.dl ++ 32 :: (hexL e.key ++ 32 :: hexL e.val)) (dd_no _)
          rw [show Lib.decDigits e.birth ++ 32 :: (txtL e.dl ++ 32 :: (hexL e.key ++ 32 :: hexL e.val)) = e.text from rfl, h3] at h5
          rw [← h5]
          rfl
        have h6 := numO_dd e.birth h1.birth
        rw [h4] at h6
        have h7 : numO [48, 55] = some 7 := rfl
        rw [h7] at h6
        have h8 : e.birth = 7 := (Option.some.inj h6).symm
        rw [h8, dd1 7 (by decide)] at h4
        cases h4
    rw [hE] at h
    cases hT : parseT (cutA [48, 32, 99, 108, 101, 97, 114, 101, 100, 32, 48, 55, 32, 110, 101, 118, 101, 114, 32, 54, 98, 32, 45]) <;> rw [hT] at h <;> cases h
theorem parse_55 : parseV [53, 32, 101, 118, 105, 99, 116, 101, 100, 32, 49, 32, 53, 32, 54, 98, 32, 45] = none := by
  have ht : Evt.text ⟨2, ⟨[107], [], 5, 1⟩, 5⟩ = [53, 32, 101, 118, 105, 99, 116, 101, 100, 32, 49, 32, 53, 32, 54, 98, 32, 45] := by
    unfold Evt.text Ent.text
    rw [txt_small 5 (by decide), dd1 5 (by decide), dd1 1 (by decide)]
    rfl
  rw [← ht]
  unfold parseV Evt.text
  rw [cutA_at _ _ (txtL_no _), cutZ_at _ _ (txtL_no _), cutA_at _ _ (wordV_no _), cutZ_at _ _ (wordV_no _), parseT_txt _ (by decide), parseE_text _ ⟨by decide, by decide⟩ (by decide)]
  rfl
end Go.Proofs.YtapngkjgagapeaaDoor
