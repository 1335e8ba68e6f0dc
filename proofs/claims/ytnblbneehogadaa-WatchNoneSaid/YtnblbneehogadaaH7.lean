import Derived.Test.YtnblbneehogadaaH7F
/- The contract of Publish. -/
namespace Go.Proofs.Ytnblbneehogadaa
open Go.RowKit Go.ChangeMaps

theorem cntA_le (es : List MapEntry) (seen : Array Nat) (A : List (Int × WMd)) (c : CoreT) : cntA es seen A c ≤ A.length := by
  unfold cntA
  have : ∀ l : List ((Int × WMd) × MapEntry), (l.map fun q => if seen.contains q.2.born then (q.1.2.got c).toNat else 0).sum ≤ l.length := by
    intro l
    induction l with
    | nil => simp
    | cons a l ih =>
      simp only [List.map_cons, List.sum_cons, List.length_cons]
      have h1 : (if seen.contains a.2.born then (a.1.2.got c).toNat else 0) ≤ 1 := by
        split
        · cases a.1.2.got c <;> decide
        · omega
      omega
  refine Nat.le_trans (this _) ?_
  rw [List.length_zip]; omega
theorem sum_gots_le (A : List (Int × WMd)) (l : List CoreT) : (A.map fun p => p.2.gots l).sum ≤ A.length * l.length := by
  induction A with
  | nil => simp
  | cons a A ih =>
    simp only [List.map_cons, List.sum_cons, List.length_cons, Nat.succ_mul]
    have := a.2.gots_le l
    omega
theorem sum_map_add {α : Type} (l : List α) (f g : α → Nat) : (l.map fun x => f x + g x).sum = (l.map f).sum + (l.map g).sum := by
  induction l with
  | nil => rfl
  | cons a l ih => simp only [List.map_cons, List.sum_cons, ih]; omega
def pubsA (A : List (Int × WMd)) (l : List CoreT) : List (Int × WMd) := A.map fun p => (p.1, p.2.pubs l)
def gotsA (A : List (Int × WMd)) (l : List CoreT) : Nat := (A.map fun p => p.2.gots l).sum
theorem gotsA_nil (A : List (Int × WMd)) : 0 = gotsA A [] := by
  unfold gotsA
  induction A with
  | nil => rfl
  | cons a A ih => simp only [List.map_cons, List.sum_cons, ← ih]; rfl
theorem pubsA_snoc (A : List (Int × WMd)) (l : List CoreT) (c : CoreT) : pubsA A (l ++ [c]) = pubA (pubsA A l) c ∧ gotsA A (l ++ [c]) = gotsA A l + gotA (pubsA A l) c := by
  constructor
  · unfold pubsA pubA
    rw [List.map_map]
    exact List.map_congr_left fun p _ => by simp [WMd.pubs_snoc]
  · unfold gotsA gotA pubsA
    rw [List.map_map, ← sum_map_add]
    congr 1
    exact List.map_congr_left fun p _ => by rw [WMd.gots_snoc]; rfl
theorem set_same {α : Type} {l : List α} {j : Nat} {a : α} (h : l[j]? = some a) : l.set j a = l := by
  apply List.ext_getElem?
  intro i
  by_cases e : j = i
  · subst e
    rw [List.getElem?_set_self (List.getElem?_eq_some_iff.1 h).1, h]
  · rw [List.getElem?_set_ne e]
theorem fpL_sub {L : List (Int × WtX)} {j : Nat} {id : Int} {x : WtX} (hj : L[j]? = some (id, x)) : ∀ b ∈ x.fp, b ∈ fpL L := fun b hb => fpL_mem.2 ⟨(id, x), List.mem_of_getElem? hj, hb⟩
theorem fpL_set {L : List (Int × WtX)} {j : Nat} {id : Int} {x' : WtX} : ∀ b ∈ fpL (L.set j (id, x')), b ∈ fpL L ∨ b ∈ x'.fp := fun b hb => by
  obtain ⟨p, hp, h⟩ := fpL_mem.1 hb
  rcases List.mem_or_eq_of_mem_set hp with hp | rfl
  · exact Or.inl (fpL_mem.2 ⟨p, hp, h⟩)
  · exact Or.inr h
/-- One watcher of the list changes. -/
theorem HubOk.upd_at {base : Nat} {w w' : World} {H : Nat} {mo : Option Nat} {L : List (Int × WtX)} {j : Nat} {id : Int} {x x' : WtX} (h : HubOk base w H mo L) (hj : L[j]? = some (id, x)) (hM : Mut (fun j => j ∈ x.fp) w w') (hx : WOk base w' x') (hB : x'.B = x.B) (hf : ∀ b ∈ x'.fp, b ∈ x.fp ∨ w.heap.size ≤ b) : HubOk base w' H mo (L.set j (id, x')) ∧ (L.set j (id, x')).map ent = L.map ent := by
  obtain ⟨hl, he⟩ := List.getElem?_eq_some_iff.1 hj
  have e1 : L = L.take j ++ (id, x) :: L.drop (j + 1) := by rw [← he, List.getElem_cons_drop, List.take_append_drop]
  have e2 : L.set j (id, x') = L.take j ++ (id, x') :: L.drop (j + 1) := by rw [List.set_eq_take_append_cons_drop, if_pos hl]
  constructor
  · rw [e2]
    rw [e1] at h
    exact h.upd hM hx hB hf
  · rw [List.map_set]
    refine set_same ?_
    rw [List.getElem?_map, hj]
    simp [ent, hB]
/-- Between two events. -/
structure PbO (base : Nat) (w wr : World) (H : Nat) (mo : Option Nat) (L Lt : List (Int × WtX)) (cs : List CoreT) (m : Nat) : Prop where
  hub : HubOk base wr H mo Lt
  abs : absL Lt = pubsA (absL L) cs
  ents : Lt.map ent = L.map ent
  cnt : m = gotsA (absL L) cs
  mu : Mut (fun j => j ∈ fpL L) w wr
  fp : ∀ b ∈ fpL Lt, b ∈ fpL L ∨ w.heap.size ≤ b
/-- Between two watchers. -/
structure PbI (base : Nat) (w2 wr : World) (H : Nat) (mo : Option Nat) (L1 Lc : List (Int × WtX)) (es : Array MapEntry) (cl it : Nat) (seen : Array Nat) (c : CoreT) (m NE : Nat) (oE : Obj) : Prop where
  iter : wr.heap[it]? = some (.mapIter mo cl seen cl)
  mp : MpIn wr mo es cl L1
  hub : HubOk base wr H mo Lc
  ents : Lc.map ent = L1.map ent
  abs : absL Lc = midA es.toList seen (absL L1) c
  cnt : m = cntA es.toList seen (absL L1) c
  mu : Mut (fun j => j ∈ fpL L1 ∨ j = it) w2 wr
  fp : ∀ b ∈ fpL Lc, b ∈ fpL L1 ∨ w2.heap.size ≤ b
  ev : wr.heap[NE]? = some oE
def mesI (es : Array MapEntry) (it : Nat) (w : World) : Nat := match w.heap[it]? with
  | some (.mapIter _ _ seen _) => (leftOf es seen).size
  | _ => 0
theorem mesI_eq {es : Array MapEntry} {it : Nat} {w : World} {m : Option Nat} {s c : Nat} {seen : Array Nat} (h : w.heap[it]? = some (.mapIter m s seen c)) : mesI es it w = (leftOf es seen).size := by
  unfold mesI
  rw [h]
theorem HubOk.iter {base : Nat} {w w' : World} {H : Nat} {mo : Option Nat} {L : List (Int × WtX)} (h : HubOk base w H mo L) {q : Nat} (hM : Mut (fun j => j = q) w w') {m : Option Nat} {s k : Nat} {seen : Array Nat} (hq : w.heap[q]? = some (.mapIter m s seen k)) : HubOk base w' H mo L ∧ q ∉ fpL L := by
  have hne : ∀ (b : Nat) (cs : Array Value) (U : TypeId), w.heap[b]? = some (.cells cs U (0, 0)) → w'.heap[b]? = w.heap[b]? := fun b cs U hb => hM.other b (blk_lt hb) (fun e => by subst e; rw [hb] at hq; cases hq)
  refine ⟨h.frame (hne H _ _ h.hd) (fun mb e => ?_) (fun p hp => ?_), fun hm => ?_⟩
  · rcases h.mp with ⟨h0, _⟩ | ⟨mb', e', _, es, cl, h5, _⟩
    · rw [h0] at e; cases e
    · rw [e'] at e; cases e
      exact hM.other _ (blk_lt h5) (fun e => by subst e; rw [h5] at hq; cases hq)
  · refine (h.oks p hp).frame (fun b hb => ?_) (fun g hg => ?_)
    · obtain ⟨_, _, cs, U, h1, _⟩ := (h.oks p hp).types hb
      exact hne b cs U h1
    · obtain ⟨_, _, cs, h1⟩ := (h.oks p hp).kblk hg
      exact hne g cs _ h1
  · obtain ⟨_, _, cs, U, h1, _⟩ := h.types hm
    rw [h1] at hq; cases hq
def mvP : Op := Op.move (Operand.tmp 10)
def ldP : Op := Op.load 30 (Operand.tmp 8)
/-- What Publish returns. -/
def PbPost (base : Nat) (w : World) (H : Nat) (mo : Option Nat) (L : List (Int × WtX)) (cs : List CoreT) (e : Ending) (w' : World) : Prop :=
  e = .returned (.tuple #[.int .i64 (gotsA (absL L) cs : Nat), .int .i64 0]) ∧ ∃ L', HubOk base w' H mo L' ∧ absL L' = pubsA (absL L) cs ∧ L'.map ent = L.map ent ∧ Mut (fun j => j ∈ fpL L) w w' ∧ ∀ b ∈ fpL L', b ∈ fpL L ∨ w.heap.size ≤ b
set_option maxRecDepth 100000 in
set_option maxHeartbeats 8000000 in
theorem publish_any {base : Nat} {w : World} {H : Nat} {mo : Option Nat} {L : List (Int × WtX)} (h : HubOk base w H mo L) (v : Value) (X : List EvX) (hX : ∀ w', Mut (fun j => j ∈ fpL L) w w' → Xs w' v X) (hok : allOk X = true) (hn : X.length ≤ 4096) (hL : L.length ≤ 64) (hlost : ∀ p ∈ L, p.2.lost ≤ 2305843009213693952) (hb : base ≤ w.heap.size) :
    Calls Try.prog 13 #[.pointer (some ⟨H, 0, none⟩), v] w (PbPost base w H mo L (X.map EvX.core)) := by
  have c1 := Box.mk (bcontains_any v X w (hX w (Mut.refl _ _)))
  rw [hok] at c1
  have HO := Box.mk h; have HX := Box.mk hX; have HL := Box.mk hlost
  obtain ⟨a, c, rfl, _⟩ := hX w (Mut.refl _ _)
  obtain ⟨n, hnn⟩ : ∃ n, n = X.length := ⟨_, rfl⟩
  rw [← hnn] at hn c1 ⊢
  have d1 : decide ((n : Int) > 4096) = false := decide_eq_false (by omega)
  have d2 : decide ((4096 : Int) < (n : Int)) = false := decide_eq_false (by omega)
  have d3 : decide (4096 < n) = false := decide_eq_false (by omega)
  replace hnn := Box.mk hnn
  obtain ⟨Post, hPost⟩ : ∃ P, P = PbPost base w H mo L (X.map EvX.core) := ⟨_, rfl⟩
  rw [← hPost]
  have HP := Box.mk hPost
  clear hPost h hX hok hlost
  go_enter Try.func13, Try.ntmps13
  go_wp2_with (first
    | (go_at_call 33; (with_reducible refine (c1.out).mono ?_); rintro e w1 ⟨rfl, hb1⟩))
  have hO0 : Box (PbO base w w1 H mo L L [] 0) := ⟨⟨HO.out.ext hb1, by unfold pubsA absL; simp [WMd.pubs], rfl, gotsA_nil _, Mut.of_ext hb1, fun b hb => Or.inl hb⟩⟩
  clear hb1
  go_loopw [6, 23] (fun nv iv wr => ∃ (t m : Nat) (Lt : List (Int × WtX)), t ≤ n ∧ iv = .int .i64 (t : Nat) ∧ nv = .int .i64 (m : Nat) ∧ Box (PbO base w wr H mo L Lt ((X.map EvX.core).take t) m)) (fun _ iv _ => n - (intOf iv).toNat)
  case atStart => exact ⟨0, 0, L, Nat.zero_le _, rfl, rfl, by rw [List.take_zero]; exact hO0⟩
  case round =>
    obtain ⟨t, m, Lt, htn, rfl, rfl, hO⟩ := hrel
    obtain ⟨wo, rfl⟩ : ∃ wo, wo = wr := ⟨_, rfl⟩
    by_cases ht : t < n
    · have htX : t < X.length := by rw [← hnn.out]; exact ht
      obtain ⟨a', c', hv', _, _, hC, hAt⟩ := HX.out wo hO.out.mu
      cases hv'
      obtain ⟨b1, o1, rfl, p0, p1, p2, p3, p4, p5⟩ := Xs.row hC t htX
      obtain ⟨hin, ⟨ua, uc, hu⟩, _⟩ := hAt X[t] (List.getElem_mem htX)
      rw [hu] at p2
      have hbyX : Box (∀ w', Mut (fun j => j ∈ fpL L) w w' → By w' (.slice ua (X[t]).l.length uc) (X[t]).l) := ⟨fun w' hm => by
        obtain ⟨_, _, _, _, _, _, h9⟩ := HX.out w' hm
        have := (h9 X[t] (List.getElem_mem htX)).2.2
        rwa [hu] at this⟩
      have hts : Box ((X.map EvX.core).take (t + 1) = (X.map EvX.core).take t ++ [(X[t]).core]) := ⟨by rw [List.take_succ_eq_append_getElem (by rw [List.length_map]; exact htX), List.getElem_map]⟩
      clear hu hC hAt
      have hin' := Box.mk hin
      clear hin
      generalize X[t] = y at *
      have hEO := hO.out.hub.ext (Ext.alloc (Below.refl _ wo) (.cells #[.int .i64 y.k, .string y.s, .slice ua y.l.length uc, .int .u64 y.b, .int .u64 y.d, .int .u64 y.t] 30))
      obtain ⟨es, cl, hmp, hrg⟩ := range_in (P := Try.prog) hEO Try.underlying34
      rw [show (wo.alloc (.cells #[.int .i64 y.k, .string y.s, .slice ua y.l.length uc, .int .u64 y.b, .int .u64 y.d, .int .u64 y.t] 30)).heap.size = wo.heap.size + 1 by simp] at hrg
      have m0 : wo.cell? ⟨H, 0, none⟩ = some (.map mo) := by rw [Lib.cell_of_heap hO.out.hub.hd]; rfl
      have hHl : H < wo.heap.size := blk_lt hO.out.hub.hd
      have hx2 : Ext wo ((wo.alloc (.cells #[.int .i64 y.k, .string y.s, .slice ua y.l.length uc, .int .u64 y.b, .int .u64 y.d, .int .u64 y.t] 30)).alloc (.mapIter mo cl #[] cl)) := Ext.alloc (Ext.alloc (Below.refl _ wo) _) _
      have hev : ((wo.alloc (.cells #[.int .i64 y.k, .string y.s, .slice ua y.l.length uc, .int .u64 y.b, .int .u64 y.d, .int .u64 y.t] 30)).alloc (.mapIter mo cl #[] cl)).heap[wo.heap.size]? = some (.cells #[.int .i64 y.k, .string y.s, .slice ua y.l.length uc, .int .u64 y.b, .int .u64 y.d, .int .u64 y.t] 30 (0, 0)) := Ext.blk (Ext.alloc (Below.refl _ _) _) (newblk wo _)
      have hit : ((wo.alloc (.cells #[.int .i64 y.k, .string y.s, .slice ua y.l.length uc, .int .u64 y.b, .int .u64 y.d, .int .u64 y.t] 30)).alloc (.mapIter mo cl #[] cl)).heap[wo.heap.size + 1]? = some (.mapIter mo cl #[] cl) := by
        have := newblk (wo.alloc (.cells #[.int .i64 y.k, .string y.s, .slice ua y.l.length uc, .int .u64 y.b, .int .u64 y.d, .int .u64 y.t] 30)) (.mapIter mo cl #[] cl)
        rwa [show (wo.alloc (.cells #[.int .i64 y.k, .string y.s, .slice ua y.l.length uc, .int .u64 y.b, .int .u64 y.d, .int .u64 y.t] 30)).heap.size = wo.heap.size + 1 by simp] at this
      have hmp2 : MpIn ((wo.alloc (.cells #[.int .i64 y.k, .string y.s, .slice ua y.l.length uc, .int .u64 y.b, .int .u64 y.d, .int .u64 y.t] 30)).alloc (.mapIter mo cl #[] cl)) mo es cl Lt := by
        rcases hmp with h | ⟨mb, h1, h2, h3⟩
        · exact Or.inl h
        · exact Or.inr ⟨mb, h1, Ext.blk (Ext.alloc (Below.refl _ _) _) h2, h3⟩
      have hlen := hmp2.len
      have hI0 : Box (PbI base ((wo.alloc (.cells #[.int .i64 y.k, .string y.s, .slice ua y.l.length uc, .int .u64 y.b, .int .u64 y.d, .int .u64 y.t] 30)).alloc (.mapIter mo cl #[] cl)) ((wo.alloc (.cells #[.int .i64 y.k, .string y.s, .slice ua y.l.length uc, .int .u64 y.b, .int .u64 y.d, .int .u64 y.t] 30)).alloc (.mapIter mo cl #[] cl)) H mo Lt Lt es cl (wo.heap.size + 1) #[] y.core 0 wo.heap.size (.cells #[.int .i64 y.k, .string y.s, .slice ua y.l.length uc, .int .u64 y.b, .int .u64 y.d, .int .u64 y.t] 30 (0, 0))) := ⟨⟨hit, hmp2, hO.out.hub.ext hx2, rfl, (midA_nil _ _ _ (by unfold absL; rw [List.length_map]; exact hlen.1)).symm, (cntA_nil _ _ _).symm, Mut.refl _ _, fun b hb => Or.inl hb, hev⟩⟩
      replace hx2 := Box.mk hx2
      replace hlen := Box.mk hlen
      have hLl : Lt.length = L.length := by have := congrArg List.length hO.out.ents; simpa using this
      have hmle : m ≤ 64 * 4096 := by
        rw [hO.out.cnt]
        refine Nat.le_trans (sum_gots_le _ _) ?_
        have h1 : (absL L).length = L.length := by unfold absL; rw [List.length_map]
        rw [h1, List.length_take, List.length_map]
        exact Nat.mul_le_mul hL (by omega)
      have hlo : Box (∀ p ∈ Lt, p.2.lost ≤ 2305843009213693952 + 4096) := ⟨fun p hp => by
        have h1 : (p.1, p.2.md) ∈ absL Lt := List.mem_map.2 ⟨p, hp, rfl⟩
        rw [hO.out.abs] at h1
        obtain ⟨q, hq, he⟩ := List.mem_map.1 h1
        obtain ⟨r, hr, rfl⟩ := List.mem_map.1 hq
        have h2 := HL.out r hr
        have h3 := r.2.md.pubs_lost ((X.map EvX.core).take t)
        have h4 : p.2.md = r.2.md.pubs ((X.map EvX.core).take t) := (congrArg Prod.snd he).symm
        have h5 : p.2.md.st.lost = p.2.lost := rfl
        have h6 : r.2.md.st.lost = r.2.lost := rfl
        rw [← h4, h5, h6, List.length_take] at h3
        omega⟩
      clear hmp hmp2 hit hev hEO
      have n1 : (t : Int) < (n : Int) := by omega
      have n0 : (0 : Int) ≤ (t : Int) := by omega
      have n2 : decide ((t : Int) < (n : Int)) = true := decide_eq_true n1
      have n3 : decide (t < n) = true := decide_eq_true ht
      have n4 : IntKind.i64.wrap ((t : Int) + 1) = (t : Int) + 1 := by rw [IntKind.wrap_i64]; omega
      go_wp2
      obtain ⟨w2, hw2⟩ : ∃ w2, w2 = (wo.alloc (.cells #[.int .i64 y.k, .string y.s, .slice ua y.l.length uc, .int .u64 y.b, .int .u64 y.d, .int .u64 y.t] 30)).alloc (.mapIter mo cl #[] cl) := ⟨_, rfl⟩
      rw [← hw2] at hI0 hx2 ⊢
      have hw2s : w2.heap.size = wo.heap.size + 2 := by rw [hw2]; simp
      clear hw2 hrg m0 p0 p1 p2 p3 p4 p5
      obtain ⟨it, hit⟩ : ∃ it, it = wo.heap.size + 1 := ⟨_, rfl⟩
      obtain ⟨NE, hNE⟩ : ∃ NE, NE = wo.heap.size := ⟨_, rfl⟩
      rw [← hit, ← hNE] at hI0
      simp only [← hit]
      simp only [← hNE]
      have hitw : w.heap.size ≤ it := by have := hO.out.mu.size; omega
      replace hit := Box.mk hit
      replace hNE := Box.mk hNE
      go_loopw [6] (fun nv wr => ∃ (m2 : Nat) (seen : Array Nat) (Lc : List (Int × WtX)), nv = .int .i64 ((m + m2 : Nat) : Int) ∧ Box (PbI base w2 wr H mo Lt Lc es cl it seen y.core m2 NE (.cells #[.int .i64 y.k, .string y.s, .slice ua y.l.length uc, .int .u64 y.b, .int .u64 y.d, .int .u64 y.t] 30 (0, 0)))) (fun _ wr => mesI es it wr)
      case atStart => exact ⟨0, #[], Lt, rfl, hI0⟩
      case round =>
        obtain ⟨m2, seen, Lc, rfl, hI⟩ := hrel
        obtain ⟨wi, rfl⟩ : ∃ wi, wi = wr := ⟨_, rfl⟩
        rcases next_in (P := Try.prog) 0 hI.out.mp hI.out.iter with ⟨h0, hnx⟩ | ⟨mb, rfl, hmb, hmm, e, he, w1', hw1', hnx⟩
        · have hall := midA_all (seen := seen) (c := y.core) (A := absL Lt) (es := es.toList) (by unfold absL; rw [List.length_map]; exact hlen.out.1) (left_none h0)
          have hfin : Box (PbO base w wi H mo L Lc ((X.map EvX.core).take (t + 1)) (m + m2)) := ⟨by
            obtain ⟨s1, s2⟩ := pubsA_snoc (absL L) ((X.map EvX.core).take t) y.core
            refine ⟨hI.out.hub, ?_, hI.out.ents.trans hO.out.ents, ?_, hO.out.mu.comp (Mut.extL hx2.out hI.out.mu) (fun q hq => ?_), fun b hb => ?_⟩
            · rw [hI.out.abs, hall.1, hts.out, s1, hO.out.abs]
            · rw [hI.out.cnt, hall.2, hts.out, s2, hO.out.cnt, hO.out.abs]
            · rcases hq with hq | rfl
              · exact hO.out.fp q hq
              · exact Or.inr hitw
            · rcases hI.out.fp b hb with h | h
              · exact hO.out.fp b h
              · exact Or.inr (Nat.le_trans hO.out.mu.size (Nat.le_trans hx2.out.size h))⟩
          have hms := meas_dec n t ht
          go_wp2
          exact ⟨⟨t + 1, m + m2, Lc, ht, congrArg (Value.int .i64) (Int.natCast_succ t).symm, rfl, hfin⟩, hms⟩
        · obtain ⟨hmem, hns⟩ := mem_left he
          obtain ⟨j, hjl, hje⟩ := List.getElem_of_mem hmem
          have hLtl : j < Lt.length := by rw [hlen.out.1]; exact hjl
          have hLcl : Lc.length = Lt.length := by have := congrArg List.length hI.out.ents; simpa using this
          have hjc : j < Lc.length := by omega
          obtain ⟨id, x, hxe⟩ : ∃ id x, Lc[j] = (id, x) := ⟨_, _, rfl⟩
          have hxj : Lc[j]? = some (id, x) := by rw [List.getElem?_eq_getElem hjc, hxe]
          obtain ⟨hkey, hval⟩ := ent_at hmm hjl hLtl
          rw [hje] at hkey hval
          have hec : Lt[j].1 = id ∧ Lt[j].2.B = x.B := by
            have h1 := congrArg (fun l => l[j]?) hI.out.ents
            simp only [List.getElem?_map, hxj, List.getElem?_eq_getElem hLtl, Option.map_some, Option.some.injEq, ent, Prod.mk.injEq, Value.pointer.injEq, Addr.mk.injEq] at h1
            exact ⟨h1.1.symm, h1.2.1.symm⟩
          rw [hec.1] at hkey
          rw [hec.2] at hval
          rw [hkey, hval] at hnx
          have hAl : (absL Lt).length = es.toList.length := by unfold absL; rw [List.length_map]; exact hlen.out.1
          have hAj : j < (absL Lt).length := by omega
          have hxA : (absL Lt)[j] = (id, x.md) := by
            have h1 := midA_at (c := y.core) hAl hjl (by rw [hje]; exact hns)
            rw [← hI.out.abs] at h1
            unfold absL at h1
            rw [List.getElem?_map, hxj] at h1
            exact (Option.some.inj h1).symm
          have hlx : x.lost ≤ 2305843009213693952 + 4096 := by
            have h1 : (absL Lt)[j] = (Lt[j].1, Lt[j].2.md) := by
              have h := List.getElem?_eq_getElem hAj
              have h2 : (absL Lt)[j]? = some (Lt[j].1, Lt[j].2.md) := by unfold absL; rw [List.getElem?_map, List.getElem?_eq_getElem hLtl]; rfl
              exact Option.some.inj (h.symm.trans h2)
            have h2 : Lt[j].2.md = x.md := congrArg Prod.snd (h1.symm.trans hxA)
            have h3 : Lt[j].2.lost = x.lost := congrArg (fun z : WMd => z.st.lost) h2
            rw [← h3]
            exact hlo.out _ (List.getElem_mem hLtl)
          have hx1 : Ext wi w1' := by
            rcases hw1' with rfl | rfl
            · exact Below.refl _ _
            · exact Ext.drew1 (Below.refl _ _)
          have hMS1 : Mut (fun q => q = it) wi (setBlock w1' it (.mapIter (some mb) cl (seen.push e.born) cl)) := Mut.extL hx1 (Mut.block w1' it _)
          obtain ⟨hubS, hitn⟩ := hI.out.hub.iter hMS1 hI.out.iter
          have itS : (setBlock w1' it (.mapIter (some mb) cl (seen.push e.born) cl)).heap[it]? = some (.mapIter (some mb) cl (seen.push e.born) cl) := setBlock_same (Nat.lt_of_lt_of_le (blk_lt hI.out.iter) hx1.size) _
          have hmbit : mb ≠ it := fun h => by rw [h, hI.out.iter] at hmb; cases hmb
          have mpS := (hMS1.other mb (blk_lt hmb) hmbit).trans hmb
          have hNit : NE ≠ it := by have := hit.out; have := hNE.out; omega
          have evS := (hMS1.other NE (blk_lt hI.out.ev) hNit).trans hI.out.ev
          have hen := run_entry_at (P := Try.prog) _ it mb cl seen es cl e itS mpS hmem hmm.ones
          rw [hkey, hval] at hen
          have hI2 := hI.out.mu.trans (hMS1.mono (Y := fun q => q ∈ fpL Lt ∨ q = it) (fun q h => Or.inr h))
          have hms0 := mesI_eq (es := es) hI.out.iter
          have hshr := left_shrinks es seen e he
          have hbor : Box (es.toList[j].born = e.born) := ⟨by rw [hje]⟩
          have hns' : seen.contains es.toList[j].born = false := by rw [hje]; exact hns
          replace hnx := Box.mk hnx
          clear hw1' hx1 hMS1 hkey hval hec hje hmem
          replace hnx := hnx.out
          generalize setBlock w1' it (.mapIter (some mb) cl (seen.push e.born) cl) = wS at *
          have hxo := hubS.oks (id, x) (List.mem_of_getElem? hxj)
          have hkle : x.ks.length ≤ 5 := hxo.kle
          obtain ⟨c0, c1', c2, c3, c4, c5, c6, c7⟩ := blk8 hxo.hd
          obtain ⟨ka, kc, hkv⟩ := row_shape hxo.kin
          rw [hkv] at c1'
          obtain ⟨v0, v1, v2, v3, v4, v5⟩ := blk6 evS
          have hkc : CellsAt wS ka (x.ks.map (Value.int .i64)) := by
            obtain ⟨a9, c9, h1, _, _, h2⟩ := Sl.owns (show wS.ownsRow base 25 1 x.kv x.ks.length (x.ks.map (Value.int .i64)) from hxo.kin) (by omega)
            rw [hkv] at h1
            cases h1
            exact h2
          have hkl : x.ks.length ≤ 9223372036854775807 := by omega
          have cF : Box (∀ w', Ext wS w' → Calls Try.prog 9 #[.agg #[.string x.pre, .slice ka x.ks.length kc, .int .i64 (x.room : Nat), .bool x.old], .agg #[.int .i64 y.k, .string y.s, .slice ua y.l.length uc, .int .u64 y.b, .int .u64 y.d, .int .u64 y.t]] w' fun e w'' => e = .returned (.bool (fitsB x.pre x.ks y.s y.k)) ∧ Ext w' w'') := ⟨fun w' hx => fits_any x.pre ka kc x.ks x.room x.old y.k y.s ua y.l.length uc y.b y.d y.t w' (CellsAt.ext hx hkc) hkl⟩
          have hfx : x.md.fit y.core = fitsB x.pre x.ks y.s y.k := rfl
          have HSx := Box.mk hubS; have HX2 := Box.mk hI2; have HXo := Box.mk hxo
          have itS' := Box.mk itS; have mpS' := Box.mk mpS; have evS' := Box.mk evS
          have hxlt := blk_lt hxo.hd
          clear hubS hI2 hxo itS mpS evS hkc
          cases hf : fitsB x.pre x.ks y.s y.k with
          | false =>
            rw [hf] at cF hfx
            have hstep : Box (∀ wF, Ext wS wF → PbI base w2 wF H (some mb) Lt Lc es cl it (seen.push e.born) y.core m2 NE (.cells #[.int .i64 y.k, .string y.s, .slice ua y.l.length uc, .int .u64 y.b, .int .u64 y.d, .int .u64 y.t] 30 (0, 0)) ∧ mesI es it wF < mesI es it wi) := ⟨fun wF hx => by
              have h1 := midA_push (seen := seen) (c := y.core) hAl hlen.out.2 hjl
              have h2 := cntA_push (c := y.core) hAl hlen.out.2 hjl hns'
              have h3 := midA_at (c := y.core) hAl hjl hns'
              rw [hbor.out] at h1 h2
              rw [hxA] at h1 h2 h3
              have e1 : x.md.pub y.core = x.md := by unfold WMd.pub; rw [hfx]; rfl
              have e2 : x.md.got y.core = false := by unfold WMd.got; rw [hfx]; rfl
              simp only at h1 h2
              rw [e1, set_same h3] at h1
              rw [e2] at h2
              refine ⟨⟨Ext.blk hx itS'.out, Or.inr ⟨mb, rfl, Ext.blk hx mpS'.out, hmm⟩, HSx.out.ext hx, hI.out.ents, ?_, ?_, HX2.out.extR hx, hI.out.fp, Ext.blk hx evS'.out⟩, ?_⟩
              · rw [h1]; exact hI.out.abs
              · rw [h2]; exact hI.out.cnt
              · rw [mesI_eq (Ext.blk hx itS'.out), hms0]; exact hshr⟩
            clear hf hfx
            go_upto_region 14 with (fail)
            rw [show Op.move (Operand.tmp 10) = mvP from rfl, show Op.load 30 (Operand.tmp 8) = ldP from rfl]
            have hop1 : mvP = Op.move (Operand.tmp 10) := rfl
            have hop2 : ldP = Op.load 30 (Operand.tmp 8) := rfl
            go_region_held3 (fun w' => (w'.cell? ⟨x.B, 0, none⟩ = some (.string x.pre) ∧ w'.cell? ⟨x.B, 1, none⟩ = some (.slice ka x.ks.length kc) ∧ w'.cell? ⟨x.B, 2, none⟩ = some (.int .i64 (x.room : Nat)) ∧ w'.cell? ⟨x.B, 3, none⟩ = some (.bool x.old)) ∧ (w'.cell? ⟨NE, 0, none⟩ = some (.int .i64 y.k) ∧ w'.cell? ⟨NE, 1, none⟩ = some (.string y.s) ∧ w'.cell? ⟨NE, 2, none⟩ = some (.slice ua y.l.length uc) ∧ w'.cell? ⟨NE, 3, none⟩ = some (.int .u64 y.b) ∧ w'.cell? ⟨NE, 4, none⟩ = some (.int .u64 y.d) ∧ w'.cell? ⟨NE, 5, none⟩ = some (.int .u64 y.t)))
              (first
                | (with_reducible exact ⟨⟨keepd c0, keepd c1', keepd c2, keepd c3⟩, keepd v0, keepd v1, keepd v2, keepd v3, keepd v4, keepd v5⟩)
                | (with_reducible exact ⟨⟨Ext.cell hxF.out (keepd c0), Ext.cell hxF.out (keepd c1'), Ext.cell hxF.out (keepd c2), Ext.cell hxF.out (keepd c3)⟩, Ext.cell hxF.out (keepd v0), Ext.cell hxF.out (keepd v1), Ext.cell hxF.out (keepd v2), Ext.cell hxF.out (keepd v3), Ext.cell hxF.out (keepd v4), Ext.cell hxF.out (keepd v5)⟩))
              (first
                | (go_at_call 9; (with_reducible refine (cF.out _ (Ext.drew1 (Below.refl _ _))).mono ?_); rintro e wF ⟨rfl, hxF⟩; replace hxF := Box.mk hxF))
            all_goals
              obtain ⟨hs1, hs2⟩ := hstep.out wF (Ext.trans' (Ext.drew1 (Below.refl _ _)) hxF.out)
              replace hs1 := Box.mk hs1
              clear hop1 hop2 c0 c1' c2 c3 c4 c5 c6 c7 v0 v1 v2 v3 v4 v5
              go_wp2
              exact ⟨⟨m2, seen.push e.born, Lc, rfl, hs1⟩, hs2⟩
          | true =>
            rw [hf] at cF hfx
            obtain ⟨q, hq⟩ : ∃ q, q = x.md.st.took x.room x.old := ⟨_, rfl⟩
            have hsubL : ∀ z ∈ x.fp, z ∈ fpL Lc := fpL_sub hxj
            have hMS : Mut (fun j => j ∈ fpL L) w wS := hO.out.mu.comp (Mut.extL hx2.out HX2.out) (fun z hz => by
              rcases hz with hz | rfl
              · exact hO.out.fp z hz
              · exact Or.inr hitw)
            have hNEl : NE ∉ x.fp := fun h => by
              rcases hI.out.fp NE (hsubL NE h) with h1 | h1
              · obtain ⟨p, hp, hb9⟩ := fpL_mem.1 h1
                have h9 := ((hO.out.hub.oks p hp).types hb9).2.1
                have := hNE.out
                omega
              · have h9 := hx2.out.size
                have h8 := blk_lt evS'.out
                have h7 : w2.heap.size = wo.heap.size + 2 := hw2s
                have := hNE.out
                omega
            have hbig : base ≤ wS.heap.size := Nat.le_trans hb hMS.size
            have cP : Box (∀ w', Ext wS w' → Calls Try.prog 36 #[.pointer (some ⟨x.B, 0, none⟩), .agg #[.int .i64 y.k, .string y.s, .slice ua y.l.length uc, .int .u64 y.b, .int .u64 y.d, .int .u64 y.t]] w' fun e9 w'' => e9 = .returned (.bool q) ∧ ∃ x' : WtX, (∃ r f0 m0' l0, w''.heap[x.B]? = some (.cells #[.string x.pre, .slice ka x.ks.length kc, .int .i64 (x.room : Nat), .bool x.old, r, f0, m0', l0] 76 (0, 0))) ∧ w''.heap[NE]? = some (.cells #[.int .i64 y.k, .string y.s, .slice ua y.l.length uc, .int .u64 y.b, .int .u64 y.d, .int .u64 y.t] 30 (0, 0)) ∧ PbI base w2 w'' H (some mb) Lt (Lc.set j (id, x')) es cl it (seen.push e.born) y.core (m2 + q.toNat) NE (.cells #[.int .i64 y.k, .string y.s, .slice ua y.l.length uc, .int .u64 y.b, .int .u64 y.d, .int .u64 y.t] 30 (0, 0)) ∧ mesI es it w'' < mesI es it wi) := ⟨fun w' hx => by
              refine (put_any base x y.k y.s ua y.l uc y.b y.d y.t w' (HXo.out.ext hx) (Nat.le_trans hbig hx.size) ⟨hin'.out.s, hin'.out.l, hin'.out.b, hin'.out.d, hin'.out.t⟩ (fun w9 hm => hbyX.out w9 (hMS.comp (Mut.extL hx hm) (fun z hz => by
                rcases hI.out.fp z (hsubL z hz) with h1 | h1
                · exact hO.out.fp z h1
                · exact Or.inr (Nat.le_trans (Nat.le_trans hO.out.mu.size hx2.out.size) h1)))) (by omega)).mono ?_
              rintro e9 wP ⟨he, x', g1, g2, g3, g4, g5, g6⟩
              have e1 : x'.pre = x.pre := congrArg WMd.pre g2
              have e2 : x'.room = x.room := congrArg WMd.room g2
              have e3 : x'.old = x.old := congrArg WMd.old g2
              have hMP : Mut (fun z => z ∈ x.fp) wS wP := Mut.extL hx g5
              have hfp' : ∀ z ∈ x'.fp, z ∈ x.fp ∨ wS.heap.size ≤ z := fun z hz => by
                rcases g6 z hz with h | h
                · exact Or.inl h
                · exact Or.inr (Nat.le_trans hx.size h)
              obtain ⟨u1, u2⟩ := HSx.out.upd_at hxj hMP g4 g1 hfp'
              have hnv : wP.heap[NE]? = some (.cells #[.int .i64 y.k, .string y.s, .slice ua y.l.length uc, .int .u64 y.b, .int .u64 y.d, .int .u64 y.t] 30 (0, 0)) := (hMP.other NE (blk_lt evS'.out) hNEl).trans evS'.out
              have hni : wP.heap[it]? = some (.mapIter (some mb) cl (seen.push e.born) cl) := (hMP.other it (blk_lt itS'.out) (fun h => hitn (hsubL it h))).trans itS'.out
              have hnm : wP.heap[mb]? = some (.map es cl) := (hMP.other mb (blk_lt mpS'.out) (fun h => by
                obtain ⟨_, _, cs9, U9, h9, _⟩ := HSx.out.types (hsubL mb h)
                rw [mpS'.out] at h9
                cases h9)).trans mpS'.out
              have p1 := midA_push (seen := seen) (c := y.core) hAl hlen.out.2 hjl
              have p2 := cntA_push (c := y.core) hAl hlen.out.2 hjl hns'
              rw [hbor.out] at p1 p2
              rw [hxA] at p1 p2
              have k1 : x.md.pub y.core = x.md.put y.core := by unfold WMd.pub; rw [hfx]; rfl
              have k2 : x.md.got y.core = q := by unfold WMd.got; rw [hfx, Bool.true_and, hq]; rfl
              simp only at p1 p2
              rw [k1] at p1
              rw [k2] at p2
              have hd9 := g4.hd
              unfold wtC at hd9
              rw [g1, e1, e2, e3, g3, hkv] at hd9
              refine ⟨by rw [he, hq], x', ⟨_, _, _, _, hd9⟩, hnv, ⟨hni, Or.inr ⟨mb, rfl, hnm, hmm⟩, u1, u2.trans hI.out.ents, ?_, ?_, ?_, fun z hz => ?_, hnv⟩, ?_⟩
              · have : absL (Lc.set j (id, x')) = (absL Lc).set j (id, x'.md) := by unfold absL; rw [List.map_set]
                rw [this, hI.out.abs, p1, g2]
                rfl
              · rw [p2, hI.out.cnt]
              · refine HX2.out.comp hMP (fun z hz => ?_)
                rcases hI.out.fp z (hsubL z hz) with h | h
                · exact Or.inl (Or.inl h)
                · exact Or.inr h
              · rcases fpL_set z hz with h | h
                · exact hI.out.fp z h
                · rcases hfp' z h with h | h
                  · exact hI.out.fp z (hsubL z h)
                  · exact Or.inr (Nat.le_trans HX2.out.size h)
              · rw [mesI_eq hni, hms0]; exact hshr⟩
            have hm2 : m2 ≤ 64 := by
              rw [hI.out.cnt]
              refine Nat.le_trans (cntA_le _ _ _ _) ?_
              have h1 : (absL Lt).length = Lt.length := by unfold absL; rw [List.length_map]
              omega
            have qn : IntKind.i64.wrap (((m + m2 : Nat) : Int) + 1) = ((m + m2 : Nat) : Int) + 1 := by clear n4; rw [IntKind.wrap_i64]; omega
            clear hf hfx hq hMS
            go_upto_region 14 with (fail)
            go_region_held3 (fun w' => (w'.cell? ⟨x.B, 0, none⟩ = some (.string x.pre) ∧ w'.cell? ⟨x.B, 1, none⟩ = some (.slice ka x.ks.length kc) ∧ w'.cell? ⟨x.B, 2, none⟩ = some (.int .i64 (x.room : Nat)) ∧ w'.cell? ⟨x.B, 3, none⟩ = some (.bool x.old)) ∧ (w'.cell? ⟨NE, 0, none⟩ = some (.int .i64 y.k) ∧ w'.cell? ⟨NE, 1, none⟩ = some (.string y.s) ∧ w'.cell? ⟨NE, 2, none⟩ = some (.slice ua y.l.length uc) ∧ w'.cell? ⟨NE, 3, none⟩ = some (.int .u64 y.b) ∧ w'.cell? ⟨NE, 4, none⟩ = some (.int .u64 y.d) ∧ w'.cell? ⟨NE, 5, none⟩ = some (.int .u64 y.t)))
              (first
                | (with_reducible exact ⟨⟨keepd c0, keepd c1', keepd c2, keepd c3⟩, keepd v0, keepd v1, keepd v2, keepd v3, keepd v4, keepd v5⟩)
                | (with_reducible exact ⟨⟨c0, c1', c2, c3⟩, v0, v1, v2, v3, v4, v5⟩))
              (first
                | (go_at_call 9; (with_reducible refine (cF.out _ (Ext.drew1 (Below.refl _ _))).mono ?_); rintro e9 wF ⟨rfl, hxF⟩; replace c0 := Ext.cell hxF (keepd c0); replace c1' := Ext.cell hxF (keepd c1'); replace c2 := Ext.cell hxF (keepd c2); replace c3 := Ext.cell hxF (keepd c3); replace v0 := Ext.cell hxF (keepd v0); replace v1 := Ext.cell hxF (keepd v1); replace v2 := Ext.cell hxF (keepd v2); replace v3 := Ext.cell hxF (keepd v3); replace v4 := Ext.cell hxF (keepd v4); replace v5 := Ext.cell hxF (keepd v5); replace hxF := Box.mk (Ext.trans' (Ext.drew1 (Below.refl _ _)) hxF))
                | (go_at_call 36; (with_reducible refine (cP.out _ hxF.out).mono ?_); rintro e9 wP ⟨rfl, x', ⟨r0', f0', m0', l0', hd9⟩, hnv9, hs1, hs2⟩; obtain ⟨c0, c1', c2, c3, _⟩ := blk8 hd9; obtain ⟨v0, v1, v2, v3, v4, v5⟩ := blk6 hnv9; replace hs1 := Box.mk hs1; replace hs2 := Box.mk hs2))
            all_goals
              clear c0 c1' c2 c3 c4 c5 c6 c7 v0 v1 v2 v3 v4 v5
              cases q
              · go_wp2
                exact ⟨⟨m2, seen.push e.born, Lc.set j (id, x'), rfl, hs1⟩, hs2.out⟩
              · go_wp2
                exact ⟨⟨m2 + 1, seen.push e.born, Lc.set j (id, x'), by rw [← Nat.add_assoc]; exact congrArg (Value.int .i64) (Int.natCast_succ (m + m2)).symm, hs1⟩, hs2.out⟩
    · obtain rfl : t = n := by omega
      have n2 : decide ((t : Int) < (t : Int)) = false := decide_eq_false (by omega)
      have n3 : decide (t < t) = false := decide_eq_false (by omega)
      have htk : (X.map EvX.core).take t = X.map EvX.core := List.take_of_length_le (by rw [List.length_map, hnn.out]; exact Nat.le_refl _)
      rw [htk] at hO
      have hcnt := Box.mk hO.out.cnt
      go_wp2
      rw [HP.out]
      exact ⟨congrArg (fun z : Nat => Ending.returned (.tuple #[.int .i64 (z : Nat), .int .i64 0])) hcnt.out, Lt, hO.out.hub, hO.out.abs, hO.out.ents, hO.out.mu, hO.out.fp⟩
end Go.Proofs.Ytnblbneehogadaa
