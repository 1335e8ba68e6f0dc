import Derived.Test.YtapngkjgagapeaaDoorVP
import Derived.BigRegion
/- The helpers of the laws of events; streams in memory; New, add, Add, Len, Count. -/
namespace Go.Proofs.YtapngkjgagapeaaDoor
open Go.RowKit

theorem eqV_self (k : Int) (s : ByteArray) (l : List UInt8) (b d t : Nat) : eqV k k s s l l b b d d t t = true := by
  unfold eqV; simp
set_option maxHeartbeats 2000000 in
theorem parses_gen (s : ByteArray) (k1 k2 er : Int) (s1 s2 : ByteArray) (a1 a2 : Option Addr) (l1 l2 : List UInt8) (c1 c2 b1 b2 d1 d2 t1 t2 : Nat) (w : World)
    (hp : Calls Tryd.prog 40 #[.string s] (w.alloc (.cells #[.int .i64 (k2), .string s2, .slice a2 (l2.length) c2, .int .u64 (b2), .int .u64 (d2), .int .u64 (t2)] 28)) fun e w' => ∃ a c, e = .returned (.tuple #[(.agg #[.int .i64 (k1), .string s1, .slice a (l1.length) c, .int .u64 (b1), .int .u64 (d1), .int .u64 (t1)]), .int .i64 er]) ∧ By w' (.slice a l1.length c) l1 ∧ Ext (w.alloc (.cells #[.int .i64 (k2), .string s2, .slice a2 (l2.length) c2, .int .u64 (b2), .int .u64 (d2), .int .u64 (t2)] 28)) w')
    (h2 : By w (.slice a2 l2.length c2) l2) (he : eqV k1 k2 s1 s2 l1 l2 b1 b2 d1 d2 t1 t2 = true) :
    Calls Tryd.prog 13 #[.string s, (.agg #[.int .i64 (k2), .string s2, .slice a2 (l2.length) c2, .int .u64 (b2), .int .u64 (d2), .int .u64 (t2)]), .int .i64 er] w fun e w' => e = .returned (.bool true) ∧ Ext w w' := by
  have cp := Box.mk hp
  have cs : Box (∀ (a : Option Addr) (c : Nat) (w' : World), By w' (.slice a l1.length c) l1 → Ext w w' → Calls Tryd.prog 28 #[(.agg #[.int .i64 (k1), .string s1, .slice a (l1.length) c, .int .u64 (b1), .int .u64 (d1), .int .u64 (t1)]), (.agg #[.int .i64 (k2), .string s2, .slice a2 (l2.length) c2, .int .u64 (b2), .int .u64 (d2), .int .u64 (t2)])] w' fun e w'' => e = .returned (.bool true) ∧ Ext w' w'') := ⟨fun a c w' hv hx => by
    have h := same_any k1 k2 s1 s2 (.slice a l1.length c) (.slice a2 l2.length c2) l1 l2 b1 b2 d1 d2 t1 t2 w' hv (h2.ext hx)
    rw [he] at h
    exact h⟩
  have hx : Ext w (w.alloc (.cells #[.int .i64 (k2), .string s2, .slice a2 (l2.length) c2, .int .u64 (b2), .int .u64 (d2), .int .u64 (t2)] 28)) := Ext.alloc (Below.refl _ _) _
  have hB := newblk w (.cells #[.int .i64 (k2), .string s2, .slice a2 (l2.length) c2, .int .u64 (b2), .int .u64 (d2), .int .u64 (t2)] 28)
  clear hp h2 he
  go_enter Tryd.func13, Tryd.ntmps13
  go_wp2_with (first
    | (go_at_call 40; (with_reducible refine cp.out.mono ?_); rintro e w1 ⟨a, c, rfl, hv, hb⟩; have hx := Ext.trans' hx hb; have hB := Ext.blk hb hB; have hq := Ext.alloc (Below.refl w1.heap.size w1) (.cells #[.int .i64 (k1), .string s1, .slice a (l1.length) c, .int .u64 (b1), .int .u64 (d1), .int .u64 (t1)] 28); have hx := Ext.trans' hx hq; have hB := Ext.blk hq hB; have hv := By.ext hq hv; obtain ⟨m0, m1, m2, m3, m4, m5⟩ := blk6 hB)
    | (go_at_call 28; (with_reducible refine (cs.out _ _ _ hv hx).mono ?_); rintro e w1 ⟨rfl, hb⟩; have hx := Ext.trans' hx hb))
  go_ret
  exact ⟨rfl, hx⟩
theorem parses_none (s : ByteArray) (w : World) (hs : s.size ≤ 200000) (hw : EnvV w) (h : parseV s.data.toList = none) :
    Calls Tryd.prog 13 #[.string s, (.agg #[.int .i64 0, .string ⟨#[]⟩, .slice none 0 0, .int .u64 0, .int .u64 0, .int .u64 0]), .int .i64 6] w fun e w' => e = .returned (.bool true) ∧ Ext w w' := by
  have hx : Ext w (w.alloc (.cells #[.int .i64 0, .string ⟨#[]⟩, .slice none 0 0, .int .u64 0, .int .u64 0, .int .u64 0] 28)) := Ext.alloc (Below.refl _ _) _
  refine parses_gen s 0 0 6 ⟨#[]⟩ ⟨#[]⟩ none none [] [] 0 0 0 0 0 0 0 0 w ((vparse_any s _ hs (hw.ext hx)).mono fun e w' hp => ?_) (By.nil w) (eqV_self _ _ _ _ _ _)
  rw [h] at hp
  exact ⟨none, 0, hp.1, By.nil _, hp.2⟩
theorem parses_some (s : ByteArray) (w : World) (hs : s.size ≤ 200000) (hw : EnvV w) (x : Evt) (h : parseV s.data.toList = some x) (a2 : Option Addr) (c2 : Nat) (hv : By w (.slice a2 x.e.val.length c2) x.e.val) :
    Calls Tryd.prog 13 #[.string s, .agg #[.int .i64 x.kind, .string (bs x.e.key), .slice a2 x.e.val.length c2, .int .u64 x.e.birth, .int .u64 x.e.dl, .int .u64 x.now], .int .i64 0] w fun e w' => e = .returned (.bool true) ∧ Ext w w' := by
  have hx : Ext w (w.alloc (.cells #[.int .i64 x.kind, .string (bs x.e.key), .slice a2 x.e.val.length c2, .int .u64 x.e.birth, .int .u64 x.e.dl, .int .u64 x.now] 28)) := Ext.alloc (Below.refl _ _) _
  refine parses_gen s x.kind x.kind 0 (bs x.e.key) (bs x.e.key) none a2 x.e.val x.e.val 0 c2 x.e.birth x.e.birth x.e.dl x.e.dl x.now x.now w ((vparse_any s _ hs (hw.ext hx)).mono fun e w' hp => ?_) hv (eqV_self _ _ _ _ _ _)
  rw [h] at hp
  obtain ⟨v', he, hv', hb, _⟩ := hp
  obtain ⟨a, c, rfl, _⟩ := hv'.size
  exact ⟨a, c, he, hv', hb⟩
set_option maxHeartbeats 2000000 in
theorem writes_bad (k : Int) (s : ByteArray) (a : Option Addr) (n c b d t : Nat) (w : World) (hs : s.size ≤ 9223372036854775807) (hn : n ≤ 9223372036854775807) (hb : b < 18446744073709551616) (hd : d < 18446744073709551616) (ht : t < 18446744073709551616) (hk : okV k s.size n b d t = false) :
    Calls Tryd.prog 15 #[(.agg #[.int .i64 (k), .string s, .slice a (n) c, .int .u64 (b), .int .u64 (d), .int .u64 (t)]), .string ⟨#[]⟩, .int .i64 2] w fun e w' => e = .returned (.bool true) ∧ Ext w w' := by
  have ct : Box _ := ⟨fun w => vtext_bad k s a n c b d t w hs hn hb hd ht hk⟩
  have hx : Ext w (w.alloc (.cells #[.int .i64 (k), .string s, .slice a (n) c, .int .u64 (b), .int .u64 (d), .int .u64 (t)] 28)) := Ext.alloc (Below.refl _ _) _
  clear hk
  go_enter Tryd.func15, Tryd.ntmps15
  go_wp2_with (first | (go_at_call 45; (with_reducible refine (ct.out _).mono ?_); rintro e w1 ⟨rfl, hb⟩; have hx := Ext.trans' hx hb))
  go_ret
  exact ⟨rfl, hx⟩
set_option maxHeartbeats 2000000 in
theorem writes_ok (k : Int) (s : ByteArray) (a : Option Addr) (l : List UInt8) (c b d t : Nat) (y : ByteArray) (w : World) (hs : s.size ≤ 100000) (hl : l.length ≤ 100000) (hb : b < 18446744073709551616) (hd : d < 18446744073709551616) (ht : t < 18446744073709551616) (hk : okV k s.size l.length b d t = true) (hv : By w (.slice a l.length c) l) (hw : EnvV w) (hy : y.data.toList = Evt.text ⟨k.toNat, ⟨s.data.toList, l, d, b⟩, t⟩) :
    Calls Tryd.prog 15 #[(.agg #[.int .i64 (k), .string s, .slice a (l.length) c, .int .u64 (b), .int .u64 (d), .int .u64 (t)]), .string y, .int .i64 0] w fun e w' => e = .returned (.bool true) ∧ Ext w w' := by
  have ct : Box (∀ w', Ext w w' → Calls Tryd.prog 45 #[(.agg #[.int .i64 (k), .string s, .slice a (l.length) c, .int .u64 (b), .int .u64 (d), .int .u64 (t)])] w' fun e w'' => e = .returned (.tuple #[.string y, .int .i64 0]) ∧ Ext w' w'') := ⟨fun w' h => by
    have h9 := vtext_ok k s a l c b d t w' hs hl hb hd ht hk (hv.ext h) (hw.ext h)
    rw [← hy] at h9
    have e9 : (⟨y.data.toList.toArray⟩ : ByteArray) = y := by apply ByteArray.ext; simp
    rw [e9] at h9
    exact h9⟩
  have hx : Ext w (w.alloc (.cells #[.int .i64 (k), .string s, .slice a (l.length) c, .int .u64 (b), .int .u64 (d), .int .u64 (t)] 28)) := Ext.alloc (Below.refl _ _) _
  have hyy : (y.toList == y.toList) = true := by simp
  clear hk hv hw hy
  go_enter Tryd.func15, Tryd.ntmps15
  go_wp2_with (first | (go_at_call 45; (with_reducible refine (ct.out _ hx).mono ?_); rintro e w1 ⟨rfl, hb⟩; have hx := Ext.trans' hx hb))
  go_ret
  exact ⟨rfl, hx⟩
def lightB (n m : Nat) : Bool := decide (n ≤ 300) && decide (m ≤ 1000)
set_option maxHeartbeats 1000000 in
theorem light_any (k : Int) (s : ByteArray) (a : Option Addr) (n c b d t : Nat) (w : World) (hs : s.size ≤ 9223372036854775807) (hn : n ≤ 9223372036854775807) :
    Calls Tryd.prog 22 #[(.agg #[.int .i64 (k), .string s, .slice a (n) c, .int .u64 (b), .int .u64 (d), .int .u64 (t)])] w fun e w' => e = .returned (.bool (lightB s.size n)) ∧ Ext w w' := by
  have hx : Ext w (w.alloc (.cells #[.int .i64 (k), .string s, .slice a (n) c, .int .u64 (b), .int .u64 (d), .int .u64 (t)] 28)) := Ext.alloc (Below.refl _ _) _
  unfold lightB
  by_cases h1 : s.size ≤ 300
  · by_cases h2 : n ≤ 1000
    all_goals
      go_enter Tryd.func22, Tryd.ntmps22
      go_wp2
      go_ret
      exact ⟨ret_bool (by simp [h1, h2] <;> omega), hx⟩
  · have d3 : decide ((s.size : Int) ≤ 300) = false := decide_eq_false (by omega)
    have d4 : decide (s.size ≤ 300) = false := decide_eq_false h1
    go_enter Tryd.func22, Tryd.ntmps22
    go_wp2
    go_ret
    exact ⟨ret_bool (by simp [h1] <;> omega), hx⟩
/-- Only the blocks X, and new ones, have changed. -/
structure Mut (X : Nat → Prop) (w w' : World) : Prop where
  size : w.heap.size ≤ w'.heap.size
  other : ∀ j, j < w.heap.size → ¬ X j → w'.heap[j]? = w.heap[j]?
  ext : ∀ w0, Ext w0 w → (∀ x, X x → w0.heap.size ≤ x) → Ext w0 w'
theorem Mut.of_ext {X : Nat → Prop} {w w' : World} (h : Ext w w') : Mut X w w' := ⟨h.size, fun j hj _ => h.block j hj, fun w0 h0 _ => Ext.trans' h0 h⟩
theorem Mut.refl (X : Nat → Prop) (w : World) : Mut X w w := Mut.of_ext (Below.refl _ _)
theorem Mut.trans {X : Nat → Prop} {a b c : World} (h : Mut X a b) (k : Mut X b c) : Mut X a c :=
  ⟨Nat.le_trans h.size k.size, fun j hj hx => (k.other j (Nat.lt_of_lt_of_le hj h.size) hx).trans (h.other j hj hx), fun w0 h0 h1 => k.ext w0 (h.ext w0 h0 h1) h1⟩
theorem Mut.put {X : Nat → Prop} (w : World) (p : Addr) (v : Value) (hx : X p.block) : Mut X w (w.setCell p v) :=
  ⟨by simp, fun j _ hj => heap_setCell_other _ _ _ _ (fun e => hj (by rw [e]; exact hx)), fun w0 h0 h1 => Below.setCell h0 (p := p) (h1 _ hx) v⟩
theorem Mut.mono {X Y : Nat → Prop} {w w' : World} (h : Mut X w w') (hxy : ∀ j, X j → Y j) : Mut Y w w' :=
  ⟨h.size, fun j hj hy => h.other j hj (fun hx => hy (hxy j hx)), fun w0 h0 h1 => h.ext w0 h0 (fun x hx => h1 x (hxy x hx))⟩
theorem cell_of_block {w w' : World} {b : Nat} (h : w'.heap[b]? = w.heap[b]?) (o : Nat) : w'.cell? ⟨b, o, none⟩ = w.cell? ⟨b, o, none⟩ := by
  simp [World.cell?, h]
/-- A block without bytes. -/
def NoB (w : World) (j : Nat) : Prop := ∃ cs T, w.heap[j]? = some (.cells cs T (0, 0)) ∧ ∀ (i : Nat) (z : Int), cs[i]? ≠ some (.int .u8 z)
theorem By.mut {X : Nat → Prop} {w w' : World} (h : Mut X w w') (hno : ∀ j, X j → NoB w j) {v : Value} {l : List UInt8} (hv : By w v l) : By w' v l := by
  obtain ⟨a, c, h1, h2, h3, h4, h5⟩ := hv
  refine ⟨a, c, h1, h2, h3, h4, fun hn => ?_⟩
  obtain ⟨b, o, ha, hc⟩ := h5 hn
  refine ⟨b, o, ha, fun i hi => ?_⟩
  have hcell := hc i hi
  have hlt : b < w.heap.size := lt_of_cell hcell
  have hnx : ¬ X b := fun hx => by
    obtain ⟨cs, T, hb, hn⟩ := hno b hx
    rw [Lib.cell_of_heap hb] at hcell
    exact hn _ _ hcell
  rw [cell_of_block (h.other b hlt hnx)]
  exact hcell

structure Nd where
  at_ : Nat
  u : Value
  v : Evt
def ptr (a : Nat) : Value := .pointer (some ⟨a, 0, none⟩)
def nxt : List Nd → Value → Value
  | [], tl => tl
  | n :: _, _ => ptr n.at_
def lst : List Nd → Value
  | [] => .pointer none
  | [n] => ptr n.at_
  | _ :: n :: r => lst (n :: r)
def ndC (v : Evt) (u nx : Value) : Array Value := #[.int .i64 v.kind, .string (bs v.e.key), u, .int .u64 v.e.birth, .int .u64 v.e.dl, .int .u64 v.now, nx]
def NdAt (w : World) (n : Nd) (nx : Value) : Prop :=
  (∃ a c, n.u = .slice a n.v.e.val.length c) ∧ w.heap[n.at_]? = some (.cells (ndC n.v n.u nx) 92 (0, 0)) ∧ By w n.u n.v.e.val
def Lnk (w : World) : List Nd → Value → Prop
  | [], _ => True
  | n :: r, tl => NdAt w n (nxt r tl) ∧ Lnk w r tl
theorem nxt_app (L : List Nd) (m : Nd) (tl : Value) : nxt (L ++ [m]) tl = nxt L (ptr m.at_) := by
  cases L <;> rfl
theorem Lnk.app {w : World} {L : List Nd} {m : Nd} {tl : Value} : Lnk w (L ++ [m]) tl ↔ Lnk w L (ptr m.at_) ∧ NdAt w m tl := by
  induction L with
  | nil => simp [Lnk, nxt]
  | cons n r ih =>
    show NdAt w n (nxt (r ++ [m]) tl) ∧ Lnk w (r ++ [m]) tl ↔ (NdAt w n (nxt r (ptr m.at_)) ∧ Lnk w r (ptr m.at_)) ∧ NdAt w m tl
    rw [nxt_app, ih, and_assoc]
theorem lst_app (L : List Nd) (m : Nd) : lst (L ++ [m]) = ptr m.at_ := by
  induction L with
  | nil => rfl
  | cons n r ih =>
    cases r with
    | nil => rfl
    | cons k s => exact ih
theorem Lnk.keep {w w' : World} {L : List Nd} {tl : Value} (h : Lnk w L tl) (hb : ∀ n ∈ L, w'.heap[n.at_]? = w.heap[n.at_]?) (hv : ∀ (u : Value) (l : List UInt8), By w u l → By w' u l) : Lnk w' L tl := by
  induction L with
  | nil => trivial
  | cons n r ih => exact ⟨⟨h.1.1, (hb n (by simp)).trans h.1.2.1, hv _ _ h.1.2.2⟩, ih h.2 (fun k hk => hb k (by simp [hk]))⟩
theorem NdAt.noB {w : World} {n : Nd} {a : Option Nat} (nx : Value) (h : NdAt w n nx) (hx : nx = .pointer (a.map fun x => ⟨x, 0, none⟩)) : NoB w n.at_ := by
  obtain ⟨⟨p, c, hu⟩, hb, _⟩ := h
  refine ⟨_, _, hb, fun i z hi => ?_⟩
  subst hx
  rw [hu] at hi
  unfold ndC at hi
  match i, hi with
  | 0, hi => cases hi
  | 1, hi => cases hi
  | 2, hi => cases hi
  | 3, hi => cases hi
  | 4, hi => cases hi
  | 5, hi => cases hi
  | 6, hi => cases hi
  | _ + 7, hi => cases hi
def stC (L : List Nd) (cs : Nat → Nat) (n : Nat) : Array Value := #[nxt L (.pointer none), lst L, .int .u64 (cs 0), .int .u64 (cs 1), .int .u64 (cs 2), .int .u64 (cs 3), .int .u64 (cs 4), .int .u64 (cs 5), .int .i64 n, .bool true]
/-- The stream in block S: its nodes, its counts, and the number that it says. -/
structure Strm (w : World) (S : Nat) (L : List Nd) (cs : Nat → Nat) (n : Nat) : Prop where
  hd : w.heap[S]? = some (.cells (stC L cs n) 69 (0, 0))
  lk : Lnk w L (.pointer none)
  up : ∀ m ∈ L, S < m.at_
  inc : L.Pairwise (fun a b => a.at_ < b.at_)
/-- The blocks of a stream. -/
def Own (S : Nat) (L : List Nd) (j : Nat) : Prop := j = S ∨ ∃ n ∈ L, n.at_ = j
theorem nxt_ptr (L : List Nd) : ∃ a : Option Nat, nxt L (.pointer none) = .pointer (a.map fun x => ⟨x, 0, none⟩) := by
  cases L with
  | nil => exact ⟨none, rfl⟩
  | cons n r => exact ⟨some n.at_, rfl⟩
theorem Lnk.at {w : World} {L : List Nd} (h : Lnk w L (.pointer none)) : ∀ n ∈ L, ∃ a : Option Nat, NdAt w n (.pointer (a.map fun x => ⟨x, 0, none⟩)) := by
  induction L with
  | nil => intro n hn; cases hn
  | cons m r ih =>
    intro n hn
    rcases List.mem_cons.1 hn with rfl | hn
    · obtain ⟨a, ha⟩ := nxt_ptr r
      exact ⟨a, by have := h.1; rw [ha] at this; exact this⟩
    · exact ih h.2 n hn
theorem Strm.noB {w : World} {S : Nat} {L : List Nd} {cs : Nat → Nat} {n : Nat} (h : Strm w S L cs n) : ∀ j, Own S L j → NoB w j := by
  rintro j (rfl | ⟨m, hm, rfl⟩)
  · refine ⟨_, _, h.hd, fun i z hi => ?_⟩
    obtain ⟨a, ha⟩ := nxt_ptr L
    have hl : ∃ p, lst L = .pointer p := by
      rcases List.eq_nil_or_concat L with rfl | ⟨L0, m, rfl⟩
      · exact ⟨_, rfl⟩
      · exact ⟨_, by rw [List.concat_eq_append, lst_app]; rfl⟩
    obtain ⟨p, hp⟩ := hl
    unfold stC at hi
    rw [ha, hp] at hi
    match i, hi with
    | 0, hi => cases hi
    | 1, hi => cases hi
    | 2, hi => cases hi
    | 3, hi => cases hi
    | 4, hi => cases hi
    | 5, hi => cases hi
    | 6, hi => cases hi
    | 7, hi => cases hi
    | 8, hi => cases hi
    | 9, hi => cases hi
    | _ + 10, hi => cases hi
  · obtain ⟨a, ha⟩ := h.lk.at m hm
    exact NdAt.noB _ ha rfl
theorem Strm.ext {w w' : World} {S : Nat} {L : List Nd} {cs : Nat → Nat} {n : Nat} (h : Strm w S L cs n) (hb : Ext w w') : Strm w' S L cs n :=
  ⟨Ext.blk hb h.hd, h.lk.keep (fun m hm => by
    obtain ⟨a, ha⟩ := h.lk.at m hm
    exact (Ext.blk hb ha.2.1).trans ha.2.1.symm) (fun u l hv => By.ext hb hv), h.up, h.inc⟩
theorem Strm.lt {w : World} {S : Nat} {L : List Nd} {cs : Nat → Nat} {n : Nat} (h : Strm w S L cs n) : ∀ m ∈ L, m.at_ < w.heap.size := fun m hm => by
  obtain ⟨a, ha⟩ := h.lk.at m hm
  exact blk_lt ha.2.1

theorem stC_nil : stC [] (fun _ => 0) 0 = #[.pointer none, .pointer none, .int .u64 0, .int .u64 0, .int .u64 0, .int .u64 0, .int .u64 0, .int .u64 0, .int .i64 0, .bool true] := rfl
set_option maxHeartbeats 1000000 in
theorem new_any (w : World) : Calls Tryd.prog 16 #[] w fun e w' => e = .returned (ptr w.heap.size) ∧ Strm w' w.heap.size [] (fun _ => 0) 0 ∧ Ext w w' := by
  go_enter Tryd.func16, Tryd.ntmps16
  go_wp2
  go_ret
  refine ⟨rfl, ⟨?_, trivial, fun m hm => (by cases hm), List.Pairwise.nil⟩, Ext.alloc (Below.refl _ _) _⟩
  rw [stC_nil]
  exact newblk w _
theorem Strm.cells {w : World} {S : Nat} {L : List Nd} {cs : Nat → Nat} {n : Nat} (h : Strm w S L cs n) :
    w.cell? ⟨S, 0, none⟩ = some (nxt L (.pointer none)) ∧ w.cell? ⟨S, 1, none⟩ = some (lst L) ∧ w.cell? ⟨S, 8, none⟩ = some (.int .i64 n) ∧ w.cell? ⟨S, 9, none⟩ = some (.bool true) ∧ w.frozen? ⟨S, 0, none⟩ = false ∧ w.frozen? ⟨S, 1, none⟩ = false ∧ w.frozen? ⟨S, 8, none⟩ = false :=
  ⟨by rw [Lib.cell_of_heap h.hd]; rfl, by rw [Lib.cell_of_heap h.hd]; rfl, by rw [Lib.cell_of_heap h.hd]; rfl, by rw [Lib.cell_of_heap h.hd]; rfl, Lib.frozen_of_heap h.hd 0, Lib.frozen_of_heap h.hd 1, Lib.frozen_of_heap h.hd 8⟩
set_option maxHeartbeats 1000000 in
theorem none_any (S : Nat) (w : World) (h9 : w.cell? ⟨S, 9, none⟩ = some (.bool true)) : Calls Tryd.prog 46 #[.pointer (some ⟨S, 0, none⟩)] w fun e w' => e = .returned (.bool false) ∧ w = w' := by
  go_enter Tryd.func46, Tryd.ntmps46
  go_wp2
  go_ret
  exact ⟨rfl, rfl⟩
set_option maxHeartbeats 1000000 in
theorem none_nil (w : World) : Calls Tryd.prog 46 #[.pointer none] w fun e w' => e = .returned (.bool true) ∧ w = w' := by
  go_enter Tryd.func46, Tryd.ntmps46
  go_wp2
  go_ret
  exact ⟨rfl, rfl⟩
set_option maxHeartbeats 1000000 in
theorem none_zero (S : Nat) (w : World) (h9 : w.cell? ⟨S, 9, none⟩ = some (.bool false)) : Calls Tryd.prog 46 #[.pointer (some ⟨S, 0, none⟩)] w fun e w' => e = .returned (.bool true) ∧ w = w' := by
  go_enter Tryd.func46, Tryd.ntmps46
  go_wp2
  go_ret
  exact ⟨rfl, rfl⟩
set_option maxHeartbeats 1000000 in
theorem len_any (S : Nat) (L : List Nd) (cs : Nat → Nat) (n : Nat) (w : World) (h : Strm w S L cs n) : Calls Tryd.prog 20 #[.pointer (some ⟨S, 0, none⟩)] w fun e w' => e = .returned (.int .i64 n) ∧ w = w' := by
  obtain ⟨s0, s1, s8, s9, _⟩ := h.cells
  have c1 : Box _ := ⟨none_any S w s9⟩
  clear h
  go_enter Tryd.func20, Tryd.ntmps20
  go_wp2_with (first | (go_at_call 46; (with_reducible refine (c1.out).mono ?_); rintro e w' ⟨rfl, rfl⟩))
  go_ret
  exact ⟨rfl, rfl⟩
theorem Strm.kinds {w : World} {S : Nat} {L : List Nd} {cs : Nat → Nat} {n : Nat} (h : Strm w S L cs n) (k : Nat) (hk : k < 6) : w.cell? ⟨S, 2 + k, none⟩ = some (.int .u64 (cs k)) := by
  rw [Lib.cell_of_heap h.hd]
  obtain rfl | rfl | rfl | rfl | rfl | rfl : k = 0 ∨ k = 1 ∨ k = 2 ∨ k = 3 ∨ k = 4 ∨ k = 5 := by omega
  all_goals rfl
set_option maxHeartbeats 1000000 in
theorem count_any (S : Nat) (L : List Nd) (cs : Nat → Nat) (n : Nat) (k : Nat) (h1 : 1 ≤ k) (h5 : k ≤ 5) (w : World) (h : Strm w S L cs n) : Calls Tryd.prog 21 #[.pointer (some ⟨S, 0, none⟩), .int .i64 k] w fun e w' => e = .returned (.int .u64 (cs k)) ∧ w = w' := by
  obtain ⟨s0, s1, s8, s9, _⟩ := h.cells
  have c1 : Box _ := ⟨none_any S w s9⟩
  have c2 : Box _ := ⟨fun w => kind_any (k : Int) w⟩
  rw [kB_of k h1 h5] at c2
  have hc := h.kinds k (by omega)
  have h6 : k < 6 := by omega
  have h7 : (k : Int) < 6 := by omega
  clear h h1 h5
  go_enter Tryd.func21, Tryd.ntmps21
  go_wp2_with (first | (go_at_call 46; (with_reducible refine (c1.out).mono ?_); rintro e w' ⟨rfl, rfl⟩) | (go_at_call 41; (with_reducible refine (c2.out _).mono ?_); rintro e w' ⟨rfl, rfl⟩))
  go_ret
  exact ⟨rfl, rfl⟩
theorem size_setCell' (w : World) (p : Addr) (v : Value) : (w.setCell p v).heap.size = w.heap.size := by simp
/-- What add leaves, once its stores are done. -/
theorem Strm.added {w W2 : World} {S : Nat} {L : List Nd} {cs : Nat → Nat} {n : Nat} {v : Evt} {a : Option Addr} {c : Nat} {o : Obj} (h : Strm w S L cs n) (hv : By w (.slice a v.e.val.length c) v.e.val)
    (hm : Mut (Own S L) w W2) (hsz : W2.heap.size = w.heap.size)
    (hS : W2.heap[S]? = some (.cells (stC (L ++ [⟨w.heap.size + 1, .slice a v.e.val.length c, v⟩]) cs n) 69 (0, 0)))
    (hL : Lnk W2 L (ptr (w.heap.size + 1))) :
    Strm ((W2.alloc o).alloc (.cells (ndC v (.slice a v.e.val.length c) (.pointer none)) 92)) S (L ++ [⟨w.heap.size + 1, .slice a v.e.val.length c, v⟩]) cs n ∧ Mut (Own S L) w ((W2.alloc o).alloc (.cells (ndC v (.slice a v.e.val.length c) (.pointer none)) 92)) := by
  have hx : Ext W2 ((W2.alloc o).alloc (.cells (ndC v (.slice a v.e.val.length c) (.pointer none)) 92)) := Ext.alloc (Ext.alloc (Below.refl _ _) _) _
  have hM := hm.trans (Mut.of_ext hx)
  have hnew := newblk (W2.alloc o) (.cells (ndC v (.slice a v.e.val.length c) (.pointer none)) 92)
  have hs1 : (W2.alloc o).heap.size = w.heap.size + 1 := by rw [← hsz]; simp
  rw [hs1] at hnew
  have hlt := h.lt
  have hSlt := blk_lt h.hd
  refine ⟨⟨Ext.blk hx hS, Lnk.app.2 ⟨hL.keep (fun m hm' => ?_) (fun u l hu => By.ext hx hu), ⟨⟨a, c, rfl⟩, hnew, By.mut hM h.noB hv⟩⟩, fun m hm' => ?_, ?_⟩, hM⟩
  · exact hx.block _ (by rw [hsz]; exact hlt m hm')
  · rcases List.mem_append.1 hm' with h1 | h1
    · exact h.up m h1
    · simp at h1; subst h1; show S < w.heap.size + 1; omega
  · refine List.pairwise_append.2 ⟨h.inc, by simp, fun x hx y hy => ?_⟩
    simp at hy; subst hy
    have := hlt x hx
    show x.at_ < w.heap.size + 1
    omega
set_option maxRecDepth 100000 in
set_option maxHeartbeats 4000000 in
theorem add_nil (S : Nat) (cs : Nat → Nat) (n : Nat) (v : Evt) (a : Option Addr) (c : Nat) (w : World) (h : Strm w S [] cs n) (hv : By w (.slice a v.e.val.length c) v.e.val) :
    Calls Tryd.prog 47 #[.pointer (some ⟨S, 0, none⟩), .agg #[.int .i64 v.kind, .string (bs v.e.key), .slice a v.e.val.length c, .int .u64 v.e.birth, .int .u64 v.e.dl, .int .u64 v.now]] w fun e w' => e = .returned (.tuple #[]) ∧ Strm w' S ([] ++ [⟨w.heap.size + 1, .slice a v.e.val.length c, v⟩]) cs n ∧ Mut (Own S []) w w' := by
  have hlt := blk_lt h.hd
  obtain ⟨s0, s1, s8, s9, f0, f1, f8⟩ := h.cells
  have h0 : w.cell? ⟨S, 0, none⟩ = some (.pointer none) := s0
  have h1 : w.cell? ⟨S, 1, none⟩ = some (.pointer none) := s1
  have H := Box.mk h
  have HV := Box.mk hv
  have hne : S ≠ w.heap.size := by omega
  have hne2 : S ≠ w.heap.size + 1 := by omega
  clear h hv s0 s1 s8 s9
  go_enter Tryd.func47, Tryd.ntmps47
  go_wp2
  go_end0
  have hm : Mut (Own S []) w ((w.setCell ⟨S, 0, none⟩ (ptr (w.heap.size + 1))).setCell ⟨S, 1, none⟩ (ptr (w.heap.size + 1))) := (Mut.put w ⟨S, 0, none⟩ _ (Or.inl rfl)).trans (Mut.put _ ⟨S, 1, none⟩ _ (Or.inl rfl))
  obtain ⟨q1, q2⟩ := H.out.added (o := .cells #[.int .i64 v.kind, .string (bs v.e.key), .slice a v.e.val.length c, .int .u64 v.e.birth, .int .u64 v.e.dl, .int .u64 v.now] 28) HV.out hm (by simp) (heap_setCell_same _ S 1 _ _ _ (heap_setCell_same w S 0 _ _ _ H.out.hd)) trivial
  exact ⟨rfl, q1, q2⟩
set_option maxRecDepth 100000 in
set_option maxHeartbeats 4000000 in
theorem add_cons (S : Nat) (L0 : List Nd) (m : Nd) (cs : Nat → Nat) (n : Nat) (v : Evt) (a : Option Addr) (c : Nat) (w : World) (h : Strm w S (L0 ++ [m]) cs n) (hv : By w (.slice a v.e.val.length c) v.e.val) :
    Calls Tryd.prog 47 #[.pointer (some ⟨S, 0, none⟩), .agg #[.int .i64 v.kind, .string (bs v.e.key), .slice a v.e.val.length c, .int .u64 v.e.birth, .int .u64 v.e.dl, .int .u64 v.now]] w fun e w' => e = .returned (.tuple #[]) ∧ Strm w' S ((L0 ++ [m]) ++ [⟨w.heap.size + 1, .slice a v.e.val.length c, v⟩]) cs n ∧ Mut (Own S (L0 ++ [m])) w w' := by
  have hlt := blk_lt h.hd
  obtain ⟨s0, s1, s8, s9, f0, f1, f8⟩ := h.cells
  rw [lst_app] at s1
  obtain ⟨hL0, hmN⟩ := Lnk.app.1 h.lk
  have hmb := hmN.2.1
  have hmlt := blk_lt hmb
  have hSm := h.up m (by simp)
  have e6 : w.cell? ⟨m.at_, 6, none⟩ = some (.pointer none) := by rw [Lib.cell_of_heap hmb]; rfl
  have f6 : w.frozen? ⟨m.at_, 6, none⟩ = false := Lib.frozen_of_heap hmb 6
  have H := Box.mk h
  have HV := Box.mk hv
  have HL := Box.mk hL0
  have HM := Box.mk hmb
  have HMN := Box.mk hmN
  have hne : S ≠ w.heap.size := by omega
  have hne2 : S ≠ w.heap.size + 1 := by omega
  have hne3 : m.at_ ≠ w.heap.size := by omega
  have hne4 : m.at_ ≠ w.heap.size + 1 := by omega
  have hne5 : m.at_ ≠ S := by omega
  unfold ptr at s1
  clear h hv s0 s8 s9 hL0 hmN hmb
  go_enter Tryd.func47, Tryd.ntmps47
  go_wp2
  go_end0
  have hm : Mut (Own S (L0 ++ [m])) w ((w.setCell ⟨m.at_, 6, none⟩ (ptr (w.heap.size + 1))).setCell ⟨S, 1, none⟩ (ptr (w.heap.size + 1))) := (Mut.put w ⟨m.at_, 6, none⟩ _ (Or.inr ⟨m, by simp, rfl⟩)).trans (Mut.put _ ⟨S, 1, none⟩ _ (Or.inl rfl))
  have hS : ((w.setCell ⟨m.at_, 6, none⟩ (ptr (w.heap.size + 1))).setCell ⟨S, 1, none⟩ (ptr (w.heap.size + 1))).heap[S]? = some (.cells (stC ((L0 ++ [m]) ++ [⟨w.heap.size + 1, .slice a v.e.val.length c, v⟩]) cs n) 69 (0, 0)) := by
    rw [heap_setCell_same _ S 1 _ _ _ ((heap_setCell_other w ⟨m.at_, 6, none⟩ S _ (fun e => hne5 e.symm)).trans H.out.hd)]
    unfold stC
    rw [nxt_app, nxt_app, nxt_app, lst_app, lst_app]
    rfl
  have hL : Lnk ((w.setCell ⟨m.at_, 6, none⟩ (ptr (w.heap.size + 1))).setCell ⟨S, 1, none⟩ (ptr (w.heap.size + 1))) (L0 ++ [m]) (ptr (w.heap.size + 1)) := by
    refine Lnk.app.2 ⟨HL.out.keep (fun k hk => ?_) (fun u l hu => By.mut hm H.out.noB hu), HMN.out.1, ?_, By.mut hm H.out.noB HMN.out.2.2⟩
    · have h1 : k.at_ < m.at_ := (List.pairwise_append.1 H.out.inc).2.2 k hk m (by simp)
      have h2 := H.out.up k (by simp [hk])
      rw [heap_setCell_other _ _ _ _ (by show k.at_ ≠ S; omega), heap_setCell_other _ _ _ _ (by show k.at_ ≠ m.at_; omega)]
    · rw [heap_setCell_other _ _ _ _ (by show m.at_ ≠ S; omega)]
      exact heap_setCell_same w m.at_ 6 _ _ _ HM.out
  obtain ⟨q1, q2⟩ := H.out.added (o := .cells #[.int .i64 v.kind, .string (bs v.e.key), .slice a v.e.val.length c, .int .u64 v.e.birth, .int .u64 v.e.dl, .int .u64 v.now] 28) HV.out hm (by simp) hS hL
  exact ⟨rfl, q1, q2⟩
theorem add_any (S : Nat) (L : List Nd) (cs : Nat → Nat) (n : Nat) (v : Evt) (a : Option Addr) (c : Nat) (w : World) (h : Strm w S L cs n) (hv : By w (.slice a v.e.val.length c) v.e.val) :
    Calls Tryd.prog 47 #[.pointer (some ⟨S, 0, none⟩), .agg #[.int .i64 v.kind, .string (bs v.e.key), .slice a v.e.val.length c, .int .u64 v.e.birth, .int .u64 v.e.dl, .int .u64 v.now]] w fun e w' => e = .returned (.tuple #[]) ∧ Strm w' S (L ++ [⟨w.heap.size + 1, .slice a v.e.val.length c, v⟩]) cs n ∧ Mut (Own S L) w w' := by
  rcases List.eq_nil_or_concat L with rfl | ⟨L0, m, rfl⟩
  · exact add_nil S cs n v a c w h hv
  · rw [List.concat_eq_append] at *
    exact add_cons S L0 m cs n v a c w h hv

set_option maxHeartbeats 2000000 in
theorem own_any (k : Int) (s : ByteArray) (a : Option Addr) (l : List UInt8) (c b d t : Nat) (w : World) (h : By w (.slice a l.length c) l) :
    Calls Tryd.prog 48 #[(.agg #[.int .i64 (k), .string s, .slice a (l.length) c, .int .u64 (b), .int .u64 (d), .int .u64 (t)])] w fun e w' => ∃ a' c', e = .returned (.agg #[.int .i64 (k), .string s, .slice a' (l.length) c', .int .u64 (b), .int .u64 (d), .int .u64 (t)]) ∧ OwnB w.heap.size w' (.slice a' l.length c') l ∧ Ext w w' := by
  have c1 : Box (∀ w1, Ext w w1 → Calls Tryd.prog 67 #[.slice a l.length c] w1 fun e w' => ∃ v', e = .returned v' ∧ OwnB w1.heap.size w' v' l ∧ Below w1.heap.size w1 w') := ⟨fun w1 hx => clone_any _ l w1 (h.ext hx)⟩
  have hx0 : Ext w ((w.alloc (.cells #[.int .i64 (k), .string s, .slice a (l.length) c, .int .u64 (b), .int .u64 (d), .int .u64 (t)] 28)).alloc (.cells #[.int .i64 0, .string ⟨#[]⟩, .slice none 0 0, .int .u64 0, .int .u64 0, .int .u64 0] 28)) := Ext.alloc (Ext.alloc (Below.refl _ _) _) _
  have hE0 := Ext.blk (Ext.alloc (Below.refl _ (w.alloc (.cells #[.int .i64 (k), .string s, .slice a (l.length) c, .int .u64 (b), .int .u64 (d), .int .u64 (t)] 28))) (.cells #[.int .i64 0, .string ⟨#[]⟩, .slice none 0 0, .int .u64 0, .int .u64 0, .int .u64 0] 28)) (newblk w (.cells #[.int .i64 (k), .string s, .slice a (l.length) c, .int .u64 (b), .int .u64 (d), .int .u64 (t)] 28))
  have hR0 := newblk (w.alloc (.cells #[.int .i64 (k), .string s, .slice a (l.length) c, .int .u64 (b), .int .u64 (d), .int .u64 (t)] 28)) (.cells #[.int .i64 0, .string ⟨#[]⟩, .slice none 0 0, .int .u64 0, .int .u64 0, .int .u64 0] 28)
  rw [show (w.alloc (.cells #[.int .i64 (k), .string s, .slice a (l.length) c, .int .u64 (b), .int .u64 (d), .int .u64 (t)] 28)).heap.size = w.heap.size + 1 by simp] at hR0
  clear h
  go_enter Tryd.func48, Tryd.ntmps48
  go_wp2_with (first | (go_at_call 67; (with_reducible refine (c1.out _ hx0).mono ?_); rintro e w1 ⟨v', rfl, ho, hb⟩; obtain ⟨a1, c1', rfl⟩ := ho.shape; have hE := Ext.blk hb hE0; have hR := Ext.blk hb hR0; obtain ⟨k0, k1, k2, k3, k4, k5⟩ := blk6 hE; obtain ⟨g0, g1, g2, g3, g4, g5⟩ := blk6f hE; obtain ⟨m0, m1, m2, m3, m4, m5⟩ := blk6 hR; obtain ⟨f0, f1, f2, f3, f4, f5⟩ := blk6f hR; have hz : w.heap.size + 2 ≤ w1.heap.size := by have := hb.size; simp at this; omega))
  have ho' := ho.mono (C := w.heap.size + 2) (by simp)
  have hx1 := Ext.trans' hx0 hb
  refine bodyPost_ret (v := (.agg #[.int .i64 (k), .string s, .slice a1 (l.length) c1', .int .u64 (b), .int .u64 (d), .int .u64 (t)])) ?_ rfl ⟨_, _, rfl, ?_, ?_⟩
  · simp [results, Tryd.results48, go_sem, m0, m1, m2, m3, m4, m5]
  · exact ((ho'.setCell (p := ⟨w.heap.size, 2, none⟩) (by simp) _).st6 (B := w.heap.size + 1) (by omega) _ _ _ _ _ _).mono (by omega)
  · exact St6.ext (Below.setCell hx1 (p := ⟨w.heap.size, 2, none⟩) (by simp) _) (B := w.heap.size + 1) (by omega) _ _ _ _ _ _
def bump (cs : Nat → Nat) (k : Nat) : Nat → Nat := fun j => if j = k then cs j + 1 else cs j
theorem stC_bump (L : List Nd) (cs : Nat → Nat) (n k : Nat) (h1 : 1 ≤ k) (h5 : k ≤ 5) : (stC L cs n).setIfInBounds (2 + k) (.int .u64 ((cs k : Int) + 1)) = stC L (bump cs k) n := by
  obtain rfl | rfl | rfl | rfl | rfl := k5 k h1 h5
  all_goals simp [stC, bump]
theorem stC_there (L : List Nd) (cs : Nat → Nat) (n m : Nat) : (stC L cs n).setIfInBounds 8 (.int .i64 m) = stC L cs m := by
  simp [stC]
theorem Strm.reset {w : World} {S : Nat} {L : List Nd} {cs cs' : Nat → Nat} {n n' : Nat} (h : Strm w S L cs n) (o : Nat) (x : Value) (hS : (stC L cs n).setIfInBounds o x = stC L cs' n') : Strm (w.setCell ⟨S, o, none⟩ x) S L cs' n' ∧ Mut (Own S L) w (w.setCell ⟨S, o, none⟩ x) := by
  have hm : Mut (Own S L) w (w.setCell ⟨S, o, none⟩ x) := Mut.put w ⟨S, o, none⟩ x (Or.inl rfl)
  refine ⟨⟨?_, h.lk.keep (fun m hm' => heap_setCell_other _ _ _ _ (by have := h.up m hm'; show m.at_ ≠ S; omega)) (fun u l hu => By.mut hm h.noB hu), h.up, h.inc⟩, hm⟩
  rw [heap_setCell_same _ S o _ _ _ h.hd, hS]
set_option maxHeartbeats 2000000 in
theorem Add_bad (S : Nat) (L : List Nd) (cs : Nat → Nat) (n : Nat) (k : Int) (s : ByteArray) (a : Option Addr) (m c b d t : Nat) (w : World) (h : Strm w S L cs n) (hs : s.size ≤ 9223372036854775807) (hm : m ≤ 9223372036854775807) (hb : b < 18446744073709551616) (hd : d < 18446744073709551616) (ht : t < 18446744073709551616) (hk : okV k s.size m b d t = false) :
    Calls Tryd.prog 17 #[.pointer (some ⟨S, 0, none⟩), (.agg #[.int .i64 (k), .string s, .slice a (m) c, .int .u64 (b), .int .u64 (d), .int .u64 (t)])] w fun e w' => e = .returned (.int .i64 2) ∧ Ext w w' := by
  have hx : Ext w (w.alloc (.cells #[.int .i64 (k), .string s, .slice a (m) c, .int .u64 (b), .int .u64 (d), .int .u64 (t)] 28)) := Ext.alloc (Below.refl _ _) _
  have H := Box.mk h
  have c1 : Box (∀ w', Ext w w' → _) := ⟨fun w' hx => none_any S w' (h.ext hx).cells.2.2.2.1⟩
  have c2 : Box _ := ⟨fun w => vvalid_any k s a m c b d t w hs hm hb hd ht⟩
  rw [hk] at c2
  clear h hk
  go_enter Tryd.func17, Tryd.ntmps17
  go_wp2_with (first
    | (go_at_call 46; (with_reducible refine (c1.out _ hx).mono ?_); rintro e w' ⟨rfl, rfl⟩)
    | (go_at_call 14; (with_reducible refine (c2.out _).mono ?_); rintro e w1 ⟨rfl, hb⟩; have hx := Ext.trans' hx hb))
  go_ret
  exact ⟨rfl, hx⟩
theorem OwnB.mut {X : Nat → Prop} {B : Nat} {w w' : World} {v : Value} {l : List UInt8} (h : OwnB B w v l) (hm : Mut X w w') (hX : ∀ j, X j → j < B) : OwnB B w' v l := by
  refine ⟨h.1, ?_⟩
  rcases h.2 with h2 | ⟨g, cap, cur, hv, hb1, hg, r⟩
  · exact Or.inl h2
  · exact Or.inr ⟨g, cap, cur, hv, hb1, (hm.other g (Array.getElem?_eq_some_iff.1 hg).1 (fun hx => by have := hX g hx; omega)).trans hg, r⟩
theorem Evt.sizes {v : Evt} (h : v.fine = true) : (bs v.e.key).size ≤ 250 ∧ v.e.val.length ≤ 65536 := by
  have hk := (Evt.fine_k h).2.2
  unfold Ent.fine at hk
  simp only [Bool.and_eq_true, decide_eq_true_eq] at hk
  rw [bs_size]
  exact ⟨hk.1.1.2, hk.1.2⟩
set_option maxRecDepth 100000 in
set_option maxHeartbeats 4000000 in
theorem Add_ok (S : Nat) (L : List Nd) (cs : Nat → Nat) (n : Nat) (v : Evt) (a : Option Addr) (c : Nat) (w : World) (h : Strm w S L cs n) (hn : n < 1048576) (hc : ∀ k, cs k ≤ 100000000) (hf : v.fine = true) (hin : v.In) (hv : By w (.slice a v.e.val.length c) v.e.val) :
    Calls Tryd.prog 17 #[.pointer (some ⟨S, 0, none⟩), .agg #[.int .i64 v.kind, .string (bs v.e.key), .slice a v.e.val.length c, .int .u64 v.e.birth, .int .u64 v.e.dl, .int .u64 v.now]] w fun e w' => ∃ A u, e = .returned (.int .i64 0) ∧ Strm w' S (L ++ [⟨A, u, v⟩]) (bump cs v.kind) (n + 1) ∧ OwnB w.heap.size w' u v.e.val ∧ Mut (Own S L) w w' := by
  obtain ⟨z1, z2⟩ := Evt.sizes hf
  obtain ⟨k1, k5, _⟩ := Evt.fine_k hf
  have hxd := hin.e.dl; have hxb := hin.e.birth; have htt := hin.now
  unfold never at hxd hxb htt
  have H := Box.mk h
  have HV := Box.mk hv
  have c1 : Box (∀ w', Ext w w' → _) := ⟨fun w' hx => none_any S w' (h.ext hx).cells.2.2.2.1⟩
  have c2 : Box (∀ w, Calls Tryd.prog 14 #[.agg #[.int .i64 v.kind, .string (bs v.e.key), .slice a v.e.val.length c, .int .u64 v.e.birth, .int .u64 v.e.dl, .int .u64 v.now]] w fun e w' => e = .returned (.bool true) ∧ Ext w w') := ⟨fun w => by
    have h9 := vvalid_any (v.kind : Int) (bs v.e.key) a v.e.val.length c v.e.birth v.e.dl v.now w (by omega) (by omega) (by omega) (by omega) (by omega)
    rw [bs_size, ok_fine] at h9
    rw [show Evt.fine ⟨v.kind, ⟨v.e.key, v.e.val, v.e.dl, v.e.birth⟩, v.now⟩ = true from hf] at h9
    exact h9⟩
  have c3 : Box (∀ w', Ext w w' → _) := ⟨fun w' hx => own_any (v.kind : Int) (bs v.e.key) a v.e.val c v.e.birth v.e.dl v.now w' (hv.ext hx)⟩
  have c4 : Box (∀ w' a' c', Ext w w' → By w' (.slice a' v.e.val.length c') v.e.val → _) := ⟨fun w' a' c' hx hy => add_any S L cs n v a' c' w' (h.ext hx) hy⟩
  have hx : Ext w (w.alloc (.cells #[.int .i64 v.kind, .string (bs v.e.key), .slice a v.e.val.length c, .int .u64 v.e.birth, .int .u64 v.e.dl, .int .u64 v.now] 28)) := Ext.alloc (Below.refl _ _) _
  have hB := newblk w (.cells #[.int .i64 v.kind, .string (bs v.e.key), .slice a v.e.val.length c, .int .u64 v.e.birth, .int .u64 v.e.dl, .int .u64 v.now] 28)
  obtain ⟨m0, m1, m2, m3, m4, m5⟩ := blk6 hB
  obtain ⟨s0, s1, s8, s9, f0, f1, f8⟩ := (h.ext hx).cells
  have d1 : decide (1048576 ≤ (n : Int)) = false := decide_eq_false (by omega)
  have d2 : decide (1048576 ≤ n) = false := decide_eq_false (by omega)
  have hSlt := blk_lt h.hd
  have hLlt := h.lt
  have hown : Box (¬ Own S L w.heap.size) := ⟨by
    rintro (e | ⟨m, hm, e⟩)
    · omega
    · have := hLlt m hm; omega⟩
  have hX : Box (∀ j, Own S L j → j < w.heap.size) := ⟨by
    rintro j (e | ⟨m, hm, e⟩)
    · omega
    · have := hLlt m hm; omega⟩
  clear hLlt
  have h6 : v.kind < 6 := by omega
  have h7 : (v.kind : Int) < 6 := by omega
  have hck := hc v.kind
  have u1 : IntKind.u64.wrap ((cs v.kind : Int) + 1) = (cs v.kind : Int) + 1 := by rw [IntKind.wrap_u64]; omega
  have u2 : IntKind.i64.wrap ((n : Int) + 1) = (n : Int) + 1 := by rw [IntKind.wrap_i64]; omega
  clear h hv hf hin hc hxd hxb htt
  go_enter Tryd.func17, Tryd.ntmps17
  go_wp2_with (first
    | (go_at_call 46; (with_reducible refine (c1.out _ hx).mono ?_); rintro e w' ⟨rfl, rfl⟩)
    | (go_at_call 14; (with_reducible refine (c2.out _).mono ?_); rintro e w1 ⟨rfl, hb⟩; (try clear m0 m1 m2 m3 m4 m5 s0 s1 s8 s9 f0 f1 f8); have hx := Ext.trans' hx hb; have hB := Ext.blk hb hB; obtain ⟨m0, m1, m2, m3, m4, m5⟩ := blk6 hB; obtain ⟨s0, s1, s8, s9, f0, f1, f8⟩ := (H.out.ext hx).cells)
    | (go_at_call 48; (with_reducible refine (c3.out _ hx).mono ?_); rintro e w2 ⟨a2, c2', rfl, ho, hb⟩; (try clear m0 m1 m2 m3 m4 m5 s0 s1 s8 s9 f0 f1 f8); have ho := OwnB.mono ho (C := w.heap.size) (by have := hx.size; omega); have hx := Ext.trans' hx hb; have hB := Ext.blk hb hB; have hy := ho.by (by omega))
    | (go_at_call 47; (with_reducible refine (c4.out _ _ _ hx hy).mono ?_); rintro e w3 ⟨rfl, hS, hM⟩; have hB := (hM.other _ (blk_lt hB) hown.out).trans hB; obtain ⟨m0, m1, m2, m3, m4, m5⟩ := blk6 hB; obtain ⟨s0, s1, s8, s9, f0, f1, f8⟩ := hS.cells; have hkd := hS.kinds v.kind h6; have fkd := Lib.frozen_of_heap hS.hd (2 + v.kind); have ho := OwnB.mut ho hM hX.out))
  have hS' := Box.mk hS
  clear hS
  go_region
  obtain ⟨hS2, hM2⟩ := hS'.out.reset (2 + v.kind) (.int .u64 ((cs v.kind : Int) + 1)) (stC_bump _ cs n v.kind k1 k5)
  have hdr : Ext (w3.setCell ⟨S, 2 + v.kind, none⟩ (.int .u64 ((cs v.kind : Int) + 1))) (w3.setCell ⟨S, 2 + v.kind, none⟩ (.int .u64 ((cs v.kind : Int) + 1))).drew := Ext.drew1 (Below.refl _ _)
  have hS3 := hS2.ext hdr
  have hX3 : ∀ j, Own S (L ++ [⟨w2.heap.size + 1, .slice a2 v.e.val.length c2', v⟩]) j → Own S L j ∨ j = w2.heap.size + 1 := by
    rintro j (e | ⟨m, hm, e⟩)
    · exact .inl (.inl e)
    · rcases List.mem_append.1 hm with hm | hm
      · exact .inl (.inr ⟨m, hm, e⟩)
      · simp at hm; subst hm; exact .inr e.symm
  have hMM : Mut (Own S L) w3 (w3.setCell ⟨S, 2 + v.kind, none⟩ (.int .u64 ((cs v.kind : Int) + 1))).drew := (Mut.put w3 ⟨S, 2 + v.kind, none⟩ _ (Or.inl rfl)).trans (Mut.of_ext hdr)
  have ho3 := OwnB.mut ho hMM hX.out
  have hM4 := hM.trans hMM
  generalize (w3.setCell ⟨S, 2 + v.kind, none⟩ (.int .u64 ((cs v.kind : Int) + 1))).drew = w4 at *
  clear s0 s1 s8 s9 f0 f1 f8 hkd fkd m0 m1 m2 m3 m4 m5 hdr hS2 hM2 hX3
  obtain ⟨s0, s1, s8, s9, f0, f1, f8⟩ := hS3.cells
  have HS := Box.mk hS3
  have HO := Box.mk ho3
  have HM := Box.mk hM4
  clear hS3 ho3 hM4 ho hM hMM
  go_wp2
  go_ret
  obtain ⟨hS5, hM5⟩ := HS.out.reset 8 (.int .i64 ((n + 1 : Nat) : Int)) (stC_there _ _ n (n + 1))
  have hM6 : Mut (Own S L) w4 (w4.setCell ⟨S, 8, none⟩ (.int .i64 ((n + 1 : Nat) : Int))) := Mut.put w4 ⟨S, 8, none⟩ _ (Or.inl rfl)
  exact ⟨_, _, rfl, hS5, OwnB.mut HO.out hM6 hX.out, (Mut.of_ext hx).trans (HM.out.trans hM6)⟩
end Go.Proofs.YtapngkjgagapeaaDoor
