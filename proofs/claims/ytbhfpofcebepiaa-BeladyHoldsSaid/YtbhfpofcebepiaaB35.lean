import Derived.Test.YtbhfpofcebepiaaB34
import Derived.Deep.QuietTactic
import Derived.BigQuiet
/- The contract of the reference's Check. -/
namespace Go.Proofs.Ytbhfpofcebepiaa
open Go.RowKit
theorem badOk (hit left kc oz oc : Bool) : (!((hit != kc) || (hit && left) || (!left && oz) || (left && !oc))) = (!((hit != kc) || (hit && left) || (!left && oz)) && !(left && !oc)) := by
  cases hit <;> cases left <;> cases kc <;> cases oz <;> cases oc <;> rfl
theorem bad1_cases (hit left kc oz : Bool) : (hit = true ∧ kc = false) ∨ (hit = false ∧ kc = true) ∨ (hit = true ∧ kc = true ∧ left = true) ∨ (hit = true ∧ kc = true ∧ left = false ∧ oz = true) ∨ (hit = true ∧ kc = true ∧ left = false ∧ oz = false) ∨
    (hit = false ∧ kc = false ∧ left = true) ∨ (hit = false ∧ kc = false ∧ left = false ∧ oz = true) ∨ (hit = false ∧ kc = false ∧ left = false ∧ oz = false) := by
  cases hit <;> cases left <;> cases kc <;> cases oz <;> simp
theorem polN_len (C : List Nat) (l : Option Nat) (r : Nat) : (polN C l r).length ≤ C.length + 1 := by
  have e1 : ∀ (C : List Nat) (u : Nat), (woB C u).length ≤ C.length := fun C u => List.length_filter_le _ _
  unfold polN
  rw [List.length_append]
  cases l with
  | none =>
    have := e1 C r
    show (woB C r).length + 1 ≤ _
    omega
  | some u =>
    have h1 := e1 C u
    have h2 := e1 (woB C u) r
    show (woB (woB C u) r).length + 1 ≤ _
    omega
/-- The keys of the reference. -/
structure RcR (w : World) (O : List Nat) (a6 : Option Addr) (c6 : Nat) (W : World) : Prop where
  ext : Ext w W
  keys : W.ownsRow w.heap.size 45 1 (.slice a6 O.length c6) O.length (u32L O)
theorem RcR.of_ext {w W W' : World} {O : List Nat} {a6 : Option Addr} {c6 : Nat} (h : RcR w O a6 c6 W) (hx : Ext W W') : RcR w O a6 c6 W' := ⟨Ext.trans' h.ext hx, ownsRow_ext hx h.keys⟩
theorem RcR.without {w W W' : World} {O : List Nat} {a6 : Option Addr} {c6 : Nat} {x : Nat} {a c : _} (h : RcR w O a6 c6 W) (hx : Ext W W') (ho : W'.ownsRow W.heap.size 45 1 (.slice a (woB O x).length c) (woB O x).length (u32L (woB O x))) : RcR w (woB O x) a c W' :=
  ⟨Ext.trans' h.ext hx, own_base ho h.ext.size⟩
theorem RcR.push {w W W' : World} {O : List Nat} {a6 : Option Addr} {c6 : Nat} {x : Nat} {v : Value} (h : RcR w O a6 c6 W) (hb : Below w.heap.size W W') (ho : W'.ownsRow w.heap.size 45 1 v (O.length + 1) (u32L O ++ [.int .u32 (x : Nat)])) : ∃ a c, v = .slice a (O.length + 1) c ∧ RcR w (O ++ [x]) a c W' := by
  obtain ⟨a, c, rfl⟩ := slice_form ho
  refine ⟨a, c, rfl, Below.trans h.ext hb, ?_⟩
  rw [List.length_append, u32L_snoc]
  exact ho
set_option maxRecDepth 100000 in
set_option maxHeartbeats 8000000 in
theorem rcheck_any (a b : Option Addr) (c d : Nat) (L : List Nat) (ts : List TnB) (k : Nat) (w : World) (hL : L.length ≤ 1000) (hts : ts.length = L.length) (h2 : k ≤ 1024) (hC : CellsAt w a (u32L L)) (hD : CellsAt w b (rows TnB.cs ts))
    (r : Bool) (hr : r = true ↔ ∀ i, i < L.length → goodB L k ts i = true) :
    Calls Try.prog 20 #[.slice a L.length c, .int .i64 (k : Nat), .slice b ts.length d] w fun e w' => e = .returned (.bool r) ∧ Ext w w' := by
  obtain ⟨i0, hi, hz0, hz1, hz2⟩ := info_parts infoU32
  rw [hts]
  replace hC := Box.mk hC
  replace hD := Box.mk hD
  replace hr := Box.mk hr
  go_enter Try.func20, Try.ntmps20
  go_wp2
  go_loopw [7, 8] (fun ks i wr => ∃ t : Nat, t ≤ L.length ∧ i = .int .i64 t ∧ Box (∀ j, j < t → goodB L k ts j = true) ∧ ∃ a6 c6, ks = .slice a6 (polS L ts t).length c6 ∧ Box (RcR w (polS L ts t) a6 c6 wr) ∧ (polS L ts t).length ≤ t) (fun _ i _ => L.length - (intOf i).toNat)
  case atStart => exact ⟨0, by omega, rfl, ⟨fun j h => absurd h (by omega)⟩, none, 0, rfl, ⟨⟨Below.refl _ _, World.ownsRow_nil _ _ _ _⟩⟩, Nat.le_refl _⟩
  case round =>
    obtain ⟨t, ht, rfl, hA, a6, c6, rfl, hR, hkl⟩ := hrel
    by_cases htn : t < L.length
    · have n0 : (0 : Int) ≤ (t : Int) := by omega
      have n1 : (t : Int) < (L.length : Int) := by omega
      have n2 : decide ((t : Int) < (L.length : Int)) = true := decide_eq_true n1
      have n3 : decide (t < L.length) = true := decide_eq_true htn
      have n4 : IntKind.i64.wrap ((t : Int) + 1) = (t : Int) + 1 := b64_one (by omega)
      have hx := hR.out.ext
      obtain ⟨b1, o1, rfl, hcell⟩ := CellsAt.keep hx hC.out t _ (u32L_at htn)
      rw [keyB_get L t htn] at hcell
      obtain ⟨b2, o2, rfl, r1⟩ := rows_row TnB.cs 3 (fun _ => rfl) (by decide) (CellsAt.keep hx hD.out) t (by rw [hts]; exact htn)
      have p0 : wr.cell? ⟨b2, o2 + t * 3, none⟩ = some (.bool (tnB ts t).hit) := by
        have := r1 0 _ rfl
        rw [tnB_get] at this; exact this
      have p1 : wr.cell? ⟨b2, o2 + t * 3 + 1, none⟩ = some (.bool (tnB ts t).left) := by
        have := r1 1 _ rfl
        rw [tnB_get] at this; exact this
      have p2 : wr.cell? ⟨b2, o2 + t * 3 + 2, none⟩ = some (.int .u32 ((tnB ts t).out : Nat)) := by
        have := r1 2 _ rfl
        rw [tnB_get] at this; exact this
      have hgd := good_pol L k ts t
      have hpn : polS L ts (t + 1) = polN (polS L ts t) (tnB ts t).who (keyB L t) := rfl
      have hpl : Box ((polS L ts (t + 1)).length ≤ t + 1) := ⟨by
        rw [hpn]
        have := polN_len (polS L ts t) (tnB ts t).who (keyB L t)
        clear n4
        omega⟩
      clear r1
      have hx2 : Ext wr (wr.alloc (.cells #[.bool (tnB ts t).hit, .bool (tnB ts t).left, .int .u32 ((tnB ts t).out : Nat)] 50)).drew := Ext.drew1 (Ext.alloc (Below.refl _ _) _)
      have hXb := Ext.blk (Ext.drew1 (Below.refl _ _) : Ext (wr.alloc (.cells #[.bool (tnB ts t).hit, .bool (tnB ts t).left, .int .u32 ((tnB ts t).out : Nat)] 50)) _) (newblk wr (.cells #[.bool (tnB ts t).hit, .bool (tnB ts t).left, .int .u32 ((tnB ts t).out : Nat)] 50))
      have cH : Box (∀ y w', Ext wr w' → Calls Try.prog 39 #[.slice a6 (polS L ts t).length c6, .int .u32 (y : Nat)] w' fun e w'' => e = .returned (.bool (decide (y ∈ polS L ts t))) ∧ w'' = w') := ⟨fun y w' h => (rhas_any a6 c6 (polS L ts t) y w' (by clear n4; omega) (own_cells (hR.out.of_ext h).keys)).mono (by
        rintro e w'' ⟨he, hw⟩
        exact ⟨he, hw.symm⟩)⟩
      have cW : Box (∀ O y a c w', O.length ≤ 1000 → RcR w O a c w' → Calls Try.prog 40 #[.slice a O.length c, .int .u32 (y : Nat)] w' fun e w'' => ∃ a' c', e = .returned (.slice a' (woB O y).length c') ∧ RcR w (woB O y) a' c' w'' ∧ Ext w' w'') := ⟨fun O y a c w' hO h => (rwithout_any a c O y w' (by omega) (own_cells h.keys)).mono (by
        rintro e w'' ⟨a', c', he, ho, hx⟩
        exact ⟨a', c', he, h.without hx ho, hx⟩)⟩
      generalize hCe : polS L ts t = C at *
      replace hCe := Box.mk hCe
      generalize tnB ts t = x at *
      generalize keyB L t = key at *
      obtain ⟨hit, left, out⟩ := x
      dsimp only at *
      go_wp2
      go_region_held3 (fun w' => w'.cell? ⟨b1, o1 + t, none⟩ = some (.int .u32 (key : Nat)) ∧ w'.cell? ⟨b2, o2 + t * 3, none⟩ = some (.bool hit) ∧ w'.cell? ⟨b2, o2 + t * 3 + 1, none⟩ = some (.bool left) ∧ w'.cell? ⟨b2, o2 + t * 3 + 2, none⟩ = some (.int .u32 (out : Nat)))
        (first
          | (with_reducible exact ⟨hcell, p0, p1, p2⟩)
          | (exact ⟨Ext.cell (Ext.drew1 (Ext.alloc (Below.refl _ _) _)) hcell, Ext.cell (Ext.drew1 (Ext.alloc (Below.refl _ _) _)) p0, Ext.cell (Ext.drew1 (Ext.alloc (Below.refl _ _) _)) p1, Ext.cell (Ext.drew1 (Ext.alloc (Below.refl _ _) _)) p2⟩)
          | go_keep)
        (fail)
      go_wp2
      have W6 : Box (Ext wr (wr.alloc (.cells #[.bool hit, .bool left, .int .u32 (out : Nat)] 50)).drew) := ⟨hx2⟩
      generalize (wr.alloc (.cells #[.bool hit, .bool left, .int .u32 (out : Nat)] 50)).drew = W2 at *
      obtain ⟨x0, x1, x2⟩ := cells3 hXb
      obtain ⟨kc, hkc⟩ : ∃ kc, kc = decide (key ∈ C) := ⟨_, rfl⟩
      obtain ⟨oc, hoc⟩ : ∃ oc, oc = decide (out ∈ C) := ⟨_, rfl⟩
      obtain ⟨oz, hoz⟩ : ∃ oz, oz = decide (out ≠ 0) := ⟨_, rfl⟩
      have hoz1 : ((out : Int) != 0) = oz := by
        rw [hoz]
        by_cases h : out = 0
        · subst h; rfl
        · rw [decide_eq_true h, bne_iff_ne]; clear n4; omega
      have hoz2 : (out != 0) = oz := by
        rw [hoz]
        by_cases h : out = 0
        · subst h; rfl
        · rw [decide_eq_true h, bne_iff_ne]; exact h
      have hgd2 : Box (goodB L k ts t = ((!((hit != kc) || (hit && left) || (!left && oz)) && !(left && !oc)) && decide ((polS L ts (t + 1)).length ≤ k))) := ⟨by
        rw [hgd, hkc, hoc, hoz, ← badOk]; rfl⟩
      have cK := Box.mk (cH.out key)
      rw [← hkc] at cK
      have cO := Box.mk (cH.out out)
      rw [← hoc] at cO
      have hfalse : Box (goodB L k ts t = false → r = false) := ⟨fun h => by
        cases r with
        | false => rfl
        | true =>
          have := hr.out.1 rfl t htn
          rw [h] at this
          cases this⟩
      clear hgd hkc hoc hoz cH
      rcases bad1_cases hit left kc oz with ⟨rfl, rfl⟩ | ⟨rfl, rfl⟩ | ⟨rfl, rfl, rfl⟩ | ⟨rfl, rfl, rfl, rfl⟩ | ⟨rfl, rfl, rfl, rfl⟩ | ⟨rfl, rfl, rfl⟩ | ⟨rfl, rfl, rfl, rfl⟩ | ⟨rfl, rfl, rfl, rfl⟩
      · have hrf : r = false := hfalse.out (by rw [hgd2.out]; rfl)
        go_quiet (first | (go_at_call 39; exact Calls.quiet_of_same (cK.out _ (Ext.drewN W6.out _))))
        go_wp2
        go_ret
        subst hrf
        exact ⟨rfl, Ext.drewN (Ext.trans' hx W6.out) _⟩
      · have hrf : r = false := hfalse.out (by rw [hgd2.out]; rfl)
        go_quiet (first | (go_at_call 39; exact Calls.quiet_of_same (cK.out _ (Ext.drewN W6.out _))))
        go_wp2
        go_ret
        subst hrf
        exact ⟨rfl, Ext.drewN (Ext.trans' hx W6.out) _⟩
      · have hrf : r = false := hfalse.out (by rw [hgd2.out]; rfl)
        go_quiet (first | (go_at_call 39; exact Calls.quiet_of_same (cK.out _ (Ext.drewN W6.out _))))
        go_wp2
        go_ret
        subst hrf
        exact ⟨rfl, Ext.drewN (Ext.trans' hx W6.out) _⟩
      · have hrf : r = false := hfalse.out (by rw [hgd2.out]; rfl)
        go_quiet (first | (go_at_call 39; exact Calls.quiet_of_same (cK.out _ (Ext.drewN W6.out _))))
        go_wp2
        go_ret
        subst hrf
        exact ⟨rfl, Ext.drewN (Ext.trans' hx W6.out) _⟩
      · have hnxt : polS L ts (t + 1) = woB (C) key ++ [key] := by rw [hpn]; rfl
        have hwl : (woB (C) key).length ≤ 1000 := by
          have h9 : (woB (C) key ++ [key]).length ≤ t + 1 := by rw [← hnxt]; exact hpl.out
          rw [List.length_append] at h9
          clear n4
          simp at h9; omega
        have hk5 : (woB (C) key).length + 1 ≤ 140737488355328 := by clear n4; omega
        have hk6 : ((woB (C) key).length + 1) * 4 ≤ 140737488355328 := by clear n4; omega
        have hlen : (polS L ts (t + 1)).length = (woB (C) key).length + 1 := by rw [hnxt, List.length_append]; rfl
        have hcl : (C).length ≤ 1000 := by clear n4; omega
        replace hnxt := Box.mk hnxt
        by_cases hfit : (woB (C) key).length + 1 ≤ k
        · have hg1 : goodB L k ts t = true := by
            rw [hgd2.out, hlen, decide_eq_true hfit]; rfl
          have f1 : decide (((woB (C) key).length : Int) + 1 > (k : Int)) = false := decide_eq_false (by clear n4; omega)
          have f2 : decide ((k : Int) < ((woB (C) key).length : Int) + 1) = false := decide_eq_false (by clear n4; omega)
          have f3 : decide (k < (woB (C) key).length + 1) = false := decide_eq_false (by clear n4; omega)
          have hA2 : Box (∀ j, j < t + 1 → goodB L k ts j = true) := ⟨fun j hj => by
            by_cases e : j = t
            · subst e; exact hg1
            · exact hA.out j (by clear n4; omega)⟩
          clear hfit hg1
          go_quiet (first | (go_at_call 39; exact Calls.quiet_of_same (cK.out _ (Ext.drewN W6.out _))))
          go_wp2_with (first
            | (go_at_call 40; (with_reducible refine (cW.out C key _ _ _ hcl (hR.out.of_ext (Ext.drewN W6.out _))).mono ?_); rintro e w5 ⟨a8, c8, rfl, hR8, hx8⟩; replace hR8 := Box.mk hR8)
            | (at_builtin; refine wpList_push rfl _ _ 22 rfl w.heap.size 45 i0 (.int .u32 0) 1 4 Try.underlying22 hi hz0 hz1 hz2 rfl (by decide) _ _ _ rfl hR8.out.keys [.int .u32 (key : Nat)] (by first | rfl | simp [Act.eval]) rfl (by simp [Value.oneCell']) hk5 hk6 hR8.out.ext.size ?_; intro v1 w3 hown3 hg3 hbel3 hs3; obtain ⟨a9, c9, rfl, hR9⟩ := hR8.out.push (x := key) hbel3 hown3; replace hR9 := Box.mk hR9; clear hown3 hg3 hbel3 hs3))
          go_roundw
          case rel => exact ⟨t + 1, by clear n4; omega, by go_num, hA2, a9, c9, by rw [hlen], by rw [hnxt.out]; exact hR9, hpl.out⟩
          case measure =>
            clear n4
            simp [intOf]; omega
        · have hrf : r = false := hfalse.out (by rw [hgd2.out, hlen, decide_eq_false hfit, Bool.and_false])
          have f1 : decide (((woB (C) key).length : Int) + 1 > (k : Int)) = true := decide_eq_true (by clear n4; omega)
          have f2 : decide ((k : Int) < ((woB (C) key).length : Int) + 1) = true := decide_eq_true (by clear n4; omega)
          have f3 : decide (k < (woB (C) key).length + 1) = true := decide_eq_true (by clear n4; omega)
          clear hfit
          go_quiet (first | (go_at_call 39; exact Calls.quiet_of_same (cK.out _ (Ext.drewN W6.out _))))
          go_wp2_with (first
            | (go_at_call 40; (with_reducible refine (cW.out C key _ _ _ hcl (hR.out.of_ext (Ext.drewN W6.out _))).mono ?_); rintro e w5 ⟨a8, c8, rfl, hR8, hx8⟩; replace hR8 := Box.mk hR8)
            | (at_builtin; refine wpList_push rfl _ _ 22 rfl w.heap.size 45 i0 (.int .u32 0) 1 4 Try.underlying22 hi hz0 hz1 hz2 rfl (by decide) _ _ _ rfl hR8.out.keys [.int .u32 (key : Nat)] (by first | rfl | simp [Act.eval]) rfl (by simp [Value.oneCell']) hk5 hk6 hR8.out.ext.size ?_; intro v1 w3 hown3 hg3 hbel3 hs3; obtain ⟨a9, c9, rfl, hR9⟩ := hR8.out.push (x := key) hbel3 hown3; replace hR9 := Box.mk hR9; clear hown3 hg3 hbel3 hs3))
          go_ret
          subst hrf
          exact ⟨rfl, hR9.out.ext⟩
      · cases oc with
        | false =>
          have hrf : r = false := hfalse.out (by rw [hgd2.out]; rfl)
          go_quiet (first | (go_at_call 39; exact Calls.quiet_of_same (cK.out _ (Ext.drewN W6.out _))))
          go_wp2_with (first
            | (go_at_call 39; (with_reducible refine (cO.out _ (Ext.drewN W6.out _)).mono ?_); rintro e w4 ⟨rfl, rfl⟩))
          go_ret
          subst hrf
          exact ⟨rfl, Ext.drewN (Ext.trans' hx W6.out) _⟩
        | true =>
          have hcl0 : C.length ≤ 1000 := by clear n4; omega
          have hnxt : polS L ts (t + 1) = woB (woB C out) key ++ [key] := by rw [hpn]; rfl
          have hwl : (woB (woB C out) key).length ≤ 1000 := by
            have h9 : (woB (woB C out) key ++ [key]).length ≤ t + 1 := by rw [← hnxt]; exact hpl.out
            rw [List.length_append] at h9
            clear n4
            simp at h9; omega
          have hk5 : (woB (woB C out) key).length + 1 ≤ 140737488355328 := by clear n4; omega
          have hk6 : ((woB (woB C out) key).length + 1) * 4 ≤ 140737488355328 := by clear n4; omega
          have hlen : (polS L ts (t + 1)).length = (woB (woB C out) key).length + 1 := by rw [hnxt, List.length_append]; rfl
          have hcl : (woB C out).length ≤ 1000 := by clear n4; have := List.length_filter_le (fun x => x != out) C; show (List.filter _ _).length ≤ _; omega
          replace hnxt := Box.mk hnxt
          by_cases hfit : (woB (woB C out) key).length + 1 ≤ k
          · have hg1 : goodB L k ts t = true := by
              rw [hgd2.out, hlen, decide_eq_true hfit]; rfl
            have f1 : decide (((woB (woB C out) key).length : Int) + 1 > (k : Int)) = false := decide_eq_false (by clear n4; omega)
            have f2 : decide ((k : Int) < ((woB (woB C out) key).length : Int) + 1) = false := decide_eq_false (by clear n4; omega)
            have f3 : decide (k < (woB (woB C out) key).length + 1) = false := decide_eq_false (by clear n4; omega)
            have hA2 : Box (∀ j, j < t + 1 → goodB L k ts j = true) := ⟨fun j hj => by
              by_cases e : j = t
              · subst e; exact hg1
              · exact hA.out j (by clear n4; omega)⟩
            clear hfit hg1
            go_quiet (first | (go_at_call 39; exact Calls.quiet_of_same (cK.out _ (Ext.drewN W6.out _))))
            go_wp2_with (first
              | (go_at_call 39; (with_reducible refine (cO.out _ (Ext.drewN W6.out _)).mono ?_); rintro e w4 ⟨rfl, rfl⟩)
              | (go_at_call 40; (with_reducible refine (cW.out C out _ _ _ hcl0 (hR.out.of_ext (Ext.drewN W6.out _))).mono ?_); rintro e w4 ⟨a7, c7, rfl, hR7, hx7⟩; have y0 := Ext.cell hx7 x0; have y1 := Ext.cell hx7 x1; have y2 := Ext.cell hx7 x2; replace hR7 := Box.mk hR7)
              | (go_at_call 40; (with_reducible refine (cW.out (woB C out) key _ _ _ hcl hR7.out).mono ?_); rintro e w5 ⟨a8, c8, rfl, hR8, hx8⟩; replace hR8 := Box.mk hR8)
              | (at_builtin; refine wpList_push rfl _ _ 22 rfl w.heap.size 45 i0 (.int .u32 0) 1 4 Try.underlying22 hi hz0 hz1 hz2 rfl (by decide) _ _ _ rfl hR8.out.keys [.int .u32 (key : Nat)] (by first | rfl | simp [Act.eval]) rfl (by simp [Value.oneCell']) hk5 hk6 hR8.out.ext.size ?_; intro v1 w3 hown3 hg3 hbel3 hs3; obtain ⟨a9, c9, rfl, hR9⟩ := hR8.out.push (x := key) hbel3 hown3; replace hR9 := Box.mk hR9; clear hown3 hg3 hbel3 hs3))
            go_roundw
            case rel => exact ⟨t + 1, by clear n4; omega, by go_num, hA2, a9, c9, by rw [hlen], by rw [hnxt.out]; exact hR9, hpl.out⟩
            case measure =>
              clear n4
              simp [intOf]; omega
          · have hrf : r = false := hfalse.out (by rw [hgd2.out, hlen, decide_eq_false hfit, Bool.and_false])
            have f1 : decide (((woB (woB C out) key).length : Int) + 1 > (k : Int)) = true := decide_eq_true (by clear n4; omega)
            have f2 : decide ((k : Int) < ((woB (woB C out) key).length : Int) + 1) = true := decide_eq_true (by clear n4; omega)
            have f3 : decide (k < (woB (woB C out) key).length + 1) = true := decide_eq_true (by clear n4; omega)
            clear hfit
            go_quiet (first | (go_at_call 39; exact Calls.quiet_of_same (cK.out _ (Ext.drewN W6.out _))))
            go_wp2_with (first
              | (go_at_call 39; (with_reducible refine (cO.out _ (Ext.drewN W6.out _)).mono ?_); rintro e w4 ⟨rfl, rfl⟩)
              | (go_at_call 40; (with_reducible refine (cW.out C out _ _ _ hcl0 (hR.out.of_ext (Ext.drewN W6.out _))).mono ?_); rintro e w4 ⟨a7, c7, rfl, hR7, hx7⟩; have y0 := Ext.cell hx7 x0; have y1 := Ext.cell hx7 x1; have y2 := Ext.cell hx7 x2; replace hR7 := Box.mk hR7)
              | (go_at_call 40; (with_reducible refine (cW.out (woB C out) key _ _ _ hcl hR7.out).mono ?_); rintro e w5 ⟨a8, c8, rfl, hR8, hx8⟩; replace hR8 := Box.mk hR8)
              | (at_builtin; refine wpList_push rfl _ _ 22 rfl w.heap.size 45 i0 (.int .u32 0) 1 4 Try.underlying22 hi hz0 hz1 hz2 rfl (by decide) _ _ _ rfl hR8.out.keys [.int .u32 (key : Nat)] (by first | rfl | simp [Act.eval]) rfl (by simp [Value.oneCell']) hk5 hk6 hR8.out.ext.size ?_; intro v1 w3 hown3 hg3 hbel3 hs3; obtain ⟨a9, c9, rfl, hR9⟩ := hR8.out.push (x := key) hbel3 hown3; replace hR9 := Box.mk hR9; clear hown3 hg3 hbel3 hs3))
            go_ret
            subst hrf
            exact ⟨rfl, hR9.out.ext⟩
      · have hrf : r = false := hfalse.out (by rw [hgd2.out]; rfl)
        go_quiet (first | (go_at_call 39; exact Calls.quiet_of_same (cK.out _ (Ext.drewN W6.out _))))
        go_wp2
        go_ret
        subst hrf
        exact ⟨rfl, Ext.drewN (Ext.trans' hx W6.out) _⟩
      · have hnxt : polS L ts (t + 1) = woB (C) key ++ [key] := by rw [hpn]; rfl
        have hwl : (woB (C) key).length ≤ 1000 := by
          have h9 : (woB (C) key ++ [key]).length ≤ t + 1 := by rw [← hnxt]; exact hpl.out
          rw [List.length_append] at h9
          clear n4
          simp at h9; omega
        have hk5 : (woB (C) key).length + 1 ≤ 140737488355328 := by clear n4; omega
        have hk6 : ((woB (C) key).length + 1) * 4 ≤ 140737488355328 := by clear n4; omega
        have hlen : (polS L ts (t + 1)).length = (woB (C) key).length + 1 := by rw [hnxt, List.length_append]; rfl
        have hcl : (C).length ≤ 1000 := by clear n4; omega
        replace hnxt := Box.mk hnxt
        by_cases hfit : (woB (C) key).length + 1 ≤ k
        · have hg1 : goodB L k ts t = true := by
            rw [hgd2.out, hlen, decide_eq_true hfit]; rfl
          have f1 : decide (((woB (C) key).length : Int) + 1 > (k : Int)) = false := decide_eq_false (by clear n4; omega)
          have f2 : decide ((k : Int) < ((woB (C) key).length : Int) + 1) = false := decide_eq_false (by clear n4; omega)
          have f3 : decide (k < (woB (C) key).length + 1) = false := decide_eq_false (by clear n4; omega)
          have hA2 : Box (∀ j, j < t + 1 → goodB L k ts j = true) := ⟨fun j hj => by
            by_cases e : j = t
            · subst e; exact hg1
            · exact hA.out j (by clear n4; omega)⟩
          clear hfit hg1
          go_quiet (first | (go_at_call 39; exact Calls.quiet_of_same (cK.out _ (Ext.drewN W6.out _))))
          go_wp2_with (first
            | (go_at_call 40; (with_reducible refine (cW.out C key _ _ _ hcl (hR.out.of_ext (Ext.drewN W6.out _))).mono ?_); rintro e w5 ⟨a8, c8, rfl, hR8, hx8⟩; replace hR8 := Box.mk hR8)
            | (at_builtin; refine wpList_push rfl _ _ 22 rfl w.heap.size 45 i0 (.int .u32 0) 1 4 Try.underlying22 hi hz0 hz1 hz2 rfl (by decide) _ _ _ rfl hR8.out.keys [.int .u32 (key : Nat)] (by first | rfl | simp [Act.eval]) rfl (by simp [Value.oneCell']) hk5 hk6 hR8.out.ext.size ?_; intro v1 w3 hown3 hg3 hbel3 hs3; obtain ⟨a9, c9, rfl, hR9⟩ := hR8.out.push (x := key) hbel3 hown3; replace hR9 := Box.mk hR9; clear hown3 hg3 hbel3 hs3))
          go_roundw
          case rel => exact ⟨t + 1, by clear n4; omega, by go_num, hA2, a9, c9, by rw [hlen], by rw [hnxt.out]; exact hR9, hpl.out⟩
          case measure =>
            clear n4
            simp [intOf]; omega
        · have hrf : r = false := hfalse.out (by rw [hgd2.out, hlen, decide_eq_false hfit, Bool.and_false])
          have f1 : decide (((woB (C) key).length : Int) + 1 > (k : Int)) = true := decide_eq_true (by clear n4; omega)
          have f2 : decide ((k : Int) < ((woB (C) key).length : Int) + 1) = true := decide_eq_true (by clear n4; omega)
          have f3 : decide (k < (woB (C) key).length + 1) = true := decide_eq_true (by clear n4; omega)
          clear hfit
          go_quiet (first | (go_at_call 39; exact Calls.quiet_of_same (cK.out _ (Ext.drewN W6.out _))))
          go_wp2_with (first
            | (go_at_call 40; (with_reducible refine (cW.out C key _ _ _ hcl (hR.out.of_ext (Ext.drewN W6.out _))).mono ?_); rintro e w5 ⟨a8, c8, rfl, hR8, hx8⟩; replace hR8 := Box.mk hR8)
            | (at_builtin; refine wpList_push rfl _ _ 22 rfl w.heap.size 45 i0 (.int .u32 0) 1 4 Try.underlying22 hi hz0 hz1 hz2 rfl (by decide) _ _ _ rfl hR8.out.keys [.int .u32 (key : Nat)] (by first | rfl | simp [Act.eval]) rfl (by simp [Value.oneCell']) hk5 hk6 hR8.out.ext.size ?_; intro v1 w3 hown3 hg3 hbel3 hs3; obtain ⟨a9, c9, rfl, hR9⟩ := hR8.out.push (x := key) hbel3 hown3; replace hR9 := Box.mk hR9; clear hown3 hg3 hbel3 hs3))
          go_ret
          subst hrf
          exact ⟨rfl, hR9.out.ext⟩
    · obtain rfl : t = L.length := by omega
      have n2 : decide ((L.length : Int) < (L.length : Int)) = false := decide_eq_false (by omega)
      have n3 : decide (L.length < L.length) = false := decide_eq_false (by omega)
      have hrt : r = true := hr.out.2 hA.out
      have hex := Box.mk hR.out.ext
      clear hR
      go_wp2
      go_ret
      subst hrt
      exact ⟨rfl, hex.out⟩
end Go.Proofs.Ytbhfpofcebepiaa
