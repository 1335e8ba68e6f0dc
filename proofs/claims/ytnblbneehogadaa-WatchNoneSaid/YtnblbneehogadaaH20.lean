import Derived.Test.YtnblbneehogadaaH19
/- The law WatchNone. -/
namespace Go.Proofs.Ytnblbneehogadaa
open Go.RowKit Go.ChangeMaps
theorem IntsArg.ext {k : IntKind} {w w' : World} {v : Value} (h : IntsArg k w v) (hb : Ext w w') : IntsArg k w' v := by
  obtain ⟨a, n, c, zs, rfl, h1, h2, h3, h4, h5⟩ := h
  exact ⟨a, n, c, zs, rfl, h1, h2, h3, h4, CellsAt.ext hb h5⟩
theorem EvI.Wf.ext {w w' : World} {x : EvI} (h : x.Wf w) (hb : Ext w w') : x.Wf w' := ⟨h.k, h.s, h.u.ext hb, h.b, h.d, h.t⟩
set_option maxRecDepth 20000 in
set_option maxHeartbeats 4000000 in
theorem lawWatchNone_walk (v0 : Value) (W : World) (h : ActArg W v0) :
    Calls Try.prog 7 #[v0] W fun e w' => e = .returned (.bool true) ∧ Ext W w' := by
  obtain ⟨⟨wh, n, m, pre, kv, room, old, ev⟩, rfl, hw⟩ := h
  obtain ⟨ka, kc, ks, hk, hkn, hC⟩ := kinds_arg hw.kv
  obtain ⟨es, ea, ec, hev, _, _, hEC, hEW⟩ := hw.ev
  have hk' : kv = .slice ka ks.length kc := hk
  have hev' : ev = .slice ea es.length ec := hev
  subst hk' hev'
  clear hk hev hw hC hkn
  show Calls Try.prog 7 #[.agg #[.int .i64 wh, .int .i64 n, .int .i64 m, .string pre, .slice ka ks.length kc, .int .i64 room, .bool old, .slice ea es.length ec]] W fun e w' => e = .returned (.bool true) ∧ Ext W w'
  have hX : Ext W (W.alloc (.cells #[.int .i64 wh, .int .i64 n, .int .i64 m, .string pre, .slice ka ks.length kc, .int .i64 room, .bool old, .slice ea es.length ec] 50)) := Ext.alloc (Below.refl _ _) _
  have hB := newblk W (.cells #[.int .i64 wh, .int .i64 n, .int .i64 m, .string pre, .slice ka ks.length kc, .int .i64 room, .bool old, .slice ea es.length ec] 50)
  have cK : Box (∀ w, Calls Try.prog 8 #[] w fun e w' => e = .returned (.bool true) ∧ Ext w w') := ⟨known_any⟩
  have hl := light_act wh n m pre ka ks.length kc room old ea ec es (W.alloc (.cells #[.int .i64 wh, .int .i64 n, .int .i64 m, .string pre, .slice ka ks.length kc, .int .i64 room, .bool old, .slice ea es.length ec] 50)) (CellsAt.ext hX hEC) (fun x hx => (hEW x hx).ext hX)
  generalize ks.length = kn at *
  by_cases hP : LightA pre kn es
  · have cL : Box (Calls Try.prog 25 #[.agg #[.int .i64 wh, .int .i64 n, .int .i64 m, .string pre, .slice ka kn kc, .int .i64 room, .bool old, .slice ea es.length ec]] (W.alloc (.cells #[.int .i64 wh, .int .i64 n, .int .i64 m, .string pre, .slice ka kn kc, .int .i64 room, .bool old, .slice ea es.length ec] 50)) fun e w' => e = .returned (.bool true) ∧ Ext (W.alloc (.cells #[.int .i64 wh, .int .i64 n, .int .i64 m, .string pre, .slice ka kn kc, .int .i64 room, .bool old, .slice ea es.length ec] 50)) w') := ⟨hl.mono (by
      rintro e w' ⟨q, he, h1, h2⟩
      exact ⟨by rw [he, h2.2 hP], h1⟩)⟩
    clear hl hP hEC hEW
    obtain ⟨m0, m1, m2, m3, m4, m5, m6, m7⟩ := blk8 hB
    replace hX := Box.mk hX
    replace hB := Box.mk hB
    go_enter Try.func7, Try.ntmps7
    go_wp2_with (first
      | (go_at_call 25; (with_reducible refine (cL.out).mono ?_); rintro e w2 ⟨rfl, hx2⟩; obtain ⟨m0, m1, m2, m3, m4, m5, m6, m7⟩ := blk8 (Ext.blk hx2 hB.out); replace hx2 := Box.mk hx2)
      | (go_at_call 22; (with_reducible refine (remove_nil _ _).mono ?_); rintro e w' ⟨rfl, rfl⟩)
      | (go_at_call 13; (with_reducible refine (publish_nil _ _).mono ?_); rintro e w' ⟨rfl, rfl⟩)
      | (go_at_call 19; (with_reducible refine (htake_nil _ _ _).mono ?_); rintro e w' ⟨rfl, rfl⟩)
      | (go_at_call 21; (with_reducible refine (hlost_nil _ _).mono ?_); rintro e w' ⟨rfl, rfl⟩)
      | (go_at_call 27; (with_reducible refine (watchers_nil _).mono ?_); rintro e w' ⟨rfl, rfl⟩)
      | (go_at_call 28; (with_reducible refine (hcopy_nil _).mono ?_); rintro e w' ⟨rfl, rfl⟩)
      | (go_at_call 26; (with_reducible refine (rule_nil _ _).mono ?_); rintro e w3 ⟨rfl, hx3⟩; have hB3 := Ext.blk hx3 (Ext.blk hx2.out hB.out); obtain ⟨m0, m1, m2, m3, m4, m5, m6, m7⟩ := blk8 hB3; have hl3 := blk_lt hB3; replace hx3 := Box.mk hx3)
      | (go_at_call 11; (with_reducible refine (ladds_nil _ _ _ _ _ _ _).mono ?_); rintro e w4 ⟨rfl, hx4⟩; obtain ⟨r0, r1, r2, r3, _⟩ := blk4 (Ext.blk hx4 (newblk w3 _)); replace hx4 := Box.mk hx4)
      | (go_at_call 8; (with_reducible refine (cK.out _).mono ?_); rintro e w5 ⟨rfl, hx5⟩; replace hx5 := Box.mk hx5))
    go_ret
    exact ⟨rfl, Ext.trans' hX.out (Ext.trans' hx2.out (Ext.trans' hx3.out (Ext.trans' (Ext.alloc (Below.refl _ _) _) (Ext.trans' hx4.out hx5.out))))⟩
  · have cL : Box (Calls Try.prog 25 #[.agg #[.int .i64 wh, .int .i64 n, .int .i64 m, .string pre, .slice ka kn kc, .int .i64 room, .bool old, .slice ea es.length ec]] (W.alloc (.cells #[.int .i64 wh, .int .i64 n, .int .i64 m, .string pre, .slice ka kn kc, .int .i64 room, .bool old, .slice ea es.length ec] 50)) fun e w' => e = .returned (.bool false) ∧ Ext (W.alloc (.cells #[.int .i64 wh, .int .i64 n, .int .i64 m, .string pre, .slice ka kn kc, .int .i64 room, .bool old, .slice ea es.length ec] 50)) w') := ⟨hl.mono (by
      rintro e w' ⟨q, he, h1, h2⟩
      have hq : q = false := by
        cases q with
        | false => rfl
        | true => exact absurd (h2.1 rfl) hP
      exact ⟨by rw [he, hq], h1⟩)⟩
    clear hl hP hEC hEW
    obtain ⟨m0, m1, m2, m3, m4, m5, m6, m7⟩ := blk8 hB
    replace hX := Box.mk hX
    replace hB := Box.mk hB
    go_enter Try.func7, Try.ntmps7
    go_wp2_with (first
      | (go_at_call 25; (with_reducible refine (cL.out).mono ?_); rintro e w2 ⟨rfl, hx2⟩; replace hx2 := Box.mk hx2)
      | (go_at_call 8; (with_reducible refine (cK.out _).mono ?_); rintro e w5 ⟨rfl, hx5⟩; replace hx5 := Box.mk hx5))
    go_ret
    exact ⟨rfl, Ext.trans' hX.out (Ext.trans' hx2.out hx5.out)⟩
end Go.Proofs.Ytnblbneehogadaa
