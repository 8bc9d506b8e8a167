/- The contract of quantumlaw21.Copy, whole. -/
import Derived.Test.YtenngfkgfdogjaaZ17
set_option linter.unusedVariables false
set_option linter.unusedSimpArgs false
set_option linter.unusedSectionVars false
namespace Go.Proofs.Ytenngfkgfdogjaa
open Go Go.RowKit Go.Shelf
attribute [local go_sem] Oper.semAt_some

set_option maxRecDepth 100000 in
set_option maxHeartbeats 12800000 in
theorem copy_t2 (w wc : World) (X : Nat) (c c1 : StC) (s : St) {u0 u3 u4 u5 u6 u7 u8 u9 u10 u11 u12 u13 u14 u15 u16 u17 u18 u19 u20 u21 u22 u23 u24 u25 u26 u27 u28 u29 u30 u31 u32 u33 u34 u35 u36 u37 u38 u39 u40 u41 u42 u43 : Value} (hX : w.heap.size = X) (h : StAt w c s) (hl : StL s) (hp : Cp w X c1 s wc) (hc : c1 = { c with vg := c1.vg })
    (og : OV encG 2 82 (X + 2) wc c1.vg s.gs) :
    Code.wp Try.prog (tailR Try.f28 2) (bodyPost Try.prog Try.f28 fun e w' => ∃ c' s', e = .returned (c'.val s') ∧ StO w.heap.size w' c' s' ∧ Sim s s' ∧ Below w.heap.size w w')
      ⟨#[u0, .pointer (some ⟨X, 0, none⟩), .pointer (some ⟨X + 1, 0, none⟩), u3, u4, u5, u6, u7, u8, u9, u10, u11, u12, u13, u14, u15, u16, u17, u18, u19, u20, u21, u22, u23, u24, u25, u26, u27, u28, u29, u30, u31, u32, u33, u34, u35, u36, u37, u38, u39, u40, u41, u42, u43], []⟩ wc := by
  have hc3 : c1.vc = c.vc := by rw [hc]
  have hc4 : c1.vu = c.vu := by rw [hc]
  have hc5 : c1.vt = c.vt := by rw [hc]
  have hc6 : c1.vs = c.vs := by rw [hc]
  have H3 := Lib.hid (fun (c2 : StC) (wx : World) (hvs : c2.vs = c.vs) (hq : Cp w X c2 s wx) (og : OV encG 2 82 (X + 2) wx c2.vg s.gs) (oc : OV encI 1 3 (X + 2) wx c2.vc s.cl) (ou : OV encI 1 3 (X + 2) wx c2.vu s.cu) (ot : OV encT 8 61 (X + 2) wx c2.vt s.ts) =>
    (fun {u0 u3 u4 u5 u6 u7 u8 u9 u10 u11 u12 u13 u14 u15 u16 u17 u18 u19 u20 u21 u22 u23 u24 u25 u26 u27 u28 u29 u30 u31 u32 u33 u34 u35 u36 u37 u38 u39 u40 u41 u42 u43 : Value} => copy_t3 (u0 := u0) (u3 := u3) (u4 := u4) (u5 := u5) (u6 := u6) (u7 := u7) (u8 := u8) (u9 := u9) (u10 := u10) (u11 := u11) (u12 := u12) (u13 := u13) (u14 := u14) (u15 := u15) (u16 := u16) (u17 := u17) (u18 := u18) (u19 := u19) (u20 := u20) (u21 := u21) (u22 := u22) (u23 := u23) (u24 := u24) (u25 := u25) (u26 := u26) (u27 := u27) (u28 := u28) (u29 := u29) (u30 := u30) (u31 := u31) (u32 := u32) (u33 := u33) (u34 := u34) (u35 := u35) (u36 := u36) (u37 := u37) (u38 := u38) (u39 := u39) (u40 := u40) (u41 := u41) (u42 := u42) (u43 := u43) w wx X c c2 s hX h hl hq hvs og oc ou ot))
  have C1 := Lib.hid (fun W (hW : Cp w X c1 s W) => clone_intB W c.vc s.cl (h.below (hX ▸ hW.bel)).ec (by have := hl.lc; omega))
  have C2 := Lib.hid (fun W (hW : Cp w X c1 s W) => clone_intB W c.vu s.cu (h.below (hX ▸ hW.bel)).eu (by have := hl.lu; omega))
  have C3 := Lib.hid (fun W (hW : Cp w X c1 s W) => clone_tk W c.vt s.ts (h.below (hX ▸ hW.bel)).et (by have := hl.lt; omega))
  have D0 := Lib.hid hp.drew
  have HG := Lib.hid (show OV encG 2 82 (X + 2) wc.drew c1.vg s.gs from og)
  have H45 := Lib.hid (fun W (hW : Cp w X c1 s W) => (show W.cell? ⟨X, 3, none⟩ = some c.vc ∧ W.cell? ⟨X, 4, none⟩ = some c.vu ∧ W.cell? ⟨X, 5, none⟩ = some c.vt from by have := hW.bx.c45; rwa [hc3, hc4, hc5] at this))
  have HC6 := Lib.hid hc6
  have HX := Lib.hid hX
  conv => arg 2; whnf
  conv => arg 4; dsimp only
  obtain ⟨b3, b4, b5⟩ := H45.out wc hp
  clear h hl hp hc og hc3 hc4 hc5 hc6 hX
  apply wp_seq_k
  intro K0 hK0
  go_cut [] (fun wx => ∃ A3 n3 c3 A4 n4 c4 A5 n5 c5, Cp w X { c1 with vc := .slice A3 n3 c3, vu := .slice A4 n4 c4, vt := .slice A5 n5 c5 } s wx
    ∧ OV encG 2 82 (X + 2) wx c1.vg s.gs ∧ OV encI 1 3 (X + 2) wx (.slice A3 n3 c3) s.cl ∧ OV encI 1 3 (X + 2) wx (.slice A4 n4 c4) s.cu ∧ OV encT 8 61 (X + 2) wx (.slice A5 n5 c5) s.ts)
  case first =>
    go_region_with (first
      | (go_at_call 54; refine (C1.out _ D0.out).mono ?_; rintro e z1 ⟨v1, rfl, o1, q1⟩; obtain ⟨A3, c3, rfl⟩ := (o1.ev encI_len).shape; have D1 := Lib.hid (D0.out.below q1); have O1 := Lib.hid (o1.base_le D0.out.sz); have HG1 := Lib.hid (HG.out.below q1); obtain ⟨d3, d4, d5⟩ := H45.out _ D1.out; clear o1 q1 d3)
      | (go_at_call 54; refine (C2.out _ D1.out).mono ?_; rintro e z2 ⟨v2, rfl, o2, q2⟩; obtain ⟨A4, c4, rfl⟩ := (o2.ev encI_len).shape; have D2 := Lib.hid (D1.out.below q2); have O2 := Lib.hid (And.intro (o2.base_le D1.out.sz) (O1.out.below q2)); have HG2 := Lib.hid (HG1.out.below q2); obtain ⟨e3, e4, e5⟩ := H45.out _ D2.out; clear o2 q2 e3 e4 d4 d5)
      | (go_at_call 55; refine (C3.out _ D2.out).mono ?_; rintro e z3 ⟨v3, rfl, o3, q3⟩; obtain ⟨A5, c5, rfl⟩ := (o3.ev encT_len).shape; have D3 := Lib.hid (D2.out.below q3); have O3 := Lib.hid (And.intro (o3.base_le D2.out.sz) (And.intro (O2.out.1.below q3) (O2.out.2.below q3))); have HG3 := Lib.hid (HG2.out.below q3); obtain ⟨f3, f4, f5⟩ := H45.out _ D3.out; have fr3 := D3.out.bx.frz 3; have fr4 := D3.out.bx.frz 4; have fr5 := D3.out.bx.frz 5; clear o3 q3 e5 b3 b4 b5))
    all_goals
      go_wp2_with fail
      go_meet
      have hx : X < X + 2 := by omega
      exact ⟨A3, s.cl.length, c3, A4, s.cu.length, c4, A5, s.ts.length, c5, ((D3.out.set (i := 3) (c' := { c1 with vc := .slice A3 s.cl.length c3 }) rfl).set (i := 4) (c' := { c1 with vc := .slice A3 s.cl.length c3, vu := .slice A4 s.cu.length c4 }) rfl).set (i := 5) rfl,
        ((HG3.out.other hx _).other hx _).other hx _, ((O3.out.2.2.other hx _).other hx _).other hx _, ((O3.out.2.1.other hx _).other hx _).other hx _, ((O3.out.1.other hx _).other hx _).other hx _⟩
  case rest =>
  obtain ⟨A3, n3, c3, A4, n4, c4, A5, n5, c5, q, qg, qc, qu, qt⟩ := hcut
  refine (‹∀ (a : Act) (w : World), Code.wp _ _ _ a w → _› : ∀ (a : Act) (w : World), _ → _) _ _ (H3.out ⟨c1.vg, .slice A3 n3 c3, .slice A4 n4 c4, .slice A5 n5 c5, c1.vs⟩ _ HC6.out q qg qc qu qt)
end Go.Proofs.Ytenngfkgfdogjaa
