/- QuotaAccounts: how its arguments read; the law. -/
import Derived.Test.YtaplangfppohdaaDoorZ42
import Derived.Test.YtaplangfppohdaaDoorZ21
import Derived.Test.YtaplangfppohdaaDoorZ14
set_option linter.unusedVariables false
set_option linter.unusedSimpArgs false
set_option linter.unusedSectionVars false
namespace Go.Proofs.YtaplangfppohdaaDoor
open Go Go.RowKit Go.Shelf Go.Deep Go.ChangeShapes Go.WideShapes
attribute [local go_sem] Oper.semAt_some

section
variable {H : Type} {encd : TypeId × Value → H} {P : Program} {w : World} {base : Nat} {spare : Nat → Bool} {held : Bool}
def RuIn (r : Ru) : Prop := (-9223372036854775808 ≤ r.g ∧ r.g ≤ 9223372036854775807) ∧ (-9223372036854775808 ≤ r.p ∧ r.p ≤ 9223372036854775807) ∧ (-9223372036854775808 ≤ r.l ∧ r.l ≤ 9223372036854775807)
set_option maxRecDepth 100000 in
theorem ru_cells {n : Nat} {cs : List Value} {x : DataW H × List MemPlace} (h : DataW.trod encd Tryd.prog w base spare held n 44 cs = some x) : ∃ t : Ru, cs = encRu t ∧ RuIn t := by
  obtain ⟨hl, m, hm⟩ := flat_one Tryd.underlying44 (by kernel_rfl) (by kernel_rfl) h
  match cs, hl with
  | [c0, c1, c2], _ =>
    obtain ⟨y0, t0⟩ := hm 0 _ _ rfl rfl
    obtain ⟨y1, t1⟩ := hm 1 _ _ rfl rfl
    obtain ⟨y2, t2⟩ := hm 2 _ _ rfl rfl
    obtain ⟨z0, e0, _, w0⟩ := DataW.trod_int Tryd.underlying3 t0
    obtain ⟨z1, e1, _, w1⟩ := DataW.trod_int Tryd.underlying3 t1
    obtain ⟨z2, e2, _, w2⟩ := DataW.trod_int Tryd.underlying3 t2
    cases e0; cases e1; cases e2
    exact ⟨⟨z0, z1, z2⟩, rfl, wf_i64_ w0, wf_i64_ w1, wf_i64_ w2⟩
set_option maxRecDepth 100000 in
theorem ev_cells {n : Nat} {cs : List Value} {x : DataW H × List MemPlace} (h : DataW.trod encd Tryd.prog w base spare held n 59 cs = some x) : ∃ t : Ev, cs = encE t ∧ EvOk t := by
  obtain ⟨hl, m, hm⟩ := flat_one Tryd.underlying59 (by kernel_rfl) (by kernel_rfl) h
  match cs, hl with
  | [c0, c1, c2, c3, c4, c5, c6, c7, c8, c9, c10], _ =>
    obtain ⟨y0, t0⟩ := hm 0 _ _ rfl rfl
    obtain ⟨y1, t1⟩ := hm 1 _ _ rfl rfl
    obtain ⟨y2, t2⟩ := hm 2 _ _ rfl rfl
    obtain ⟨y3, t3⟩ := hm 3 _ _ rfl rfl
    obtain ⟨y4, t4⟩ := hm 4 _ _ rfl rfl
    obtain ⟨y5, t5⟩ := hm 5 _ _ rfl rfl
    obtain ⟨y6, t6⟩ := hm 6 _ _ rfl rfl
    obtain ⟨y7, t7⟩ := hm 7 _ _ rfl rfl
    obtain ⟨y8, t8⟩ := hm 8 _ _ rfl rfl
    obtain ⟨y9, t9⟩ := hm 9 _ _ rfl rfl
    obtain ⟨y10, t10⟩ := hm 10 _ _ rfl rfl
    obtain ⟨z0, e0, _, w0⟩ := DataW.trod_int Tryd.underlying3 t0
    obtain ⟨z1, e1, _, w1⟩ := DataW.trod_int Tryd.underlying3 t1
    obtain ⟨z2, e2, _, w2⟩ := DataW.trod_int Tryd.underlying5 t2
    obtain ⟨z3, e3, _, w3⟩ := DataW.trod_int Tryd.underlying5 t3
    obtain ⟨z4, e4, _, w4⟩ := DataW.trod_int Tryd.underlying3 t4
    obtain ⟨z5, e5, _, w5⟩ := DataW.trod_int Tryd.underlying3 t5
    obtain ⟨z6, e6, _, w6⟩ := DataW.trod_int Tryd.underlying3 t6
    obtain ⟨z7, e7, _, w7⟩ := DataW.trod_int Tryd.underlying3 t7
    obtain ⟨z8, e8, _, w8⟩ := DataW.trod_int Tryd.underlying3 t8
    obtain ⟨z9, e9, _, w9⟩ := DataW.trod_int Tryd.underlying57 t9
    obtain ⟨z10, e10, _, w10⟩ := DataW.trod_int Tryd.underlying3 t10
    cases e0; cases e1; cases e2; cases e3; cases e4; cases e5; cases e6; cases e7; cases e8; cases e9; cases e10
    exact ⟨⟨z0, z1, z2, z3, z4, z5, z6, z7, z8, z9, z10⟩, rfl, ⟨wf_u8_ w2, wf_u8_ w3, wf_u64_ w9, wf_i64_ w0, wf_i64_ w1, wf_i64_ w4, wf_i64_ w5, wf_i64_ w6, wf_i64_ w7, wf_i64_ w8, wf_i64_ w10⟩⟩
def RuArg (w : World) (v : Value) (ps : List Ru) : Prop := EV encRu 3 w v ps ∧ (∀ p ∈ ps, RuIn p) ∧ ps.length ≤ 9223372036854775807
def EvArg (w : World) (v : Value) (ps : List Ev) : Prop := EV encE 11 w v ps ∧ (∀ p ∈ ps, EvOk p) ∧ ps.length ≤ 9223372036854775807
theorem rules_open {n : Nat} {v : Value} {x : DataW H × List MemPlace} (h : DataW.trod encd Tryd.prog w base spare held n 42 [v] = some x) : ∃ ts, RuArg w v ts := by
  obtain ⟨A, len, cap, xs, rfl, h1, h2, h3, h4⟩ := open_rows (enc := encRu) (k := 3) (Q := RuIn) Tryd.underlying42 (by kernel_rfl) (by omega) (fun n cs y hy => ru_cells hy) h
  exact ⟨xs, h1, h4, by unfold maxLen at h3; omega⟩
theorem events_open {n : Nat} {v : Value} {x : DataW H × List MemPlace} (h : DataW.trod encd Tryd.prog w base spare held n 39 [v] = some x) : ∃ ts, EvArg w v ts := by
  obtain ⟨A, len, cap, xs, rfl, h1, h2, h3, h4⟩ := open_rows (enc := encE) (k := 11) (Q := EvOk) Tryd.underlying39 (by kernel_rfl) (by omega) (fun n cs y hy => ev_cells hy) h
  exact ⟨xs, h1, h4, by unfold maxLen at h3; omega⟩
end
set_option maxRecDepth 100000 in
set_option maxHeartbeats 3200000 in
theorem qaccounts_walk (w : World) (v0 v1 v2 v3 : Value) (gs : List (Int × Int)) (rs : List Ru) (hs : List (Int × Int)) (l : List Ev) (hU : UsesAt w) (h0 : PrArg w v0 gs) (h1 : RuArg w v1 rs) (h2 : PrArg w v2 hs) (h3 : EvArg w v3 l) :
    Calls Tryd.prog 7 #[v0, v1, v2, v3] w fun e w' => e = .returned (.bool true) ∧ Below w.heap.size w w' := by
  obtain ⟨A0, c0, rfl⟩ := h0.1.shape
  obtain ⟨A1, c1, rfl⟩ := h1.1.shape
  obtain ⟨A2, c2, rfl⟩ := h2.1.shape
  obtain ⟨A3, c3, rfl⟩ := h3.1.shape
  have HAW := Lib.hid (fun (W : World) (hb : Below w.heap.size w W) => awake_ok W (hU.below hb))
  by_cases hbig : 20 < gs.length ∨ 8 < rs.length ∨ 20 < hs.length ∨ 40 < l.length
  · have l0 := h0.2.2
    have l1 := h1.2.2
    have l2 := h2.2.2
    have l3 := h3.2.2
    clear h0 h1 h2 h3 hU
    generalize gs.length = G at *
    generalize rs.length = R at *
    generalize hs.length = H at *
    generalize l.length = L at *
    go_enter Tryd.func7, Tryd.ntmps7
    go_wp2_with fail
    all_goals first | omega | (refine (HAW.out w (Below.refl _ _)).mono ?_; rintro e w2 ⟨rfl, b2⟩; go_wp2; go_ret; exact ⟨rfl, b2⟩)
  · have HAC := Lib.hid (fun (W : World) (hb : Below w.heap.size w W) => accounts_ok W _ _ _ _ gs rs hs l (h0.1.below hb) (h1.1.below hb) (h2.1.below hb) (h3.1.below hb) (hU.below hb) (by omega) h3.2.1 h2.2.1)
    have HR := Lib.hid (h1.1)
    have HL := Lib.hid (h3.1)
    have HEO := Lib.hid (h3.2.1)
    clear h0 h1 h2 h3 hU
    have b0 : gs.length ≤ 20 := by omega
    have b1 : rs.length ≤ 8 := by omega
    have b2 : hs.length ≤ 20 := by omega
    have b3 : l.length ≤ 40 := by omega
    clear hbig
    obtain ⟨R, hR⟩ : ∃ R, rs.length = R := ⟨_, rfl⟩
    obtain ⟨L, hL⟩ : ∃ L, l.length = L := ⟨_, rfl⟩
    have LR := Lib.hid hR
    have LL := Lib.hid hL
    rw [hR] at b1 HR HAC
    rw [hL] at b3 HL HAC
    rw [hR, hL]
    clear hR hL
    generalize gs.length = G at b0 HAC ⊢
    generalize hs.length = H at b2 HAC ⊢
    go_enter Tryd.func7, Tryd.ntmps7
    go_wp2
    go_loopg [10, 34] L (fun k _ i wr => ∃ j : Nat, j + k = L ∧ i = .int .i64 j ∧ Below w.heap.size w wr)
    case atStart => exact ⟨0, by omega, rfl, Below.refl _ _⟩
    case round =>
      obtain ⟨j, hj, rfl, hb⟩ := hrel
      have HJ := Lib.hid hj
      have HB := Lib.hid hb
      clear hj hb
      by_cases hlt : j < L
      · obtain ⟨x, hx⟩ : ∃ x, l[j]? = some x := ⟨_, List.getElem?_eq_getElem (by rw [LL.out]; exact hlt)⟩
        obtain ⟨b, off, c', hs1, hc, hr⟩ := (HL.out.below HB.out).row (by rw [LL.out]; omega)
        rw [LL.out] at hs1 hc
        simp only [Value.slice.injEq, true_and] at hs1
        obtain ⟨rfl, rfl⟩ := hs1
        obtain ⟨x0, x1, x2, x3, x4, x5, x6, x7, x8, x9, x10⟩ := hr.ev hx
        have hbel := bel_alloc wr (.cells #[.int .i64 x.seq, .int .i64 x.time, .int .u8 x.cpu, .int .u8 x.kind, .int .i64 x.task, .int .i64 x.grp, .int .i64 x.to, .int .i64 x.wt, .int .i64 x.ticks, .int .u64 x.mask, .int .i64 x.got] 59)
        have HEP := Lib.hid (evp_newT wr x 59)
        clear hr hx
        go_upto_block 2 with fail
        clear x0 x1 x2 x3 x4 x5 x6 x7 x8 x9 x10
        have HB2 := Lib.hid (HB.out.trans (hbel.mono HB.out.size))
        generalize wr.alloc (.cells #[.int .i64 x.seq, .int .i64 x.time, .int .u8 x.cpu, .int .u8 x.kind, .int .i64 x.task, .int .i64 x.grp, .int .i64 x.to, .int .i64 x.wt, .int .i64 x.ticks, .int .u64 x.mask, .int .i64 x.got] 59) = w2 at HB2 HEP ⊢
        generalize wr.heap.size = X at HEP ⊢
        clear hbel
        go_wp2
        go_loopg [12, 40] R (fun k _ i wr => ∃ m : Nat, m + k = R ∧ i = .int .i64 m ∧ Below w2.heap.size w2 wr)
        case atStart => exact ⟨0, by omega, rfl, Below.refl _ _⟩
        case round =>
          obtain ⟨m, hm, rfl, hb⟩ := hrel
          have HM := Lib.hid hm
          have HBm := Lib.hid hb
          have HBW := Lib.hid (HB2.out.trans (hb.mono HB2.out.size))
          clear hm hb
          by_cases hmr : m < R
          · have hx : rs[m]? = some (ruAt rs m) := ru_get (by rw [LR.out]; exact hmr)
            obtain ⟨b', off', c'', hs2, hc2, hr2⟩ := (HR.out.below HBW.out).row (by rw [LR.out]; omega)
            rw [LR.out] at hs2 hc2
            simp only [Value.slice.injEq, true_and] at hs2
            obtain ⟨rfl, rfl⟩ := hs2
            obtain ⟨r0, r1, r2⟩ := hr2.rux hx
            generalize ruAt rs m = r at r0 r1 r2
            have hev := HEP.out.below HBm.out HEP.out.lt
            have c8 := (hev.below (bel_alloc wr (.cells #[.int .i64 r.g, .int .i64 r.p, .int .i64 r.l] 44)) hev.lt).c8
            clear hev
            have HB5 := Lib.hid (HBm.out.trans ((bel_alloc wr (.cells #[.int .i64 r.g, .int .i64 r.p, .int .i64 r.l] 44)).mono HBm.out.size))
            have HB6 := Lib.hid (HB2.out.trans (HB5.out.mono HB2.out.size))
            clear hr2 hx
            go_wp2_with fail
            all_goals first
              | (refine (HAW.out _ HB6.out).mono ?_; rintro e w9 ⟨rfl, b9⟩; go_wp2; go_ret; exact ⟨rfl, HB6.out.trans (b9.mono HB6.out.size)⟩)
              | (go_roundg (gk - 1); (case measure => have := HM.out; omega); (case rel => exact ⟨m + 1, by have := HM.out; omega, by go_num, HB5.out⟩))
              | trace_state
          · obtain rfl : R = m := by have := HM.out; omega
            go_wp2
            go_roundg (L - (j + 1))
            case measure => have := HJ.out; omega
            case rel => exact ⟨j + 1, by have := HJ.out; omega, by go_num, HBW.out⟩
      · go_wp2_with fail
        refine (HAC.out _ HB.out).mono ?_
        rintro e w8 ⟨rfl, b8⟩
        have HB8 := Lib.hid (HB.out.trans (b8.mono HB.out.size))
        clear b8
        go_wp2_with fail
        refine (HAW.out _ HB8.out).mono ?_
        rintro e w9 ⟨rfl, b9⟩
        go_wp2
        go_ret
        exact ⟨rfl, HB8.out.trans (b9.mono HB8.out.size)⟩
end Go.Proofs.YtaplangfppohdaaDoor
