/- What the outright laws of chapter 21 take: how small tasks read, and Made as the laws use it | The walk of the law EntityOrder. -/
import Derived.Test.YtenngfkgfdogjaaZ24
import Derived.Test.YtenngfkgfdogjaaZ22
set_option linter.unusedVariables false
set_option linter.unusedSimpArgs false
set_option linter.unusedSectionVars false
namespace Go.Proofs.Ytenngfkgfdogjaa
open Go Go.RowKit Go.Shelf Go.Deep Go.ChangeShapes Go.WideShapes

section
variable {H : Type} {encd : TypeId × Value → H} {w : World} {base : Nat} {spare : Nat → Bool} {held : Bool}
set_option maxRecDepth 100000 in
theorem sm_cells {n : Nat} {cs : List Value} {x : DataW H × List MemPlace} (h : DataW.trod encd Try.prog w base spare held n 72 cs = some x) : ∃ t : Sm, cs = encM t ∧ SmOk t := by
  obtain ⟨hl, m, hm⟩ := flat_one Try.underlying72 (by kernel_rfl) (by kernel_rfl) h
  match cs, hl with
  | [c0, c1, c2, c3, c4], _ =>
    obtain ⟨y0, t0, _⟩ := hm 0 _ _ rfl rfl
    obtain ⟨y1, t1, _⟩ := hm 1 _ _ rfl rfl
    obtain ⟨y2, t2, _⟩ := hm 2 _ _ rfl rfl
    obtain ⟨y3, t3, _⟩ := hm 3 _ _ rfl rfl
    obtain ⟨y4, t4, _⟩ := hm 4 _ _ rfl rfl
    obtain ⟨z0, e0, _, w0⟩ := DataW.trod_int Try.underlying70 t0
    obtain ⟨z1, e1, _, w1⟩ := DataW.trod_int Try.underlying70 t1
    obtain ⟨z2, e2, _, w2⟩ := DataW.trod_int Try.underlying70 t2
    obtain ⟨z3, e3, _, w3⟩ := DataW.trod_int Try.underlying5 t3
    obtain ⟨z4, e4, _⟩ := DataW.trod_bool Try.underlying4 t4
    cases e0; cases e1; cases e2; cases e3; cases e4
    have w0 := wf_u16 w0
    have w1 := wf_u16 w1
    have w2 := wf_u16 w2
    have w3 := wf_u8 w3
    refine ⟨⟨z0.toNat, z1.toNat, z2.toNat, z3.toNat, z4⟩, ?_, ⟨by dsimp only; omega, by dsimp only; omega, by dsimp only; omega, by dsimp only; omega⟩⟩
    simp only [encM, Int.toNat_of_nonneg w0.1, Int.toNat_of_nonneg w1.1, Int.toNat_of_nonneg w2.1, Int.toNat_of_nonneg w3.1]
def SmArg (w : World) (v : Value) (ts : List Sm) : Prop := EV encM 5 w v ts ∧ (∀ t ∈ ts, SmOk t) ∧ ts.length ≤ 9223372036854775807
theorem sm_open {n : Nat} {v : Value} {x : DataW H × List MemPlace} (h : DataW.trod encd Try.prog w base spare held n 30 [v] = some x) : ∃ ts, SmArg w v ts := by
  obtain ⟨A, len, cap, xs, rfl, h1, h2, h3, h4⟩ := open_rows (enc := encM) (k := 5) (Q := SmOk) Try.underlying30 (by kernel_rfl) (by omega) (fun n cs y hy => sm_cells hy) h
  exact ⟨xs, h1, h4, by unfold maxLen at h3; omega⟩
end
def U16 (w : World) (v : Value) (ns : List Nat) : Prop := EV encU16 1 w v ns ∧ (∀ n ∈ ns, n < 65536) ∧ ns.length ≤ 9223372036854775807
theorem u16_of {w : World} {a : Option Addr} {len cap : Nat} {zs : List Int} (h : IsRow .u16 w a len cap zs) : U16 w (.slice a len cap) ((zs.take len).map Int.toNat) := by
  obtain ⟨h1, h2, h3, h4⟩ := row_ev encU16 Int.toNat (fun z hz => by have := wf_u16 hz; simp [encU16, Int.toNat_of_nonneg this.1]) h
  refine ⟨h1, fun n hn => ?_, by rw [h2]; exact h3⟩
  obtain ⟨z, hz, rfl⟩ := List.mem_map.1 hn
  have := wf_u16 (h4 z (List.mem_of_mem_take hz))
  omega
theorem U16.below {w w' : World} {v : Value} {ns : List Nat} (h : U16 w v ns) (hb : Below w.heap.size w w') : U16 w' v ns := ⟨h.1.below hb, h.2⟩
theorem SmArg.below {w w' : World} {v : Value} {ts : List Sm} (h : SmArg w v ts) (hb : Below w.heap.size w w') : SmArg w' v ts := ⟨h.1.below hb, h.2⟩
/-- The blocks of a state's rows of spots are not the same. -/
def RowsB (s : St) : Prop := s.ss.Pairwise fun a b => a.1.ownBlock ≠ b.1.ownBlock
theorem made_law (w : World) (cpus : Nat) (vg vt vs : Value) (ns : List Nat) (ts : List Sm) (sl : List Nat) (hc : cpus < 256) (hg : U16 w vg ns) (ht : SmArg w vt ts) (hs : U16 w vs sl) :
    Calls Try.prog 15 #[.int .u8 (cpus : Nat), vg, vt, vs] w fun e w' => ∃ c s, e = .returned (c.val s) ∧ StO w.heap.size w' c s ∧ Sim (madS cpus ns ts sl) s ∧ RowsB s ∧ Below w.heap.size w w' := by
  refine (made21_ok w cpus vg vt vs ns ts sl hc hg.1 hg.2.1 hg.2.2 ht.1 ht.2.2 ht.2.1 hs.1 hs.2.1 hs.2.2).mono ?_
  rintro e w' ⟨c, rows, rfl, o, hr, hp, bb⟩
  refine ⟨c, _, rfl, o, ⟨rfl, rfl, rfl, rfl, rfl, rfl, ?_⟩, ?_, bb⟩
  · show (List.map _ (List.range _)).map Prod.snd = (rows.map rowOf).map Prod.snd
    rw [List.map_map, List.map_map]
    exact hr.symm
  · show (rows.map rowOf).Pairwise _
    exact List.pairwise_map.2 hp
theorem made_shp {cpus : Nat} {ns : List Nat} {ts : List Sm} {sl : List Nat} {s : St} (hns : ∀ n ∈ ns, n < 65536) (hts : ∀ t ∈ ts, SmOk t) (h : Sim (madS cpus ns ts sl) s) : Shp s :=
  shp_iff.1 ((shapedB_sim h).symm.trans (shp_iff.2 (madS_shp hns hts)))
end Go.Proofs.Ytenngfkgfdogjaa
namespace Go.Proofs.Ytenngfkgfdogjaa
open Go Go.RowKit Go.Shelf
attribute [local go_sem] Oper.semAt_some

theorem chk_ok {s : St} (h : Shp s) {g cpu : Int} (h1 : 0 ≤ g) (h2 : g < s.gs.length) (h3 : 0 ≤ cpu) (h4 : cpu < s.n) : chkE s g cpu = 0 := chk_zero.2 ⟨h, ⟨h1, h2⟩, h3, h4⟩
theorem mem_ok {s : St} (h : Shp s) (w : World) (c : StC) (g cpu : Int) (hat : StAt w c s) (h1 : 0 ≤ g) (h2 : g < s.gs.length) (h3 : 0 ≤ cpu) (h4 : cpu < s.n) :
    Calls Try.prog 16 #[c.val s, .int .i64 g, .int .i64 cpu] w fun e w' => ∃ v, e = .returned (.tuple #[v, .int .i64 0]) ∧ OV encY 3 24 w.heap.size w' v (memL s g cpu) ∧ Below w.heap.size w w' := by
  have h0 := chk_ok h h1 h2 h3 h4
  have := members_pub w c s g cpu hat h.stb
  rwa [memE_pos h0, h0] at this
set_option maxRecDepth 100000 in
set_option maxHeartbeats 3200000 in
theorem order_t6 (w w0 : World) (vg vt vs : Value) (ns : List Nat) (ts : List Sm) (sl : List Nat) {u0 u1 u2 u6 u7 u8 u9 u10 u11 u12 u13 u14 u15 u16 u17 u18 u19 u20 u21 u22 u23 u24 u25 u26 u27 u28 u29 u30 u31 u32 u33 u34 u35 u36 u37 u38 u39 u40 u41 u42 u43 u44 u45 u46 u47 u48 u49 u50 u51 u52 u53 u54 u55 u56 u57 u58 u59 u60 u61 u62 u63 u64 u65 u66 u67 u68 u69 u70 u71 u72 u73 u74 u75 u76 u77 u78 u79 u80 u81 u82 u83 u84 u85 u86 u87 u88 u89 u90 u91 u92 u93 u94 u95 u96 u97 : Value} (hb : Below w.heap.size w w0) (hg : U16 w0 vg ns) (ht : SmArg w0 vt ts) (hs : U16 w0 vs sl) :
    Code.wp Try.prog (tailR Try.f4 6) (bodyPost Try.prog Try.f4 fun e w' => e = .returned (.bool true) ∧ Below w.heap.size w w')
      ⟨#[u0, u1, u2, vg, vt, vs, u6, u7, u8, u9, u10, u11, u12, u13, u14, u15, u16, u17, u18, u19, u20, u21, u22, u23, u24, u25, u26, u27, u28, u29, u30, u31, u32, u33, u34, u35, u36, u37, u38, u39, u40, u41, u42, u43, u44, u45, u46, u47, u48, u49, u50, u51, u52, u53, u54, u55, u56, u57, u58, u59, u60, u61, u62, u63, u64, u65, u66, u67, u68, u69, u70, u71, u72, u73, u74, u75, u76, u77, u78, u79, u80, u81, u82, u83, u84, u85, u86, u87, u88, u89, u90, u91, u92, u93, u94, u95, u96, u97], []⟩ w0 := by
  conv => arg 2; whnf
  conv => arg 4; dsimp only
  have HB := Lib.hid hb
  have HG := Lib.hid hg
  have HT := Lib.hid ht
  have HS := Lib.hid hs
  have hsz := hb.size
  clear hb hg ht hs
  apply wp_seq_k; intro K0 hK0
  go_cut [15] (fun v wx => ∃ c s X, v = .pointer (some ⟨X, 0, none⟩) ∧ StO w0.heap.size wx c s ∧ StBox wx X c s ∧ Sim (madS 0 ns ts sl) s ∧ RowsB s ∧ Below w0.heap.size w0 wx)
  case first =>
    go_wp2_with fail
    refine (made_law w0 0 vg vt vs ns ts sl (by decide) HG.out HT.out HS.out).mono ?_
    rintro e w1 ⟨⟨vg', vc', vu', vt', vs'⟩, s, rfl, o, sim, rb, bb⟩
    obtain ⟨A1, c1, h1⟩ := (o.og.ev encG_len).shape
    obtain ⟨A2, c2, h2⟩ := (o.oc.ev encI_len).shape
    obtain ⟨A3, c3, h3⟩ := (o.ou.ev encI_len).shape
    obtain ⟨A4, c4, h4⟩ := (o.ot.ev encT_len).shape
    obtain ⟨A5, c5, h5⟩ := (o.os.ev encR_len).shape
    dsimp only at h1 h2 h3 h4 h5
    subst h1 h2 h3 h4 h5
    have O := Lib.hid o
    have S := Lib.hid sim
    have B := Lib.hid bb
    have RB := Lib.hid rb
    clear o sim bb rb
    unfold StC.val StC.cells
    dsimp only
    go_wp2_with fail
    go_meet
    have B2 := below_step B.out (bel_alloc w1 (.cells #[.int .i64 s.n, .int .u64 s.cr, .slice A1 s.gs.length c1, .slice A2 s.cl.length c2, .slice A3 s.cu.length c3, .slice A4 s.ts.length c4, .slice A5 s.ss.length c5] 38))
    exact ⟨⟨.slice A1 s.gs.length c1, .slice A2 s.cl.length c2, .slice A3 s.cu.length c3, .slice A4 s.ts.length c4, .slice A5 s.ss.length c5⟩, s, _, rfl, O.out.below (bel_alloc _ _), StBox.new w1 ⟨.slice A1 s.gs.length c1, .slice A2 s.cl.length c2, .slice A3 s.cu.length c3, .slice A4 s.ts.length c4, .slice A5 s.ss.length c5⟩ s, S.out, RB.out, B2⟩
  case rest =>
  obtain ⟨c, s, X, rfl, o, bx, sim, rb, bb⟩ := hcut
  have hsh := made_shp HG.out.2.1 HT.out.2.1 sim
  refine hK0 _ _ ?_
  have F : Facts wc [sSA c s, sSB X c s, sB w0] := ⟨o.at, bx, bb, trivial⟩
  have SH := Lib.hid hsh
  have hGl : s.gs.length ≤ 256 := (right_iff.1 hsh.right).many
  have hts : s.ts.length ≤ 65535 := hsh.len
  have hcn : (0 : Int) < s.n := by have := hsh.n1; omega
  obtain ⟨Ag, cg, hvg⟩ := (o.og.ev encG_len).shape
  have HVG := Lib.hid hvg
  obtain ⟨G, hG⟩ : ∃ G, s.gs.length = G := ⟨_, rfl⟩
  have HGL := Lib.hid hG
  rw [hG] at hGl
  clear o bx sim rb bb hsh hvg
  obtain ⟨b0, b1, b2, b3, b4, b5, b6⟩ := (F.get 1 : StBox wc X c s).cell
  rw [HVG.out, hG] at b2
  have HF := Lib.hid F
  clear F hG
  go_wp2_with fail
  go_loopg [69] G (fun k i wr => ∃ g : Nat, g + k = G ∧ i = .int .i64 g ∧ Below wc.heap.size wc wr)
  case atStart => exact ⟨0, by omega, rfl, Below.refl _ _⟩
  case round =>
    obtain ⟨g, hg, rfl, hbr⟩ := hrel
    have HJ := Lib.hid hg
    have HBR := Lib.hid hbr
    have hsw := hbr.size
    clear hg b0 b1 b2 b3 b4 b5 b6
    have F := HF.out.below hbr
    by_cases hlt : g < G
    · have hd : decide ((g : Int) < (G : Int)) = true := by rw [decide_eq_true_eq]; omega
      obtain ⟨wo, hwo⟩ : ∃ wo, wo = wr := ⟨_, rfl⟩
      subst hwo
      obtain ⟨b0, b1, b2, b3, b4, b5, b6⟩ := (F.get 1 : StBox wo X c s).cell
      have ME := Lib.hid (mem_ok SH.out wo c g 0 (F.get 0) (by omega) (by rw [HGL.out]; omega) (by omega) hcn)
      unfold StC.val StC.cells at ME
      clear hbr F
      go_wp2_with fail
      refine ME.out.mono ?_
      rintro e w2 ⟨v, rfl, o2, bb⟩
      have B2 := Lib.hid (HBR.out.trans (bb.mono hsw))
      have PW := Lib.hid (memL_pw SH.out g 0)
      have hml := memL_len s g 0
      have EVM := Lib.hid (o2.ev encY_len)
      generalize memL s g 0 = l at PW hml EVM
      obtain ⟨Am, cm, rfl⟩ := EVM.out.shape
      obtain ⟨N, hN⟩ : ∃ N, l.length = N := ⟨_, rfl⟩
      have HN := Lib.hid hN
      rw [hN] at hml EVM ⊢
      clear ME o2 bb b0 b1 b2 b3 b4 b5 b6 hN
      have hNl : N ≤ 70000 := by have := HGL.out; omega
      go_wp2_with fail
      go_loopg [19] N (fun k i wr => ∃ q : Nat, q + k = N + 1 ∧ 1 ≤ q ∧ i = .int .i64 q ∧ Below w2.heap.size w2 wr)
      case atStart => exact ⟨1, by omega, by omega, rfl, Below.refl _ _⟩
      case round =>
        obtain ⟨q, hq, hq1, rfl, hbq⟩ := hrel
        have HQ := Lib.hid hq
        have HBQ := Lib.hid hbq
        have hsq := hbq.size
        have hs2 := B2.out.size
        clear hq
        by_cases hlq : q < N
        · have hd2 : decide ((q : Int) < (N : Int)) = true := by rw [decide_eq_true_eq]; omega
          obtain ⟨⟨xv, xz, xi⟩, hx⟩ : ∃ x, l[q - 1]? = some x := ⟨_, List.getElem?_eq_getElem (by rw [HN.out]; omega)⟩
          obtain ⟨⟨yv, yz, yi⟩, hy⟩ : ∃ y, l[q]? = some y := ⟨_, List.getElem?_eq_getElem (by rw [HN.out]; omega)⟩
          have hlt2 : keyLt ⟨xv, xz, xi⟩ ⟨yv, yz, yi⟩ = true := by
            have := List.pairwise_iff_getElem.1 PW.out (q - 1) q (by rw [HN.out]; omega) (by rw [HN.out]; omega) (by omega)
            rw [List.getElem?_eq_getElem (by rw [HN.out]; omega)] at hx hy
            rw [Option.some.inj hx, Option.some.inj hy] at this
            exact this
          obtain ⟨b, off, c', hv, _, hr⟩ := (EVM.out.below hbq).row (by rw [HN.out]; omega)
          rw [HN.out] at hv
          simp only [Value.slice.injEq] at hv
          obtain ⟨rfl, hz, rfl⟩ := hv
          obtain ⟨c0, c1, c2⟩ := hr.ky hx
          obtain ⟨d0, d1, d2⟩ := hr.ky hy
          obtain ⟨r, hr2⟩ : ∃ r : Nat, q - 1 = r := ⟨_, rfl⟩
          rw [hr2] at c0 c1 c2
          have wj : IntKind.i64.wrap ((q : Int) - 1) = (r : Int) := by rw [IntWalk.i64_in _ (by omega)]; omega
          have j0 : (0 : Int) ≤ (r : Int) := by omega
          have j1 : (r : Int) < (N : Int) := by omega
          have j2 : (0 : Int) ≤ (q : Int) := by omega
          have j3 : r < N := by omega
          have LV := Lib.hid (fun W => by have := less_ok W ⟨xv, xz, xi⟩ ⟨yv, yz, yi⟩; rw [hlt2] at this; exact this)
          dsimp only at LV c0 c1 c2 d0 d1 d2
          clear hx hy hr hz hlt2 hbq hr2
          go_upto_region 16 with fail
          go_region_held3 (fun wz => wz.cell? ⟨b, off + r * 3, none⟩ = some (.int .u64 xv) ∧ wz.cell? ⟨b, off + r * 3 + 1, none⟩ = some (.bool xz) ∧ wz.cell? ⟨b, off + r * 3 + 2, none⟩ = some (.int .i64 xi) ∧ wz.cell? ⟨b, off + q * 3, none⟩ = some (.int .u64 yv) ∧ wz.cell? ⟨b, off + q * 3 + 1, none⟩ = some (.bool yz) ∧ wz.cell? ⟨b, off + q * 3 + 2, none⟩ = some (.int .i64 yi) ∧ Below wr.heap.size wr wz)
            (first
              | exact held6b (by assumption) hbz
              | assumption
              | exact ⟨c0, c1, c2, d0, d1, d2, below_drew (Below.refl _ _)⟩)
            (first
              | (go_at_call 12; refine (LV.out _).mono ?_; rintro e wz ⟨rfl, hbz⟩))
          all_goals
            rename_i hh
            have BF := Lib.hid (HBQ.out.trans (hh.2.2.2.2.2.2.mono hsq))
            clear hh hbz c0 c1 c2 d0 d1 d2
            go_wp2
            go_roundg (gk - 1)
            case measure => have := HQ.out; omega
            case rel => exact ⟨q + 1, by have := HQ.out; omega, by omega, by go_num, BF.out⟩
        · have hd2 : decide ((q : Int) < (N : Int)) = false := by rw [decide_eq_false_iff_not]; omega
          clear hbq
          go_wp2
          go_roundg (G - (g + 1))
          case measure => have := HJ.out; omega
          case rel => exact ⟨g + 1, by omega, by go_num, B2.out.trans (HBQ.out.mono hs2)⟩
    · have hd : decide ((g : Int) < (G : Int)) = false := by rw [decide_eq_false_iff_not]; omega
      clear hbr F
      go_wp2
      go_ret
      exact ⟨rfl, HB.out.trans (((HF.out.get 2 : Below w0.heap.size w0 wc).trans (HBR.out.mono (HF.out.get 2 : Below w0.heap.size w0 wc).size)).mono hsz)⟩
/-- Three keys in their boxes. -/
structure Cel9 (X Y Z : Nat) (a b c : Ky) (w : World) : Prop where
  x : ER encY 3 w X 0 [a]
  y : ER encY 3 w Y 0 [b]
  z : ER encY 3 w Z 0 [c]
theorem Cel9.below {X Y Z : Nat} {a b c : Ky} {w w' : World} (h : Cel9 X Y Z a b c w) (hb : Below w.heap.size w w') : Cel9 X Y Z a b c w' := ⟨h.x.below hb, h.y.below hb, h.z.below hb⟩
theorem Cel9.get {X Y Z : Nat} {a b c : Ky} {w : World} (h : Cel9 X Y Z a b c w) : (w.cell? ⟨X, 0, none⟩ = some (.int .u64 a.v) ∧ w.cell? ⟨X, 1, none⟩ = some (.bool a.sp) ∧ w.cell? ⟨X, 2, none⟩ = some (.int .i64 a.id)) ∧ (w.cell? ⟨Y, 0, none⟩ = some (.int .u64 b.v) ∧ w.cell? ⟨Y, 1, none⟩ = some (.bool b.sp) ∧ w.cell? ⟨Y, 2, none⟩ = some (.int .i64 b.id)) ∧ w.cell? ⟨Z, 0, none⟩ = some (.int .u64 c.v) ∧ w.cell? ⟨Z, 1, none⟩ = some (.bool c.sp) ∧ w.cell? ⟨Z, 2, none⟩ = some (.int .i64 c.id) := by
  have h1 := h.x.ky (i := 0) rfl
  have h2 := h.y.ky (i := 0) rfl
  have h3 := h.z.ky (i := 0) rfl
  simp only [Nat.zero_mul, Nat.zero_add] at h1 h2 h3
  exact ⟨h1, h2, h3⟩
theorem newK (w : World) (a : Ky) {m : Nat} (hm : w.heap.size = m) : ER encY 3 (w.alloc (.cells #[.int .u64 a.v, .bool a.sp, .int .i64 a.id] 24)) m 0 [a] := by
  subst hm
  exact ((EV.newL (w := w) (e := 24) (xs := [a]) (n := 1) (c := 1) (cs := #[.int .u64 a.v, .bool a.sp, .int .i64 a.id]) encY_len rfl rfl (Nat.le_refl _)).row3 (by simp))
theorem ord_cases (a b c : Ky) : (keyLt a b = false ∧ keyLt b a = false ∧ a = b) ∨ (keyLt a b = false ∧ keyLt b a = true) ∨ (keyLt a b = true ∧ keyLt b a = false ∧ keyLt b c = false) ∨ (keyLt a b = true ∧ keyLt b a = false ∧ keyLt b c = true ∧ keyLt a c = true) := by
  rcases h : keyLt a b with _ | _
  · rcases h' : keyLt b a with _ | _
    · refine .inl ⟨rfl, rfl, ?_⟩
      rcases Decidable.em (a = b) with e | e
      · exact e
      · rcases keyLt_total e with k | k
        · rw [h] at k; cases k
        · rw [h'] at k; cases k
    · exact .inr (.inl ⟨rfl, rfl⟩)
  · have h' : keyLt b a = false := keyLt_asymm h
    rcases h3 : keyLt b c with _ | _
    · exact .inr (.inr (.inl ⟨rfl, h', rfl⟩))
    · exact .inr (.inr (.inr ⟨rfl, h', rfl, keyLt_trans h h3⟩))
set_option maxRecDepth 100000 in
set_option maxHeartbeats 6400000 in
theorem orderLaw_walk (w : World) (v0 v1 v2 vg vt vs : Value) (a b c : Ky) (ns : List Nat) (ts : List Sm) (sl : List Nat) (h0 : KeyArg w v0 a) (h1 : KeyArg w v1 b) (h2 : KeyArg w v2 c) (hg : U16 w vg ns) (ht : SmArg w vt ts) (hs : U16 w vs sl) :
    Calls Try.prog 4 #[v0, v1, v2, vg, vt, vs] w fun e w' => e = .returned (.bool true) ∧ Below w.heap.size w w' := by
  obtain ⟨rfl, _⟩ := h0
  obtain ⟨rfl, _⟩ := h1
  obtain ⟨rfl, _⟩ := h2
  have LV := Lib.hid (fun W (av : Int) (az : Bool) (ai bv : Int) (bz : Bool) (bi : Int) => less_ok W ⟨av, az, ai⟩ ⟨bv, bz, bi⟩)
  dsimp only at LV
  have B1 := bel_alloc w (.cells #[.int .u64 a.v, .bool a.sp, .int .i64 a.id] 24)
  have B2 := bel_alloc (w.alloc (.cells #[.int .u64 a.v, .bool a.sp, .int .i64 a.id] 24)) (.cells #[.int .u64 b.v, .bool b.sp, .int .i64 b.id] 24)
  have B3 := bel_alloc ((w.alloc (.cells #[.int .u64 a.v, .bool a.sp, .int .i64 a.id] 24)).alloc (.cells #[.int .u64 b.v, .bool b.sp, .int .i64 b.id] 24)) (.cells #[.int .u64 c.v, .bool c.sp, .int .i64 c.id] 24)
  have C : Cel9 w.heap.size (w.heap.size + 1) (w.heap.size + 1 + 1) a b c (((w.alloc (.cells #[.int .u64 a.v, .bool a.sp, .int .i64 a.id] 24)).alloc (.cells #[.int .u64 b.v, .bool b.sp, .int .i64 b.id] 24)).alloc (.cells #[.int .u64 c.v, .bool c.sp, .int .i64 c.id] 24)) :=
    ⟨((newK w a rfl).below B2).below B3, (newK _ b (by simp)).below B3, newK _ c (by simp)⟩
  have BB := below_step (below_step B1 B2) B3
  have HG := Lib.hid hg
  have HT := Lib.hid ht
  have HS := Lib.hid hs
  unfold ValY
  obtain ⟨av, az, ai⟩ := a
  obtain ⟨bv, bz, bi⟩ := b
  obtain ⟨cv, cz, ci⟩ := c
  dsimp only at C BB ⊢
  clear B1 B2 B3 hg ht hs
  go_enter Try.func4, Try.ntmps4
  go_upto_region 1 with fail
  generalize ((w.alloc (.cells #[.int .u64 av, .bool az, .int .i64 ai] 24)).alloc (.cells #[.int .u64 bv, .bool bz, .int .i64 bi] 24)).alloc (.cells #[.int .u64 cv, .bool cz, .int .i64 ci] 24) = w1 at C BB ⊢
  obtain ⟨X, hX⟩ : ∃ X, w.heap.size = X := ⟨_, rfl⟩
  obtain ⟨Y, hY⟩ : ∃ Y, X + 1 = Y := ⟨_, rfl⟩
  obtain ⟨Z, hZ⟩ : ∃ Z, Y + 1 = Z := ⟨_, rfl⟩
  simp only [hX, hY, hZ] at C ⊢
  have HX := Lib.hid hX
  replace C := Lib.hid C
  replace BB := Lib.hid BB
  clear hX hY hZ
  go_wp2_with fail
  refine (awake_ok w1).mono ?_
  rintro e w2 ⟨rfl, bb⟩
  replace C := Lib.hid (C.out.below bb)
  replace BB := Lib.hid (below_step BB.out bb)
  clear bb
  obtain ⟨⟨p0, p1, p2⟩, ⟨q0, q1, q2⟩, r0, r1, r2⟩ := C.out.get
  dsimp only at p0 p1 p2 q0 q1 q2 r0 r1 r2
  go_upto_region 3 with fail
  go_cut [13, 14] (fun x y wx => x = .bool (keyLt ⟨av, az, ai⟩ ⟨bv, bz, bi⟩) ∧ y = .bool (keyLt ⟨bv, bz, bi⟩ ⟨av, az, ai⟩) ∧ Below w2.heap.size w2 wx)
  case first =>
    go_region_held3 (fun wz => wz.cell? ⟨X, 0, none⟩ = some (.int .u64 av) ∧ wz.cell? ⟨X, 1, none⟩ = some (.bool az) ∧ wz.cell? ⟨X, 2, none⟩ = some (.int .i64 ai) ∧ wz.cell? ⟨Y, 0, none⟩ = some (.int .u64 bv) ∧ wz.cell? ⟨Y, 1, none⟩ = some (.bool bz) ∧ wz.cell? ⟨Y, 2, none⟩ = some (.int .i64 bi) ∧ Below w2.heap.size w2 wz)
      (first
        | exact held6b (by assumption) hbz
        | assumption
        | exact ⟨p0, p1, p2, q0, q1, q2, below_drew (Below.refl _ _)⟩)
      (first
        | (go_at_call 12; refine (LV.out _ _ _ _ _ _ _).mono ?_; rintro e wz ⟨rfl, hbz⟩))
    all_goals
      rename_i hh
      have BF := Lib.hid hh.2.2.2.2.2.2
      clear hh hbz
      go_wp2_with fail
      go_meet
      exact ⟨rfl, rfl, BF.out⟩
  case rest =>
  obtain ⟨rfl, rfl, bb⟩ := hcut
  replace C := Lib.hid (C.out.below bb)
  replace BB := Lib.hid (BB.out.trans (bb.mono BB.out.size))
  clear bb p0 p1 p2 q0 q1 q2 r0 r1 r2
  obtain ⟨⟨p0, p1, p2⟩, ⟨q0, q1, q2⟩, r0, r1, r2⟩ := C.out.get
  dsimp only at p0 p1 p2 q0 q1 q2 r0 r1 r2
  have haa := keyLt_irrefl ⟨av, az, ai⟩
  obtain ⟨w0, hw0⟩ : ∃ w0, w0 = wc := ⟨_, rfl⟩
  go_upto_region 4 with fail
  have hc := ord_cases ⟨av, az, ai⟩ ⟨bv, bz, bi⟩ ⟨cv, cz, ci⟩
  generalize hz1 : keyLt ⟨av, az, ai⟩ ⟨bv, bz, bi⟩ = z1 at hc ⊢
  generalize hz2 : keyLt ⟨bv, bz, bi⟩ ⟨av, az, ai⟩ = z2 at hc ⊢
  simp only [Ky.mk.injEq] at hc
  go_cut [60] (fun x wx => x = .bool false ∧ Below w.heap.size w wx)
  case first =>
    rcases hc with ⟨rfl, rfl, rfl, rfl, rfl⟩ | ⟨rfl, rfl⟩ | ⟨rfl, rfl, h3⟩ | ⟨rfl, rfl, h3, h4⟩
    all_goals
      go_wp2_with (first | (go_at_call 12; refine (LV.out _ _ _ _ _ _ _).mono ?_; rintro e wz ⟨rfl, hbz⟩; replace C := Lib.hid (C.out.below hbz); replace BB := Lib.hid (BB.out.trans (hbz.mono BB.out.size)); obtain ⟨⟨p0, p1, p2⟩, ⟨q0, q1, q2⟩, r0, r1, r2⟩ := C.out.get; dsimp only at p0 p1 p2 q0 q1 q2 r0 r1 r2; clear hbz) | fail)
      go_meet
      exact ⟨rfl, BB.out⟩
  case rest =>
    obtain ⟨rfl, bb⟩ := hcut
    have bw := Lib.hid bb
    clear bb p0 p1 p2 q0 q1 q2 r0 r1 r2
    clear hz1 hz2 hc
    obtain ⟨w3, hw3⟩ : ∃ w3, w3 = wc := ⟨_, rfl⟩
    subst hw3
    go_upto_if 60 with fail
    go_cut [] (fun wx => wx = w3)
    case first =>
      go_wp2_with fail
      go_meet
      rfl
    case rest =>
      subst hcut
      refine (‹∀ (a : Act) (w : World), Code.wp _ _ _ a w → _› : ∀ (a : Act) (w : World), _ → _) _ _ (order_t6 w _ vg vt vs ns ts sl bw.out (HG.out.below bw.out) (HT.out.below bw.out) (HS.out.below bw.out))
end Go.Proofs.Ytenngfkgfdogjaa
