/- The reference of layer 21: put | The reference of layer 21: Members | The reference of layer 21: Walk | The reference of layer 21: Floors. -/
import Derived.Test.YtenngfkgfdogjaaZ14
import Derived.Test.YtenngfkgfdogjaaZ13
import Derived.Deep.RegionHeld3
import Derived.Deep.DeepCutAuto
import Derived.Test.YtenngfkgfdogjaaZ10
set_option linter.unusedVariables false
set_option linter.unusedSimpArgs false
set_option linter.unusedSectionVars false
namespace Go.Proofs.Ytenngfkgfdogjaa
open Go Go.RowKit Go.Shelf
attribute [local go_sem] Oper.semAt_some

theorem elemR : ElemT Try.prog 126 27 3 24 := ⟨Try.underlying126, by
  have h : (Try.prog.info? 27).map (fun i => (i.zero, i.size, i.bytes)) = some (some (.agg #[.int .u64 0, .bool false, .int .i64 0]), 3, 24) := by kernel_rfl
  obtain ⟨i, h1, h2, h3, h4⟩ := info_parts h
  exact ⟨i, _, h1, h2, h3, h4, rfl⟩, by omega, by omega⟩
def KyC (k : Ky) : Array Value := #[.int .u64 k.v, .bool k.sp, .int .i64 k.id]
theorem ins_take {l : List Ky} {k : Ky} : ∀ {n : Nat}, n ≤ l.length → (∀ x ∈ l.take n, keyLt x k = true) → (∀ x, l[n]? = some x → keyLt x k = false) → insK l k = l.take n ++ k :: l.drop n := by
  induction l with
  | nil => intro n hn _ _; simp at hn; subst hn; rfl
  | cons y r ih =>
    intro n hn h1 h2
    cases n with
    | zero =>
      have := h2 y rfl
      unfold insK; rw [if_neg (by simp [this])]; rfl
    | succ m =>
      have hy := h1 y (by simp)
      unfold insK; rw [if_pos hy, ih (n := m) (by simpa using hn) (fun x hx => h1 x (by simp [hx])) (fun x hx => h2 x (by simpa using hx))]
      rfl
theorem cells3 {wz wz' : World} {p0 p1 p2 : Addr} {u0 u1 u2 : Value} (h : wz.cell? p0 = some u0 ∧ wz.cell? p1 = some u1 ∧ wz.cell? p2 = some u2) (k : Below wz.heap.size wz wz') :
    wz'.cell? p0 = some u0 ∧ wz'.cell? p1 = some u1 ∧ wz'.cell? p2 = some u2 := ⟨below_cell k h.1, below_cell k h.2.1, below_cell k h.2.2⟩
theorem newk (w : World) (k : Ky) : EV encY 3 (w.alloc (.cells #[.int .u64 k.v, .bool k.sp, .int .i64 k.id] 27)) (.slice (some ⟨w.heap.size, 0, none⟩) 1 1) [k] := EV.new1 rfl (Nat.le_refl _)
theorem newk1 (w : World) (o : Obj) (k : Ky) : EV encY 3 ((w.alloc o).alloc (.cells #[.int .u64 k.v, .bool k.sp, .int .i64 k.id] 27)) (.slice (some ⟨w.heap.size + 1, 0, none⟩) 1 1) [k] := by
  have := newk (w.alloc o) k
  rwa [World.size_alloc] at this
theorem newk0 (w : World) (o : Obj) (k : Ky) : EV encY 3 ((w.alloc (.cells #[.int .u64 k.v, .bool k.sp, .int .i64 k.id] 27)).alloc o) (.slice (some ⟨w.heap.size, 0, none⟩) 1 1) [k] := (newk w k).below (bel_alloc _ _)
theorem ovk0 (w : World) : OV encY 3 27 w.heap.size (w.alloc (.cells #[] 27)) (.slice (some ⟨w.heap.size, 0, none⟩) 0 0) [] := OV.made w 0 #[] (Nat.le_refl _) (Nat.zero_le _) rfl
theorem ovk1 (w : World) (o : Obj) : OV encY 3 27 w.heap.size ((w.alloc o).alloc (.cells #[] 27)) (.slice (some ⟨w.heap.size + 1, 0, none⟩) 0 0) [] := by
  have := OV.made (enc := encY) (k := 3) (e := 27) (w.alloc o) (base := w.heap.size) 0 #[] (by simp) (Nat.zero_le _) rfl
  rwa [World.size_alloc] at this
theorem held7k {w wz wz' : World} {p0 p1 p2 p3 p4 p5 : Addr} {u0 u1 u2 u3 u4 u5 : Value}
    (h : wz.cell? p0 = some u0 ∧ wz.cell? p1 = some u1 ∧ wz.cell? p2 = some u2 ∧ wz.cell? p3 = some u3 ∧ wz.cell? p4 = some u4 ∧ wz.cell? p5 = some u5 ∧ Below w.heap.size w wz) (k : Below wz.heap.size wz wz') :
    wz'.cell? p0 = some u0 ∧ wz'.cell? p1 = some u1 ∧ wz'.cell? p2 = some u2 ∧ wz'.cell? p3 = some u3 ∧ wz'.cell? p4 = some u4 ∧ wz'.cell? p5 = some u5 ∧ Below w.heap.size w wz' :=
  ⟨below_cell k h.1, below_cell k h.2.1, below_cell k h.2.2.1, below_cell k h.2.2.2.1, below_cell k h.2.2.2.2.1, below_cell k h.2.2.2.2.2.1, below_step h.2.2.2.2.2.2 k⟩
set_option maxRecDepth 100000 in
set_option maxHeartbeats 3200000 in
theorem put_ok (w : World) (v : Value) (l : List Ky) (k : Ky) (base : Nat) (h : OV encY 3 27 base w v l) (hl : l.length ≤ 1000000) :
    Calls Try.prog 97 #[v, .agg #[.int .u64 k.v, .bool k.sp, .int .i64 k.id]] w fun e w' => ∃ v', e = .returned v' ∧ OV encY 3 27 w.heap.size w' v' (insK l k) ∧ Below w.heap.size w w' := by
  obtain ⟨A, cl, rfl⟩ := (h.ev encY_len).shape
  have a1 := bel_alloc w (.cells #[.int .u64 k.v, .bool k.sp, .int .i64 k.id] 27)
  have H := Lib.hid ((h.ev encY_len).below a1)
  have HO0 := Lib.hid h
  have RK := Lib.hid (((EV.newL (w := w) (e := 27) (xs := [k]) (n := 1) (c := 1) (cs := #[.int .u64 k.v, .bool k.sp, .int .i64 k.id]) encY_len rfl rfl (Nat.le_refl _)).row3 (by simp)))
  have HB := Lib.hid a1
  obtain ⟨L, hL⟩ : ∃ L, l.length = L := ⟨_, rfl⟩
  have HL := Lib.hid hL
  rw [hL] at hl H ⊢
  clear h hL a1
  go_enter Try.func97, Try.ntmps97
  go_upto_region 1 with fail
  generalize w.alloc (.cells #[.int .u64 k.v, .bool k.sp, .int .i64 k.id] 27) = w1 at H RK HB ⊢
  obtain ⟨X0, hX0⟩ : ∃ X0, w.heap.size = X0 := ⟨_, rfl⟩
  rw [hX0] at RK
  simp only [hX0]
  have HX0 := Lib.hid hX0
  have hw1 := HB.out.size
  clear hX0
  go_upto_block 0 with fail
  go_cut [5] (fun i wx => ∃ n : Nat, i = .int .i64 n ∧ n ≤ L ∧ (∀ x ∈ l.take n, keyLt x k = true) ∧ (∀ x, l[n]? = some x → keyLt x k = false) ∧ Below w1.heap.size w1 wx)
  case first =>
    go_wp2
    go_loopg [5] L (fun gk i wr => ∃ j : Nat, j + gk = L ∧ i = .int .i64 j ∧ (∀ x ∈ l.take j, keyLt x k = true) ∧ Below w1.heap.size w1 wr)
    case atStart => exact ⟨0, by omega, rfl, by simp, Below.refl _ _⟩
    case round =>
      obtain ⟨j, hj, rfl, hlt, hbr⟩ := hrel
      have HJ := Lib.hid hj
      have HLT := Lib.hid hlt
      have HBR := Lib.hid hbr
      obtain ⟨k0, k1, k2⟩ := (RK.out.below hbr).ky (i := 0) rfl
      simp only [Nat.zero_mul, Nat.zero_add] at k0 k1 k2
      clear hj hlt
      by_cases hj : j < L
      · have hd : decide ((j : Int) < (L : Int)) = true := by rw [decide_eq_true_eq]; omega
        obtain ⟨x, hx⟩ : ∃ x, l[j]? = some x := ⟨_, List.getElem?_eq_getElem (by rw [HL.out]; omega)⟩
        obtain ⟨b, off, c', hv, _, hr⟩ := (H.out.below hbr).row (by rw [HL.out]; omega)
        rw [HL.out] at hv
        simp only [Value.slice.injEq] at hv
        obtain ⟨rfl, hz, rfl⟩ := hv
        clear hz hbr
        obtain ⟨x0, x1, x2⟩ := hr.ky hx
        have HXX := Lib.hid hx
        clear hr hx
        have RL := Lib.hid (fun W => rless_ok W x k)
        cases hk : keyLt x k with
        | true =>
          rw [hk] at RL
          have HK := Lib.hid hk
          clear hk
          go_wp2_with fail
          go_region_held3 (fun wz => wz.cell? ⟨b, off + j * 3, none⟩ = some (.int .u64 x.v) ∧ wz.cell? ⟨b, off + j * 3 + 1, none⟩ = some (.bool x.sp) ∧ wz.cell? ⟨b, off + j * 3 + 2, none⟩ = some (.int .i64 x.id) ∧ wz.cell? ⟨X0, 0, none⟩ = some (.int .u64 k.v) ∧ wz.cell? ⟨X0, 1, none⟩ = some (.bool k.sp) ∧ wz.cell? ⟨X0, 2, none⟩ = some (.int .i64 k.id) ∧ Below wr.heap.size wr wz)
            (first
              | exact held7k (by assumption) hbz
              | assumption
              | exact ⟨x0, x1, x2, k0, k1, k2, below_drew (Below.refl _ _)⟩)
            ((go_at_call 13; refine (RL.out _).mono ?_; rintro e wz ⟨rfl, hbz⟩))
          all_goals
            rename_i hh
            have HBZ := Lib.hid hh.2.2.2.2.2.2
            clear hh
            go_wp2
            go_roundg (gk - 1)
            case measure => have := HJ.out; omega
            case rel => exact ⟨j + 1, by have := HJ.out; omega, by go_num, fun y hy => by
              rw [List.take_add_one, HXX.out, List.mem_append] at hy
              rcases hy with hy | hy
              · exact HLT.out y hy
              · simp at hy; subst hy; exact HK.out, HBR.out.trans (HBZ.out.mono HBR.out.size)⟩
        | false =>
          rw [hk] at RL
          have HK := Lib.hid hk
          clear hk
          go_wp2_with fail
          go_region_held3 (fun wz => wz.cell? ⟨b, off + j * 3, none⟩ = some (.int .u64 x.v) ∧ wz.cell? ⟨b, off + j * 3 + 1, none⟩ = some (.bool x.sp) ∧ wz.cell? ⟨b, off + j * 3 + 2, none⟩ = some (.int .i64 x.id) ∧ wz.cell? ⟨X0, 0, none⟩ = some (.int .u64 k.v) ∧ wz.cell? ⟨X0, 1, none⟩ = some (.bool k.sp) ∧ wz.cell? ⟨X0, 2, none⟩ = some (.int .i64 k.id) ∧ Below wr.heap.size wr wz)
            (first
              | exact held7k (by assumption) hbz
              | assumption
              | exact ⟨x0, x1, x2, k0, k1, k2, below_drew (Below.refl _ _)⟩)
            ((go_at_call 13; refine (RL.out _).mono ?_; rintro e wz ⟨rfl, hbz⟩))
          all_goals
            rename_i hh
            have HBZ := Lib.hid hh.2.2.2.2.2.2
            clear hh
            go_wp2
            go_meet
            exact ⟨j, rfl, by omega, HLT.out, fun y hy => by rw [HXX.out] at hy; cases hy; exact HK.out, HBR.out.trans (HBZ.out.mono HBR.out.size)⟩
      · have hd : decide ((j : Int) < (L : Int)) = false := by rw [decide_eq_false_iff_not]; omega
        have HJL := Lib.hid (show j = L by have := HJ.out; omega)
        clear hbr
        go_wp2_with fail
        go_quiet (fail)
        go_wp2
        go_meet
        exact ⟨j, rfl, by have := HJL.out; omega, HLT.out, fun x hx => by have := (List.getElem?_eq_some_iff.1 hx).1; rw [HL.out] at this; omega, below_drewN HBR.out _⟩
  case rest =>
    obtain ⟨n, rfl, hn, h1, h2, hb2⟩ := hcut
    have HI := Lib.hid (ins_take (k := k) (l := l) (n := n) (by rw [HL.out]; exact hn) h1 h2)
    have EL := Lib.hid (H.out.below hb2)
    obtain ⟨k0, k1, k2⟩ := (RK.out.below hb2).ky (i := 0) rfl
    simp only [Nat.zero_mul, Nat.zero_add] at k0 k1 k2
    have HB2 := Lib.hid (below_step HB.out hb2)
    clear h1 h2 hb2
    obtain ⟨wr, rfl⟩ : ∃ wr, wr = wc := ⟨_, rfl⟩
    have hwr := HB2.out.size
    obtain ⟨X, hX⟩ : ∃ X, l.take n = X := ⟨_, rfl⟩
    obtain ⟨Y, hY⟩ : ∃ Y, l.drop n = Y := ⟨_, rfl⟩
    have LX := Lib.hid (show X.length = n by rw [← hX, List.length_take, HL.out]; omega)
    have LY := Lib.hid (show Y.length = L - n by rw [← hY, List.length_drop, HL.out])
    have HXX := Lib.hid hX
    have HYY := Lib.hid hY
    rw [hX, hY] at HI
    clear hX hY
    have h3 : (A = none ∧ L = 0 ∧ cl = 0) ∨ (∃ g, A = some ⟨g, 0, none⟩ ∧ L ≤ cl ∧ cl = n) ∨ (∃ g, A = some ⟨g, 0, none⟩ ∧ L ≤ cl ∧ cl ≠ n) := by
      rcases HO0.out.2 with ⟨hv, h0⟩ | ⟨g, cap, cur, hv, hbg, hg, hnc, hcm, hcs, htk⟩
      · injection hv with e1 e2 e3
        exact .inl ⟨e1, by rw [← HL.out]; exact h0, e3⟩
      · injection hv with e1 e2 e3
        rw [HL.out] at hnc
        by_cases hca : cl = n
        · exact .inr (.inl ⟨g, e1, by omega, hca⟩)
        · exact .inr (.inr ⟨g, e1, by omega, hca⟩)
    clear HO0
    rcases h3 with ⟨rfl, h0, rfl⟩ | ⟨g, rfl, hcl, hca⟩ | ⟨g, rfl, hcl, hca⟩
    · subst h0
      obtain rfl : n = 0 := by omega
      have EX := Lib.hid (show EV encY 3 wr (.slice none 0 0) X from by
        have : X = [] := List.eq_nil_of_length_eq_zero (by have := LX.out; omega)
        rw [this]; exact EV.nil _ _)
      have EY := Lib.hid (show EV encY 3 wr (.slice none 0 0) Y from by
        have : Y = [] := List.eq_nil_of_length_eq_zero (by have := LY.out; omega)
        rw [this]; exact EV.nil _ _)
      clear hn hl
      go_wp2_with fail
      go_region_held3 (fun wz => wz.cell? ⟨X0, 0, none⟩ = some (.int .u64 k.v) ∧ wz.cell? ⟨X0, 1, none⟩ = some (.bool k.sp) ∧ wz.cell? ⟨X0, 2, none⟩ = some (.int .i64 k.id)) (first
          | assumption
          | exact ⟨k0, k1, k2⟩
          | exact cells3 ⟨k0, k1, k2⟩ b1
          | exact cells3 ⟨k0, k1, k2⟩ b2
          | exact cells3 ⟨k0, k1, k2⟩ b3
          | exact cells3 (by assumption) (bel_alloc _ _)
          | exact cells3 ⟨k0, k1, k2⟩ (below_drew (bel_alloc _ _))) (first
        | ((refine step_app elemR encY_len encY_one (by rfl) (.tmp 20) (.tmp 23) (by rfl) (.slice (some ⟨wr.heap.size, 0, none⟩) 0 0) (.slice none 0 0) (by rfl) (by rfl) (xs := []) (ys := X) (base := wr.heap.size) (by exact (ovk0 wr).drew) (by exact EX.out.below (below_drew ((Below.refl _ wr).alloc (Nat.le_refl _) _))) (by rw [LX.out]; (first | omega | (simp; done) | (simp; omega))) (by (first | omega | (simp; done) | (simp; omega))) ?_; intro v1 w1' o1 g1; have b1 : Below wr.heap.size wr w1' := (below_drew ((Below.refl _ wr).alloc (Nat.le_refl _) _)).grown g1 (by (first | omega | (simp; done) | (simp; omega))) (fun q hq => by simp [Value.ownBlock] at hq; omega); have l1 := b1.size; clear g1))
        | ((refine step_app elemR encY_len encY_one (by rfl) (.tmp 20) (.tmp 23) (by rfl) (.slice (some ⟨wr.heap.size, 0, none⟩) 0 0) (.slice none 0 0) (by rfl) (by rfl) (xs := []) (ys := X) (base := wr.heap.size) (by exact ((ovk0 wr).alloc (.cells #[.int .u64 k.v, .bool k.sp, .int .i64 k.id] 27)).drew) (by exact EX.out.below (below_drew (((Below.refl _ wr).alloc (Nat.le_refl _) _).alloc (by simp) _))) (by rw [LX.out]; (first | omega | (simp; done) | (simp; omega))) (by (first | omega | (simp; done) | (simp; omega))) ?_; intro v1 w1' o1 g1; have b1 : Below wr.heap.size wr w1' := (below_drew (((Below.refl _ wr).alloc (Nat.le_refl _) _).alloc (by simp) _)).grown g1 (by (first | omega | (simp; done) | (simp; omega))) (fun q hq => by simp [Value.ownBlock] at hq; omega); have e49 : EV encY 3 w1' (.slice (some ⟨wr.heap.size + 1, 0, none⟩) 1 1) [k] := EV.grown (newk1 wr _ k).drew_ g1 (by intro b o n c h; simp at h; simp [Value.ownBlock]; omega); have l1 := b1.size; clear g1))
        | ((refine step_app elemR encY_len encY_one (by rfl) (.tmp 20) (.tmp 23) (by rfl) (.slice (some ⟨wr.heap.size + 1, 0, none⟩) 0 0) (.slice none 0 0) (by rfl) (by rfl) (xs := []) (ys := X) (base := wr.heap.size) (by exact (ovk1 wr _).drew) (by exact EX.out.below (below_drew (((Below.refl _ wr).alloc (Nat.le_refl _) _).alloc (by simp) _))) (by rw [LX.out]; (first | omega | (simp; done) | (simp; omega))) (by (first | omega | (simp; done) | (simp; omega))) ?_; intro v1 w1' o1 g1; have b1 : Below wr.heap.size wr w1' := (below_drew (((Below.refl _ wr).alloc (Nat.le_refl _) _).alloc (by simp) _)).grown g1 (by (first | omega | (simp; done) | (simp; omega))) (fun q hq => by simp [Value.ownBlock] at hq; omega); have e49 : EV encY 3 w1' (.slice (some ⟨wr.heap.size, 0, none⟩) 1 1) [k] := EV.grown (newk0 wr _ k).drew_ g1 (by intro b o n c h; simp at h; simp [Value.ownBlock]; omega); have l1 := b1.size; clear g1))
        | ((refine step_app elemR encY_len encY_one (by rfl) (.tmp 24) (.tmp 26) (by rfl) v1 (.slice (some ⟨w1'.heap.size, 0, none⟩) 1 1) (by rfl) (by rfl) (ys := [k]) (base := wr.heap.size) (by exact o1.alloc _) (by exact newk w1' k) (by rw [List.length_append, LX.out]; (first | omega | (simp; done) | (simp; omega))) (by (first | omega | (simp; done) | (simp; omega))) ?_; intro v2 w2 o2 g2; have b2 : Below wr.heap.size wr w2 := (b1.alloc l1 _).grown g2 (by (first | omega | (simp; done) | (simp; omega))) (fun q hq => (o1.block q hq).1); have l2 := b2.size; clear g2 o1))
        | ((refine step_app elemR encY_len encY_one (by rfl) (.tmp 24) (.tmp 26) (by rfl) v1 (.slice (some ⟨wr.heap.size + 1, 0, none⟩) 1 1) (by rfl) (by rfl) (ys := [k]) (base := wr.heap.size) (by exact o1) (by exact e49) (by rw [List.length_append, LX.out]; (first | omega | (simp; done) | (simp; omega))) (by (first | omega | (simp; done) | (simp; omega))) ?_; intro v2 w2 o2 g2; have b2 : Below wr.heap.size wr w2 := b1.grown g2 (by (first | omega | (simp; done) | (simp; omega))) (fun q hq => (o1.block q hq).1); have l2 := b2.size; clear g2 o1))
        | ((refine step_app elemR encY_len encY_one (by rfl) (.tmp 24) (.tmp 26) (by rfl) v1 (.slice (some ⟨wr.heap.size, 0, none⟩) 1 1) (by rfl) (by rfl) (ys := [k]) (base := wr.heap.size) (by exact o1) (by exact e49) (by rw [List.length_append, LX.out]; (first | omega | (simp; done) | (simp; omega))) (by (first | omega | (simp; done) | (simp; omega))) ?_; intro v2 w2 o2 g2; have b2 : Below wr.heap.size wr w2 := b1.grown g2 (by (first | omega | (simp; done) | (simp; omega))) (fun q hq => (o1.block q hq).1); have l2 := b2.size; clear g2 o1))
        | ((refine step_app elemR encY_len encY_one (by rfl) (.tmp 27) (.tmp 30) (by rfl) v2 (.slice none 0 0) (by rfl) (by rfl) (ys := Y) (base := wr.heap.size) (by exact o2) (by exact EY.out.below b2) (by rw [List.length_append, List.length_append, LX.out, LY.out]; (first | omega | (simp; done) | (simp; omega))) (by omega) ?_; intro v3 w3 o3 g3; have b3 : Below wr.heap.size wr w3 := b2.grown g3 (by omega) (fun q hq => (o2.block q hq).1); clear g3 o2)))
      all_goals
        go_wp2
        go_ret
        exact ⟨v3, rfl, by have o4 := o3.base_le hwr; rw [HI.out]; simpa using o4, HB2.out.trans (b3.mono hwr)⟩
    · obtain rfl : L = n := by omega
      obtain rfl : L = cl := by omega
      clear hca hcl hn
      have EX := Lib.hid (show EV encY 3 wr (.slice (some ⟨g, 0, none⟩) L L) X from by
        rw [← HXX.out]; exact EL.out.row_take (by rw [HL.out]; omega) HL.out.symm)
      have EY := Lib.hid (show EV encY 3 wr (.slice (some ⟨g, 0, none⟩) 0 0) Y from by
        have : Y = [] := List.eq_nil_of_length_eq_zero (by have := LY.out; omega)
        rw [this]; exact EV.nil _ _)
      go_wp2_with fail
      go_region_held3 (fun wz => wz.cell? ⟨X0, 0, none⟩ = some (.int .u64 k.v) ∧ wz.cell? ⟨X0, 1, none⟩ = some (.bool k.sp) ∧ wz.cell? ⟨X0, 2, none⟩ = some (.int .i64 k.id)) (first
          | assumption
          | exact ⟨k0, k1, k2⟩
          | exact cells3 ⟨k0, k1, k2⟩ b1
          | exact cells3 ⟨k0, k1, k2⟩ b2
          | exact cells3 ⟨k0, k1, k2⟩ b3
          | exact cells3 (by assumption) (bel_alloc _ _)
          | exact cells3 ⟨k0, k1, k2⟩ (below_drew (bel_alloc _ _))) (first
        | ((refine step_app elemR encY_len encY_one (by rfl) (.tmp 20) (.tmp 23) (by rfl) (.slice (some ⟨wr.heap.size, 0, none⟩) 0 0) (.slice (some ⟨g, 0, none⟩) L L) (by rfl) (by rfl) (xs := []) (ys := X) (base := wr.heap.size) (by exact (ovk0 wr).drew) (by exact EX.out.below (below_drew ((Below.refl _ wr).alloc (Nat.le_refl _) _))) (by rw [LX.out]; (first | omega | (simp; done) | (simp; omega))) (by (first | omega | (simp; done) | (simp; omega))) ?_; intro v1 w1' o1 g1; have b1 : Below wr.heap.size wr w1' := (below_drew ((Below.refl _ wr).alloc (Nat.le_refl _) _)).grown g1 (by (first | omega | (simp; done) | (simp; omega))) (fun q hq => by simp [Value.ownBlock] at hq; omega); have l1 := b1.size; clear g1))
        | ((refine step_app elemR encY_len encY_one (by rfl) (.tmp 20) (.tmp 23) (by rfl) (.slice (some ⟨wr.heap.size, 0, none⟩) 0 0) (.slice (some ⟨g, 0, none⟩) L L) (by rfl) (by rfl) (xs := []) (ys := X) (base := wr.heap.size) (by exact ((ovk0 wr).alloc (.cells #[.int .u64 k.v, .bool k.sp, .int .i64 k.id] 27)).drew) (by exact EX.out.below (below_drew (((Below.refl _ wr).alloc (Nat.le_refl _) _).alloc (by simp) _))) (by rw [LX.out]; (first | omega | (simp; done) | (simp; omega))) (by (first | omega | (simp; done) | (simp; omega))) ?_; intro v1 w1' o1 g1; have b1 : Below wr.heap.size wr w1' := (below_drew (((Below.refl _ wr).alloc (Nat.le_refl _) _).alloc (by simp) _)).grown g1 (by (first | omega | (simp; done) | (simp; omega))) (fun q hq => by simp [Value.ownBlock] at hq; omega); have e49 : EV encY 3 w1' (.slice (some ⟨wr.heap.size + 1, 0, none⟩) 1 1) [k] := EV.grown (newk1 wr _ k).drew_ g1 (by intro b o n c h; simp at h; simp [Value.ownBlock]; omega); have l1 := b1.size; clear g1))
        | ((refine step_app elemR encY_len encY_one (by rfl) (.tmp 20) (.tmp 23) (by rfl) (.slice (some ⟨wr.heap.size + 1, 0, none⟩) 0 0) (.slice (some ⟨g, 0, none⟩) L L) (by rfl) (by rfl) (xs := []) (ys := X) (base := wr.heap.size) (by exact (ovk1 wr _).drew) (by exact EX.out.below (below_drew (((Below.refl _ wr).alloc (Nat.le_refl _) _).alloc (by simp) _))) (by rw [LX.out]; (first | omega | (simp; done) | (simp; omega))) (by (first | omega | (simp; done) | (simp; omega))) ?_; intro v1 w1' o1 g1; have b1 : Below wr.heap.size wr w1' := (below_drew (((Below.refl _ wr).alloc (Nat.le_refl _) _).alloc (by simp) _)).grown g1 (by (first | omega | (simp; done) | (simp; omega))) (fun q hq => by simp [Value.ownBlock] at hq; omega); have e49 : EV encY 3 w1' (.slice (some ⟨wr.heap.size, 0, none⟩) 1 1) [k] := EV.grown (newk0 wr _ k).drew_ g1 (by intro b o n c h; simp at h; simp [Value.ownBlock]; omega); have l1 := b1.size; clear g1))
        | ((refine step_app elemR encY_len encY_one (by rfl) (.tmp 24) (.tmp 26) (by rfl) v1 (.slice (some ⟨w1'.heap.size, 0, none⟩) 1 1) (by rfl) (by rfl) (ys := [k]) (base := wr.heap.size) (by exact o1.alloc _) (by exact newk w1' k) (by rw [List.length_append, LX.out]; (first | omega | (simp; done) | (simp; omega))) (by (first | omega | (simp; done) | (simp; omega))) ?_; intro v2 w2 o2 g2; have b2 : Below wr.heap.size wr w2 := (b1.alloc l1 _).grown g2 (by (first | omega | (simp; done) | (simp; omega))) (fun q hq => (o1.block q hq).1); have l2 := b2.size; clear g2 o1))
        | ((refine step_app elemR encY_len encY_one (by rfl) (.tmp 24) (.tmp 26) (by rfl) v1 (.slice (some ⟨wr.heap.size + 1, 0, none⟩) 1 1) (by rfl) (by rfl) (ys := [k]) (base := wr.heap.size) (by exact o1) (by exact e49) (by rw [List.length_append, LX.out]; (first | omega | (simp; done) | (simp; omega))) (by (first | omega | (simp; done) | (simp; omega))) ?_; intro v2 w2 o2 g2; have b2 : Below wr.heap.size wr w2 := b1.grown g2 (by (first | omega | (simp; done) | (simp; omega))) (fun q hq => (o1.block q hq).1); have l2 := b2.size; clear g2 o1))
        | ((refine step_app elemR encY_len encY_one (by rfl) (.tmp 24) (.tmp 26) (by rfl) v1 (.slice (some ⟨wr.heap.size, 0, none⟩) 1 1) (by rfl) (by rfl) (ys := [k]) (base := wr.heap.size) (by exact o1) (by exact e49) (by rw [List.length_append, LX.out]; (first | omega | (simp; done) | (simp; omega))) (by (first | omega | (simp; done) | (simp; omega))) ?_; intro v2 w2 o2 g2; have b2 : Below wr.heap.size wr w2 := b1.grown g2 (by (first | omega | (simp; done) | (simp; omega))) (fun q hq => (o1.block q hq).1); have l2 := b2.size; clear g2 o1))
        | ((refine step_app elemR encY_len encY_one (by rfl) (.tmp 27) (.tmp 30) (by rfl) v2 (.slice (some ⟨g, 0, none⟩) 0 0) (by rfl) (by rfl) (ys := Y) (base := wr.heap.size) (by exact o2) (by exact EY.out.below b2) (by rw [List.length_append, List.length_append, LX.out, LY.out]; (first | omega | (simp; done) | (simp; omega))) (by omega) ?_; intro v3 w3 o3 g3; have b3 : Below wr.heap.size wr w3 := b2.grown g3 (by omega) (fun q hq => (o2.block q hq).1); clear g3 o2)))
      all_goals
        go_wp2
        go_ret
        exact ⟨v3, rfl, by have o4 := o3.base_le hwr; rw [HI.out]; simpa using o4, HB2.out.trans (b3.mono hwr)⟩
    · have EX := Lib.hid (show EV encY 3 wr (.slice (some ⟨g, 0, none⟩) n cl) X from by
        rw [← HXX.out]; exact EL.out.row_take (by rw [HL.out]; exact hn) HL.out.symm)
      have EY := Lib.hid (show EV encY 3 wr (.slice (some ⟨g, 0 + n * 3, none⟩) (L - n) (cl - n)) Y from by
        rw [← HYY.out]; exact EL.out.row_drop (by rw [HL.out]; exact hn) HL.out.symm)
      rw [Nat.zero_add] at EY
      have hn0 : (0 : Int) ≤ (n : Int) := by omega
      have hn1 : (n : Int) ≤ (L : Int) := by omega
      have hn2 : (n : Int) ≤ (cl : Int) := by omega
      have hn3 : (L : Int) ≤ (cl : Int) := by omega
      go_wp2_with fail
      go_region_held3 (fun wz => wz.cell? ⟨X0, 0, none⟩ = some (.int .u64 k.v) ∧ wz.cell? ⟨X0, 1, none⟩ = some (.bool k.sp) ∧ wz.cell? ⟨X0, 2, none⟩ = some (.int .i64 k.id)) (first
          | assumption
          | exact ⟨k0, k1, k2⟩
          | exact cells3 ⟨k0, k1, k2⟩ b1
          | exact cells3 ⟨k0, k1, k2⟩ b2
          | exact cells3 ⟨k0, k1, k2⟩ b3
          | exact cells3 (by assumption) (bel_alloc _ _)
          | exact cells3 ⟨k0, k1, k2⟩ (below_drew (bel_alloc _ _))) (first
        | ((refine step_app elemR encY_len encY_one (by rfl) (.tmp 20) (.tmp 23) (by rfl) (.slice (some ⟨wr.heap.size, 0, none⟩) 0 0) (.slice (some ⟨g, 0, none⟩) n cl) (by rfl) (by rfl) (xs := []) (ys := X) (base := wr.heap.size) (by exact (ovk0 wr).drew) (by exact EX.out.below (below_drew ((Below.refl _ wr).alloc (Nat.le_refl _) _))) (by rw [LX.out]; (first | omega | (simp; done) | (simp; omega))) (by (first | omega | (simp; done) | (simp; omega))) ?_; intro v1 w1' o1 g1; have b1 : Below wr.heap.size wr w1' := (below_drew ((Below.refl _ wr).alloc (Nat.le_refl _) _)).grown g1 (by (first | omega | (simp; done) | (simp; omega))) (fun q hq => by simp [Value.ownBlock] at hq; omega); have l1 := b1.size; clear g1))
        | ((refine step_app elemR encY_len encY_one (by rfl) (.tmp 20) (.tmp 23) (by rfl) (.slice (some ⟨wr.heap.size, 0, none⟩) 0 0) (.slice (some ⟨g, 0, none⟩) n cl) (by rfl) (by rfl) (xs := []) (ys := X) (base := wr.heap.size) (by exact ((ovk0 wr).alloc (.cells #[.int .u64 k.v, .bool k.sp, .int .i64 k.id] 27)).drew) (by exact EX.out.below (below_drew (((Below.refl _ wr).alloc (Nat.le_refl _) _).alloc (by simp) _))) (by rw [LX.out]; (first | omega | (simp; done) | (simp; omega))) (by (first | omega | (simp; done) | (simp; omega))) ?_; intro v1 w1' o1 g1; have b1 : Below wr.heap.size wr w1' := (below_drew (((Below.refl _ wr).alloc (Nat.le_refl _) _).alloc (by simp) _)).grown g1 (by (first | omega | (simp; done) | (simp; omega))) (fun q hq => by simp [Value.ownBlock] at hq; omega); have e49 : EV encY 3 w1' (.slice (some ⟨wr.heap.size + 1, 0, none⟩) 1 1) [k] := EV.grown (newk1 wr _ k).drew_ g1 (by intro b o n c h; simp at h; simp [Value.ownBlock]; omega); have l1 := b1.size; clear g1))
        | ((refine step_app elemR encY_len encY_one (by rfl) (.tmp 20) (.tmp 23) (by rfl) (.slice (some ⟨wr.heap.size + 1, 0, none⟩) 0 0) (.slice (some ⟨g, 0, none⟩) n cl) (by rfl) (by rfl) (xs := []) (ys := X) (base := wr.heap.size) (by exact (ovk1 wr _).drew) (by exact EX.out.below (below_drew (((Below.refl _ wr).alloc (Nat.le_refl _) _).alloc (by simp) _))) (by rw [LX.out]; (first | omega | (simp; done) | (simp; omega))) (by (first | omega | (simp; done) | (simp; omega))) ?_; intro v1 w1' o1 g1; have b1 : Below wr.heap.size wr w1' := (below_drew (((Below.refl _ wr).alloc (Nat.le_refl _) _).alloc (by simp) _)).grown g1 (by (first | omega | (simp; done) | (simp; omega))) (fun q hq => by simp [Value.ownBlock] at hq; omega); have e49 : EV encY 3 w1' (.slice (some ⟨wr.heap.size, 0, none⟩) 1 1) [k] := EV.grown (newk0 wr _ k).drew_ g1 (by intro b o n c h; simp at h; simp [Value.ownBlock]; omega); have l1 := b1.size; clear g1))
        | ((refine step_app elemR encY_len encY_one (by rfl) (.tmp 24) (.tmp 26) (by rfl) v1 (.slice (some ⟨w1'.heap.size, 0, none⟩) 1 1) (by rfl) (by rfl) (ys := [k]) (base := wr.heap.size) (by exact o1.alloc _) (by exact newk w1' k) (by rw [List.length_append, LX.out]; (first | omega | (simp; done) | (simp; omega))) (by (first | omega | (simp; done) | (simp; omega))) ?_; intro v2 w2 o2 g2; have b2 : Below wr.heap.size wr w2 := (b1.alloc l1 _).grown g2 (by (first | omega | (simp; done) | (simp; omega))) (fun q hq => (o1.block q hq).1); have l2 := b2.size; clear g2 o1))
        | ((refine step_app elemR encY_len encY_one (by rfl) (.tmp 24) (.tmp 26) (by rfl) v1 (.slice (some ⟨wr.heap.size + 1, 0, none⟩) 1 1) (by rfl) (by rfl) (ys := [k]) (base := wr.heap.size) (by exact o1) (by exact e49) (by rw [List.length_append, LX.out]; (first | omega | (simp; done) | (simp; omega))) (by (first | omega | (simp; done) | (simp; omega))) ?_; intro v2 w2 o2 g2; have b2 : Below wr.heap.size wr w2 := b1.grown g2 (by (first | omega | (simp; done) | (simp; omega))) (fun q hq => (o1.block q hq).1); have l2 := b2.size; clear g2 o1))
        | ((refine step_app elemR encY_len encY_one (by rfl) (.tmp 24) (.tmp 26) (by rfl) v1 (.slice (some ⟨wr.heap.size, 0, none⟩) 1 1) (by rfl) (by rfl) (ys := [k]) (base := wr.heap.size) (by exact o1) (by exact e49) (by rw [List.length_append, LX.out]; (first | omega | (simp; done) | (simp; omega))) (by (first | omega | (simp; done) | (simp; omega))) ?_; intro v2 w2 o2 g2; have b2 : Below wr.heap.size wr w2 := b1.grown g2 (by (first | omega | (simp; done) | (simp; omega))) (fun q hq => (o1.block q hq).1); have l2 := b2.size; clear g2 o1))
        | ((refine step_app elemR encY_len encY_one (by rfl) (.tmp 27) (.tmp 30) (by rfl) v2 (.slice (some ⟨g, n * 3, none⟩) (L - n) (cl - n)) (by rfl) (by rfl) (ys := Y) (base := wr.heap.size) (by exact o2) (by exact EY.out.below b2) (by rw [List.length_append, List.length_append, LX.out, LY.out]; (first | omega | (simp; done) | (simp; omega))) (by omega) ?_; intro v3 w3 o3 g3; have b3 : Below wr.heap.size wr w3 := b2.grown g3 (by omega) (fun q hq => (o2.block q hq).1); clear g3 o2)))
      all_goals
        go_wp2
        go_ret
        exact ⟨v3, rfl, by have o4 := o3.base_le hwr; rw [HI.out]; simpa using o4, HB2.out.trans (b3.mono hwr)⟩
end Go.Proofs.Ytenngfkgfdogjaa
namespace Go.Proofs.Ytenngfkgfdogjaa
open Go Go.RowKit Go.Shelf
attribute [local go_sem] Oper.semAt_some

theorem foldl_ins_len : ∀ (l acc : List Ky), (l.foldl insK acc).length = acc.length + l.length
  | [], acc => by simp
  | y :: r, acc => by rw [List.foldl_cons, foldl_ins_len, insK_len, List.length_cons]; omega
theorem foldK_len (l : List Ky) : (foldK l).length = l.length := by unfold foldK; rw [foldl_ins_len]; simp
def chs (s : St) (g : Int) : List Nat := (List.range s.gs.length).filter (childB s.gs g.toNat)
theorem grpK_ch {s : St} {g cpu : Int} (hg : 0 ≤ g) : grpK s g cpu = ((chs s g).filter (fillB s.gs (rdyL s cpu))).map (spKey s cpu) := by
  unfold grpK chs
  rw [List.filter_filter]
  congr 1
  refine List.filter_congr fun x _ => ?_
  unfold isCh childB
  obtain ⟨n, rfl⟩ := Int.eq_ofNat_of_zero_le hg
  rw [Int.toNat_natCast, Bool.and_comm]
  congr 2
theorem chs_len (s : St) (g : Int) : (chs s g).length ≤ s.gs.length := by
  unfold chs; exact Nat.le_trans (List.length_filter_le _ _) (by simp)
theorem chs_lt {s : St} {g : Int} {x : Nat} (h : x ∈ chs s g) : x < s.gs.length := List.mem_range.1 (List.mem_filter.1 h).1
theorem childL_chs {s : St} {g : Int} (hs : Shp s) (h0 : 0 ≤ g) (h1 : g < s.gs.length) : thereZ s.gs [g] = 0 ∧ childL s.gs g = ints (chs s g) := by
  have ht : thereZ s.gs [g] = 0 := there_zero.2 ⟨right_iff.1 hs.right, fun z hz => by simp at hz; subst hz; omega⟩
  exact ⟨ht, if_pos ht⟩
def memJ (s : St) (g cpu : Int) (j : Nat) : List Ky := tksK s g cpu ++ (((chs s g).take j).filter (fillB s.gs (rdyL s cpu))).map (spKey s cpu)
theorem memJ_yes {s : St} {g cpu : Int} {j x : Nat} (h : (chs s g)[j]? = some x) (hf : fillB s.gs (rdyL s cpu) x = true) : memJ s g cpu (j + 1) = memJ s g cpu j ++ [spKey s cpu x] := by
  unfold memJ
  rw [List.take_add_one, h, Option.toList_some, List.filter_append, List.map_append, ← List.append_assoc]; simp [hf]
theorem memJ_no {s : St} {g cpu : Int} {j x : Nat} (h : (chs s g)[j]? = some x) (hf : fillB s.gs (rdyL s cpu) x = false) : memJ s g cpu (j + 1) = memJ s g cpu j := by
  unfold memJ
  rw [List.take_add_one, h, Option.toList_some, List.filter_append]; simp [hf]
theorem memJ_len (s : St) (g cpu : Int) (j : Nat) : (memJ s g cpu j).length ≤ s.ts.length + s.gs.length := by
  unfold memJ
  have h1 := tksK_len s g cpu
  have h2 := List.length_filter_le (fillB s.gs (rdyL s cpu)) ((chs s g).take j)
  have h3 := chs_len s g
  rw [List.length_take] at h2
  rw [List.length_append, List.length_map]; omega
theorem memJ_all {s : St} {g cpu : Int} (hs : Shp s) (hg : 0 ≤ g) : foldK (memJ s g cpu (chs s g).length) = memL s g cpu := by
  rw [memL_fold hs]; unfold memJ; rw [List.take_length, grpK_ch hg]
theorem held8b {w wz wz' : World} {p0 p1 p2 p3 : Addr} {u0 u1 u2 u3 : Value}
    (h : wz.cell? p0 = some u0 ∧ wz.cell? p1 = some u1 ∧ wz.cell? p2 = some u2 ∧ wz.cell? p3 = some u3 ∧ Below w.heap.size w wz) (k : Below wz.heap.size wz wz') :
    wz'.cell? p0 = some u0 ∧ wz'.cell? p1 = some u1 ∧ wz'.cell? p2 = some u2 ∧ wz'.cell? p3 = some u3 ∧ Below w.heap.size w wz' :=
  ⟨below_cell k h.1, below_cell k h.2.1, below_cell k h.2.2.1, below_cell k h.2.2.2.1, below_step h.2.2.2.2 k⟩
set_option maxRecDepth 100000 in
set_option maxHeartbeats 6400000 in
theorem rmembers_t11 (w wc : World) (B : Nat) (c : StC) (s : St) (g : Int) (cn : Nat) (v : Value) {u0 u4 u5 u6 u7 u8 u10 u11 u12 u13 u14 u15 u16 u17 u18 u19 u20 u21 u22 u23 u24 u25 u26 u27 u28 u29 u30 u31 u32 u33 u34 u35 u36 u37 u38 u39 u40 u41 u42 u43 u44 u45 u46 u47 u48 u49 u50 u51 u52 u53 u54 u55 u56 u57 u58 u59 u60 u61 u62 u63 u64 u65 u66 u67 u68 u69 u70 u71 u72 u73 u74 u75 u76 u77 u78 u79 u80 u81 u82 u83 u84 u85 u86 u87 u88 u89 u90 u91 u92 u93 u94 u95 u96 u97 u98 u99 u100 u101 : Value} (h : StAt wc c s) (hB : StBox wc B c s) (hb : Below w.heap.size w wc) (hst : StB s) (hs : Shp s) (hg0 : 0 ≤ g) (hg1 : g < s.gs.length) (hc1 : (cn : Int) < s.n)
    (hv : OV encY 3 27 w.heap.size wc v (foldK (tksK s g cn))) (M : List Ky) (hM : M = memL s g cn) (E : Int) (hE : E = 0) :
    Code.wp Try.prog (tailR Try.f67 11) (bodyPost Try.prog Try.f67 fun e w' => ∃ v, e = .returned (.tuple #[v, .int .i64 E]) ∧ OV encY 3 27 w.heap.size w' v M ∧ Below w.heap.size w w')
      ⟨#[u0, .int .i64 g, .int .i64 cn, .pointer (some ⟨B, 0, none⟩), u4, u5, u6, u7, u8, v, u10, u11, u12, u13, u14, u15, u16, u17, u18, u19, u20, u21, u22, u23, u24, u25, u26, u27, u28, u29, u30, u31, u32, u33, u34, u35, u36, u37, u38, u39, u40, u41, u42, u43, u44, u45, u46, u47, u48, u49, u50, u51, u52, u53, u54, u55, u56, u57, u58, u59, u60, u61, u62, u63, u64, u65, u66, u67, u68, u69, u70, u71, u72, u73, u74, u75, u76, u77, u78, u79, u80, u81, u82, u83, u84, u85, u86, u87, u88, u89, u90, u91, u92, u93, u94, u95, u96, u97, u98, u99, u100, u101], []⟩ wc := by
  conv => arg 2; whnf
  conv => arg 4; dsimp only
  have hgl := (right_iff.1 hs.right).many
  have hsl := hs.len
  have FI := Lib.hid (fun W (x : Nat) (hW : StAt W c s) (hx : x < s.gs.length) => by
    have hz : chkE s x cn = 0 := chk_zero.2 ⟨hs, by omega, by omega, hc1⟩
    have := rfilled_ok W c s x cn hW hst
    rw [hz, filE_pos hz, Int.toNat_natCast] at this
    exact this : ∀ W (x : Nat), StAt W c s → x < s.gs.length → Calls Try.prog 66 #[c.val s, .int .i64 x, .int .i64 cn] W fun e w' => e = .returned (.tuple #[.bool (fillB s.gs (rdyL s (cn : Int)) x), .int .i64 0]) ∧ Below W.heap.size W w')
  have CC' := show c.cells s = #[.int .i64 s.n, .int .u64 s.cr, c.vg, c.vc, c.vu, c.vt, c.vs] from rfl
  unfold StC.val at FI
  simp only [CC'] at FI
  clear CC'
  have CH := Lib.hid (rchildren_ok wc c.vg s.gs g h.eg (by omega))
  obtain ⟨ht, hcl⟩ := childL_chs hs hg0 hg1
  rw [ht, hcl] at CH
  have HSA := Lib.hid h
  have HBX := Lib.hid hB
  have HB := Lib.hid hb
  have HV := Lib.hid hv
  have HS := Lib.hid hs
  have HMM := Lib.hid hM
  have HEE := Lib.hid hE
  clear hM hE
  have hss := hs.ss
  have hsz := hb.size
  obtain ⟨b0, b1, b2, b3, b4, b5, b6⟩ := hB.cell
  clear ht hcl h hB hb hv hs hst
  go_wp2_with fail
  refine CH.out.mono ?_
  rintro e w2 ⟨r, rfl, o2, bb⟩
  have HB2 := Lib.hid bb
  have hs2 := bb.size
  have HO := Lib.hid (o2.ev encI_len)
  obtain ⟨Ac, cc, rfl⟩ := HO.out.shape
  obtain ⟨C, hC⟩ : ∃ C, (chs s g).length = C := ⟨_, rfl⟩
  have hCL : (ints (chs s g)).length = C := by rw [← hC]; simp [ints]
  have hCG : C ≤ s.gs.length := by rw [← hC]; exact chs_len s g
  rw [hCL] at HO ⊢
  have HC := Lib.hid hC
  have HCL := Lib.hid hCL
  clear CH b0 b1 b2 b3 b4 b5 b6 o2 bb hC hCL
  go_wp2
  go_loopg [9, 14] C (fun k v i wr => ∃ j : Nat, j + k = C ∧ i = .int .i64 j ∧ OV encY 3 27 w.heap.size wr v (foldK (memJ s g cn j)) ∧ Below w2.heap.size w2 wr)
  case atStart => exact ⟨0, by omega, rfl, by have := HV.out.below HB2.out; simpa [memJ] using this, Below.refl _ _⟩
  case round =>
    obtain ⟨j, hj, rfl, hv, hbr⟩ := hrel
    have HJ := Lib.hid hj
    have HV2 := Lib.hid hv
    have HBR := Lib.hid (below_step HB2.out hbr)
    have HBR2 := Lib.hid hbr
    have hszr := hbr.size
    clear hj hv
    by_cases hlt : j < C
    · have hd : decide ((j : Int) < (C : Int)) = true := by rw [decide_eq_true_eq]; omega
      obtain ⟨x, hx⟩ : ∃ x, (chs s g)[j]? = some x := ⟨_, List.getElem?_eq_getElem (by rw [HC.out]; omega)⟩
      obtain ⟨bc, oc, c', hv', _, hr⟩ := (HO.out.below hbr).row (by rw [HCL.out]; omega)
      rw [HCL.out] at hv'
      simp only [Value.slice.injEq] at hv'
      obtain ⟨rfl, hz, rfl⟩ := hv'
      clear hz
      have cx := hr.int (i := j) (by rw [HCL.out]; omega)
      rw [show (ints (chs s g))[j]?.getD 0 = (x : Int) by simp [ints, hx]] at cx
      have hxg := chs_lt (List.mem_of_getElem? hx)
      have HX := Lib.hid hx
      obtain ⟨b0, b1, b2, b3, b4, b5, b6⟩ := (HBX.out.below HBR.out).cell
      have SAR := Lib.hid (HSA.out.below HBR.out)
      have SA9 := Lib.hid (fun (wz : World) (hq : wz.cell? ⟨B, 0, none⟩ = some (.int .i64 s.n) ∧ wz.cell? ⟨B, 1, none⟩ = some (.int .u64 s.cr) ∧ wz.cell? ⟨B, 2, none⟩ = some c.vg ∧ wz.cell? ⟨B, 3, none⟩ = some c.vc ∧ wz.cell? ⟨B, 4, none⟩ = some c.vu ∧ wz.cell? ⟨B, 5, none⟩ = some c.vt ∧ wz.cell? ⟨B, 6, none⟩ = some c.vs ∧ wz.cell? ⟨bc, oc + j, none⟩ = some (.int .i64 x) ∧ Below wr.heap.size wr wz) => SAR.out.below hq.2.2.2.2.2.2.2.2)
      clear hx hr hbr
      go_wp2_with fail
      go_region_held3 (fun wz => wz.cell? ⟨B, 0, none⟩ = some (.int .i64 s.n) ∧ wz.cell? ⟨B, 1, none⟩ = some (.int .u64 s.cr) ∧ wz.cell? ⟨B, 2, none⟩ = some c.vg ∧ wz.cell? ⟨B, 3, none⟩ = some c.vc ∧ wz.cell? ⟨B, 4, none⟩ = some c.vu ∧ wz.cell? ⟨B, 5, none⟩ = some c.vt ∧ wz.cell? ⟨B, 6, none⟩ = some c.vs ∧ wz.cell? ⟨bc, oc + j, none⟩ = some (.int .i64 x) ∧ Below wr.heap.size wr wz)
        (first
          | exact held8 (by assumption) hbz
          | assumption
          | exact ⟨b0, b1, b2, b3, b4, b5, b6, cx, below_drew (Below.refl _ _)⟩)
        ((go_at_call 66; refine (FI.out _ x (SA9.out _ (by assumption)) hxg).mono ?_; rintro e wz ⟨rfl, hbz⟩))
      all_goals
        rename_i wz hh
        have HBZ := Lib.hid hh.2.2.2.2.2.2.2.2
        have cx := hh.2.2.2.2.2.2.2.1
        have d6 := hh.2.2.2.2.2.2.1
        have SAZ := Lib.hid (SAR.out.below HBZ.out)
        have BXZ := Lib.hid (below_step HBR.out HBZ.out)
        have hsz2 := BXZ.out.size
        clear hh b0 b1 b2 b3 b4 b5 b6 SA9
        cases hf : fillB s.gs (rdyL s (cn : Int)) x with
        | false =>
          have X := Lib.hid (memJ_no HX.out hf)
          have HV3 := Lib.hid ((HV2.out.below HBZ.out))
          clear hf d6 cx
          go_wp2
          go_roundg (gk - 1)
          case measure => have := HJ.out; omega
          case rel => exact ⟨j + 1, by have := HJ.out; omega, by go_num, by rw [X.out]; exact HV3.out, HBR2.out.trans (HBZ.out.mono hszr)⟩
        | true =>
          have X := Lib.hid (memJ_yes HX.out hf)
          clear hf
          obtain ⟨y, hy⟩ : ∃ y, s.ss[x]? = some y := ⟨_, List.getElem?_eq_getElem (by omega)⟩
          obtain ⟨bs, os, cs, hvs, _, hrs⟩ := SAZ.out.es.1.row (by omega)
          have cy := hrs x y hy 0 _ rfl
          simp only [Nat.mul_one, Nat.add_zero] at cy
          rw [hvs, hss] at d6
          have hrow := HS.out.row y (List.mem_of_getElem? hy)
          obtain ⟨by', oy, cyc, hvy, _, hry⟩ := (SAZ.out.es.2 y (List.mem_of_getElem? hy)).row (by omega)
          rw [hvy] at cy
          obtain ⟨sp, hsp⟩ : ∃ sp, y.2[cn]? = some sp := ⟨_, List.getElem?_eq_getElem (by omega)⟩
          have csp := (hry.sp hsp).1
          have HK := Lib.hid (show spKey s (cn : Int) x = ⟨sp.v, true, x⟩ by unfold spKey spotV; rw [hy]; simp [hsp])
          have hyn : (y.2.length : Int) = s.n := hrow
          obtain ⟨N, hN⟩ : ∃ N, y.2.length = N := ⟨_, rfl⟩
          rw [hN] at cy hyn
          have hcN : cn < N := by omega
          have HV3 := Lib.hid (HV2.out.below HBZ.out)
          have PU := Lib.hid (fun (wq : World) (hq : wq.cell? ⟨B, 6, none⟩ = some (.slice (some ⟨bs, os, none⟩) s.gs.length cs) ∧ wq.cell? ⟨bc, oc + j, none⟩ = some (.int .i64 x) ∧ wq.cell? ⟨bs, os + x, none⟩ = some (.slice (some ⟨by', oy, none⟩) N cyc) ∧ wq.cell? ⟨by', oy + cn * 3, none⟩ = some (.int .u64 sp.v) ∧ Below wz.heap.size wz wq) => put_ok wq _ (foldK (memJ s g cn j)) ⟨sp.v, true, x⟩ w.heap.size (HV3.out.below hq.2.2.2.2) (by rw [foldK_len]; have := memJ_len s g cn j; omega))
          have SZ := Lib.hid (fun (wq : World) (hq : wq.cell? ⟨B, 6, none⟩ = some (.slice (some ⟨bs, os, none⟩) s.gs.length cs) ∧ wq.cell? ⟨bc, oc + j, none⟩ = some (.int .i64 x) ∧ wq.cell? ⟨bs, os + x, none⟩ = some (.slice (some ⟨by', oy, none⟩) N cyc) ∧ wq.cell? ⟨by', oy + cn * 3, none⟩ = some (.int .u64 sp.v) ∧ Below wz.heap.size wz wq) => Nat.le_trans hsz (Nat.le_trans hsz2 hq.2.2.2.2.size))
          clear hrs hry hy hvs hvy hrow hsp hN
          go_wp2_with fail
          go_region_held3 (fun wq => wq.cell? ⟨B, 6, none⟩ = some (.slice (some ⟨bs, os, none⟩) s.gs.length cs) ∧ wq.cell? ⟨bc, oc + j, none⟩ = some (.int .i64 x) ∧ wq.cell? ⟨bs, os + x, none⟩ = some (.slice (some ⟨by', oy, none⟩) N cyc) ∧ wq.cell? ⟨by', oy + cn * 3, none⟩ = some (.int .u64 sp.v) ∧ Below wz.heap.size wz wq)
            (first
              | exact held8b (by assumption) hbq
              | assumption
              | exact ⟨d6, cx, cy, csp, below_drew (Below.refl _ _)⟩)
            ((go_at_call 97; refine (PU.out _ (by assumption)).mono ?_; rintro e wq ⟨v', rfl, o', hbq⟩; replace o' := o'.base_le (SZ.out _ (by assumption))))
          all_goals
            rename_i wq hh
            have HBQ := Lib.hid hh.2.2.2.2
            have HOQ := Lib.hid o'
            clear hh o' hbq d6 cx cy csp
            go_wp2
            go_roundg (gk - 1)
            case measure => have := HJ.out; omega
            case rel => exact ⟨j + 1, by have := HJ.out; omega, by go_num, by rw [X.out, foldK_snoc, HK.out]; exact HOQ.out, HBR2.out.trans ((HBZ.out.trans (HBQ.out.mono HBZ.out.size)).mono hszr)⟩
    · obtain rfl : j = C := by have := HJ.out; omega
      have hd : decide ((j : Int) < (j : Int)) = false := by simp
      clear hbr
      go_wp2
      go_ret2
      exact ⟨_, ret_vi HEE.out.symm, by rw [HMM.out, ← memJ_all HS.out hg0, HC.out]; exact HV2.out, HB.out.trans (HBR.out.mono hsz)⟩
def tkJ (s : St) (g cpu : Int) (j : Nat) : List Ky := ((s.ts.take j).filter fun t => rdyB cpu t && decide (t.g = g)).map tkKey
theorem tkJ_all {s : St} {g cpu : Int} : tkJ s g cpu s.ts.length = tksK s g cpu := by
  unfold tkJ tksK rdyL
  rw [List.take_length, List.filter_filter]
  congr 1
  refine List.filter_congr fun x _ => Bool.and_comm ..
theorem tkJ_yes {s : St} {g cpu : Int} {j : Nat} {t : Tk} (h : s.ts[j]? = some t) (h1 : rdyB cpu t = true) (h2 : t.g = g) : tkJ s g cpu (j + 1) = tkJ s g cpu j ++ [tkKey t] := by
  unfold tkJ
  rw [ftake_pos h (by simp [h1, h2]), List.map_append]; rfl
theorem tkJ_no {s : St} {g cpu : Int} {j : Nat} {t : Tk} (h : s.ts[j]? = some t) (h1 : (rdyB cpu t && decide (t.g = g)) = false) : tkJ s g cpu (j + 1) = tkJ s g cpu j := by
  unfold tkJ
  rw [ftake_neg h h1]
theorem tkJ_len (s : St) (g cpu : Int) (j : Nat) : (tkJ s g cpu j).length ≤ s.ts.length := by
  unfold tkJ
  rw [List.length_map]
  refine Nat.le_trans (List.length_filter_le _ _) ?_
  rw [List.length_take]; omega
set_option maxRecDepth 100000 in
set_option maxHeartbeats 6400000 in
theorem rmembers_ok (w : World) (c : StC) (s : St) (g cpu : Int) (h : StAt w c s) (hb : StB s) :
    Calls Try.prog 67 #[c.val s, .int .i64 g, .int .i64 cpu] w fun e w' => ∃ v, e = .returned (.tuple #[v, .int .i64 (chkE s g cpu)]) ∧ OV encY 3 27 w.heap.size w' v (memE s g cpu) ∧ Below w.heap.size w w' := by
  have HSB := Lib.hid hb
  have CC := Lib.hid (show c.cells s = #[.int .i64 s.n, .int .u64 s.cr, c.vg, c.vc, c.vu, c.vt, c.vs] from rfl)
  have a1 := bel_alloc w (.cells (c.cells s) 38)
  have BX := StBox.new w c s
  have CK := Lib.hid (rwrong_ok (w.alloc (.cells (c.cells s) 38)) c s g cpu (h.below a1) hb)
  have F : Facts (w.alloc (.cells (c.cells s) 38)) [sSA c s, sSB w.heap.size c s, sB w] := ⟨h.below a1, BX, a1, trivial⟩
  unfold StC.val at CK ⊢
  simp only [CC.out] at CK F ⊢
  clear h a1 BX
  go_enter Try.func67, Try.ntmps67
  go_upto_region 1 with fail
  generalize w.alloc (.cells #[.int .i64 s.n, .int .u64 s.cr, c.vg, c.vc, c.vu, c.vt, c.vs] 38) = w1 at F CK ⊢
  obtain ⟨X0, hX0⟩ : ∃ X0, w.heap.size = X0 := ⟨_, rfl⟩
  rw [hX0] at F
  simp only [hX0]
  have HX0 := Lib.hid hX0
  clear hX0
  obtain ⟨b0, b1, b2, b3, b4, b5, b6⟩ := (F.get 1 : StBox w1 X0 c s).cell
  go_wp2_with fail
  refine CK.out.mono ?_
  rintro e w2 ⟨rfl, bb⟩
  replace F := F.below bb
  clear bb CK b0 b1 b2 b3 b4 b5 b6
  by_cases hz : chkE s g cpu = 0
  · have hsl := (chk_zero.1 hz).1.len
    have HSH := Lib.hid (chk_zero.1 hz).1
    obtain ⟨⟨hg0, hg1⟩, hc0, hc1⟩ := (chk_zero.1 hz).2
    obtain ⟨cn, rfl⟩ := Int.eq_ofNat_of_zero_le hc0
    have HEQ := Lib.hid (memE_pos hz)
    generalize hE : chkE s g cn = E at hz ⊢
    subst hz
    have HE := Lib.hid hE
    clear hE
    obtain ⟨At, ct, hvt⟩ := (F.get 0 : StAt w2 c s).et.shape
    have HT := Lib.hid (F.get 0 : StAt w2 c s).et
    have HSA := Lib.hid (F.get 0 : StAt w2 c s)
    have HBX := Lib.hid (F.get 1 : StBox w2 X0 c s)
    have HBW := Lib.hid (F.get 2 : Below w.heap.size w w2)
    have hw2 := HBW.out.size
    obtain ⟨L, hL⟩ : ∃ L, s.ts.length = L := ⟨_, rfl⟩
    have HL := Lib.hid hL
    rw [hL] at hvt
    have HVT := Lib.hid hvt
    have hLb : L ≤ 65535 := by omega
    clear hL hvt F
    go_upto_block 0 with fail
    go_cut [9] (fun v wx => OV encY 3 27 w.heap.size wx v (foldK (tksK s g cn)) ∧ Below w2.heap.size w2 wx)
    case first =>
      go_wp2
      go_loopg [9, 10] L (fun k v i wr => ∃ j : Nat, j + k = L ∧ i = .int .i64 j ∧ OV encY 3 27 w.heap.size wr v (foldK (tkJ s g cn j)) ∧ Below w2.heap.size w2 wr)
      case atStart => exact ⟨0, by omega, rfl, OV.nil _ _, Below.refl _ _⟩
      case round =>
      obtain ⟨j, hj, rfl, hv, hbr⟩ := hrel
      have HV2 := Lib.hid hv
      clear hv
      have HJ := Lib.hid hj
      have HBR := Lib.hid hbr
      have sr := hbr.size
      obtain ⟨_, _, _, _, _, b5, _⟩ := (HBX.out.below hbr).cell
      rw [HVT.out] at b5
      clear hj hbr
      by_cases hlt : j < L
      case neg =>
        have hd : decide ((j : Int) < (L : Int)) = false := by rw [decide_eq_false_iff_not]; omega
        have X := Lib.hid (show tksK s g cn = tkJ s g cn j by rw [show j = s.ts.length by rw [HL.out]; have := HJ.out; omega]; exact tkJ_all.symm)
        go_wp2
        go_meet
        exact ⟨by rw [X.out]; exact HV2.out, HBR.out⟩
      have hd : decide ((j : Int) < (L : Int)) = true := by rw [decide_eq_true_eq]; omega
      obtain ⟨t, ht⟩ : ∃ t, s.ts[j]? = some t := ⟨_, List.getElem?_eq_getElem (by rw [HL.out]; omega)⟩
      obtain ⟨b, off, c', hv, _, hr⟩ := (HT.out.below HBR.out).row (by rw [HL.out]; omega)
      rw [HVT.out] at hv
      simp only [Value.slice.injEq] at hv
      obtain ⟨rfl, hz, rfl⟩ := hv
      clear hz
      obtain ⟨c0, c1, c2, c3, c4, c5, c6, c7⟩ := hr.tk ht
      have HTT := Lib.hid ht
      clear hr ht
      go_upto_region 9 with fail
      obtain ⟨d0, d1, d2, d3, d4, d5, d6, d7⟩ := (show ER encT 8 (wr.alloc (.cells #[.int .i64 t.id, .int .i64 t.g, .int .i64 t.wt, .int .i64 t.cpu, .int .u64 t.mask, .bool t.rdy, .int .u64 t.v, .int .u32 t.r] 61)) wr.heap.size 0 [t] from ((EV.newL (xs := [t]) (n := 1) (c := 1) encT_len rfl rfl (Nat.le_refl _)).row3 (by simp))).tk (i := 0) rfl
      simp only [Nat.zero_mul, Nat.zero_add] at d0 d1 d2 d3 d4 d5 d6 d7
      have HBA := Lib.hid (bel_alloc wr (.cells #[.int .i64 t.id, .int .i64 t.g, .int .i64 t.wt, .int .i64 t.cpu, .int .u64 t.mask, .bool t.rdy, .int .u64 t.v, .int .u32 t.r] 61))
      have HB2 := Lib.hid (below_step HBR.out HBA.out)
      obtain ⟨e0, e1, e2, e3, e4, e5, e6⟩ := (HBX.out.below HB2.out).cell
      have SA := Lib.hid (HSA.out.below HB2.out)
      clear b5 c0 c1 c2 c3 c4 c5 c6 c7
      generalize wr.alloc (.cells #[.int .i64 t.id, .int .i64 t.g, .int .i64 t.wt, .int .i64 t.cpu, .int .u64 t.mask, .bool t.rdy, .int .u64 t.v, .int .u32 t.r] 61) = wa at d0 d1 d2 d3 d4 d5 d6 d7 HB2 HBA e0 e1 e2 e3 e4 e5 e6 SA ⊢
      obtain ⟨P, hP⟩ : ∃ P, wr.heap.size = P := ⟨_, rfl⟩
      rw [hP] at d0 d1 d2 d3 d4 d5 d6 d7 ⊢
      clear hP
      cases hrd : t.rdy with
      | false =>
        rw [hrd] at d5
        have X := Lib.hid (tkJ_no (g := g) (cpu := cn) HTT.out (by simp [rdyB, hrd]))
        clear hrd
        go_wp2
        go_roundg (gk - 1)
        case measure => have := HJ.out; omega
        case rel => exact ⟨j + 1, by have := HJ.out; omega, by go_num, by rw [X.out]; exact HV2.out.below HBA.out, HB2.out⟩
      | true =>
        rw [hrd] at d5
        by_cases hc : t.cpu = (cn : Int)
        · have hcq : (t.cpu == (cn : Int)) = true := by simp [hc]
          by_cases hgq : t.g = g
          · have hgq' : (t.g == g) = true := by simp [hgq]
            have X := Lib.hid (tkJ_yes (g := g) (cpu := cn) HTT.out (by simp [rdyB, hrd, hc]) hgq)
            have PU := Lib.hid (put_ok wa _ (foldK (tkJ s g cn j)) ⟨t.v, false, t.id⟩ w.heap.size (HV2.out.below HBA.out) (by rw [foldK_len]; have := tkJ_len s g cn j; rw [HL.out] at this; omega))
            have hwa := HB2.out.size
            clear hrd hc hgq
            go_wp2_with fail
            refine PU.out.mono ?_
            rintro e w4 ⟨v', rfl, o', bb⟩
            have HB4 := Lib.hid (HB2.out.trans (bb.mono hwa))
            have HO4 := Lib.hid (o'.base_le (Nat.le_trans hw2 hwa))
            clear o' bb d0 d1 d2 d3 d4 d5 d6 d7 e0 e1 e2 e3 e4 e5 e6
            go_wp2
            go_roundg (gk - 1)
            case measure => have := HJ.out; omega
            case rel => exact ⟨j + 1, by have := HJ.out; omega, by go_num, by rw [X.out, foldK_snoc]; exact HO4.out, HB4.out⟩
          · have hgq' : (t.g == g) = false := by simp [hgq]
            have X := Lib.hid (tkJ_no (g := g) (cpu := cn) HTT.out (by simp [hgq]))
            clear hrd hc hgq
            go_wp2
            go_roundg (gk - 1)
            case measure => have := HJ.out; omega
            case rel => exact ⟨j + 1, by have := HJ.out; omega, by go_num, by rw [X.out]; exact HV2.out.below HBA.out, HB2.out⟩
        · have hcq : (t.cpu == (cn : Int)) = false := by simp [hc]
          have X := Lib.hid (tkJ_no (g := g) (cpu := cn) HTT.out (by simp [rdyB, hc]))
          clear hrd hc
          go_wp2
          go_roundg (gk - 1)
          case measure => have := HJ.out; omega
          case rel => exact ⟨j + 1, by have := HJ.out; omega, by go_num, by rw [X.out]; exact HV2.out.below HBA.out, HB2.out⟩
    case rest =>
      obtain ⟨hv, hb2⟩ := hcut
      refine (‹∀ (a : Act) (w : World), Code.wp _ _ _ a w → _› : ∀ (a : Act) (w : World), _ → _) _ _ ?_
      exact rmembers_t11 w wc X0 c s g cn _ (HSA.out.below hb2) (HBX.out.below hb2) (HBW.out.trans (hb2.mono hw2)) HSB.out HSH.out hg0 hg1 hc1 hv _ HEQ.out _ HE.out
  · have HZ := Lib.hid hz
    have hd : (chkE s g cpu != 0) = true := by simp [hz]
    have HM := Lib.hid (memE_neg hz)
    have hfin := Lib.hid (F.get 2 : Below w.heap.size w w2)
    clear hz F
    generalize hE : chkE s g cpu = E at HZ hd ⊢
    have HE := Lib.hid hE
    clear hE
    go_wp2
    go_ret2
    exact ⟨_, ret_vi HE.out.symm, by rw [HM.out]; exact OV.nil _ _, hfin.out⟩
end Go.Proofs.Ytenngfkgfdogjaa
namespace Go.Proofs.Ytenngfkgfdogjaa
open Go Go.RowKit Go.Shelf
attribute [local go_sem] Oper.semAt_some

theorem rmem_at {c : StC} {s : St} {cpu : Int} (hz : chkE s 0 cpu = 0) (hb : StB s) (W : World) (g : Int) (hW : StAt W c s) (h0 : 0 ≤ g) (h1 : g < s.gs.length) :
    Calls Try.prog 67 #[c.val s, .int .i64 g, .int .i64 cpu] W fun e w' => ∃ v, e = .returned (.tuple #[v, .int .i64 0]) ∧ OV encY 3 27 W.heap.size w' v (memL s g cpu) ∧ Below W.heap.size W w' := by
  have hz2 : chkE s g cpu = 0 := by
    obtain ⟨a, _, b⟩ := chk_zero.1 hz
    exact chk_zero.2 ⟨a, ⟨h0, h1⟩, b⟩
  have := rmembers_ok W c s g cpu hW hb
  rwa [hz2, memE_pos hz2] at this
set_option maxRecDepth 100000 in
set_option maxHeartbeats 6400000 in
theorem rwalk_ok (w : World) (c : StC) (s : St) (cpu : Int) (h : StAt w c s) (hb : StB s) :
    Calls Try.prog 68 #[c.val s, .int .i64 cpu] w fun e w' => ∃ v, e = .returned (.tuple #[v, .int .i64 (chkE s 0 cpu)]) ∧ OV encY 3 27 w.heap.size w' v (walE s cpu) ∧ Below w.heap.size w w' := by
  have RM := Lib.hid (fun (hz : chkE s 0 cpu = 0) => rmem_at (c := c) hz hb)
  have CC' := show c.cells s = #[.int .i64 s.n, .int .u64 s.cr, c.vg, c.vc, c.vu, c.vt, c.vs] from rfl
  unfold StC.val at RM
  simp only [CC'] at RM
  clear CC'
  have CC := Lib.hid (show c.cells s = #[.int .i64 s.n, .int .u64 s.cr, c.vg, c.vc, c.vu, c.vt, c.vs] from rfl)
  have a1 := bel_alloc w (.cells (c.cells s) 38)
  have BX := StBox.new w c s
  have CK := Lib.hid (rwrong_ok (w.alloc (.cells (c.cells s) 38)) c s 0 cpu (h.below a1) hb)
  have F : Facts (w.alloc (.cells (c.cells s) 38)) [sSA c s, sSB w.heap.size c s, sB w] := ⟨h.below a1, BX, a1, trivial⟩
  unfold StC.val at CK ⊢
  simp only [CC.out] at CK F ⊢
  clear h a1 BX
  go_enter Try.func68, Try.ntmps68
  go_upto_region 1 with fail
  generalize w.alloc (.cells #[.int .i64 s.n, .int .u64 s.cr, c.vg, c.vc, c.vu, c.vt, c.vs] 38) = w1 at F CK ⊢
  obtain ⟨X0, hX0⟩ : ∃ X0, w.heap.size = X0 := ⟨_, rfl⟩
  rw [hX0] at F
  simp only [hX0]
  have HX0 := Lib.hid hX0
  clear hX0
  obtain ⟨b0, b1, b2, b3, b4, b5, b6⟩ := (F.get 1 : StBox w1 X0 c s).cell
  go_wp2_with fail
  refine CK.out.mono ?_
  rintro e w2 ⟨rfl, bb⟩
  replace F := F.below bb
  clear bb CK b0 b1 b2 b3 b4 b5 b6
  by_cases hz : chkE s 0 cpu = 0
  · have RM2 := Lib.hid (RM.out hz)
    have HSH := Lib.hid (chk_zero.1 hz).1
    have HEQ := Lib.hid (walE_pos hz)
    have hgl := (right_iff.1 HSH.out.right).many
    have hsl := HSH.out.len
    have hpos := (right_iff.1 HSH.out.right).pos
    generalize hE : chkE s 0 cpu = E at hz ⊢
    subst hz
    have HE := Lib.hid hE
    have HF := Lib.hid F
    have hw2 := (F.get 2 : Below w.heap.size w w2).size
    clear hE RM F
    go_wp2
    go_loopg [7, 8] (s.gs.length + 1) (fun gk v i wr => ∃ (pre : List Ky) (g : Int), i = .int .i64 g ∧ 0 ≤ g ∧ g < s.gs.length ∧ pre.length + gk ≤ s.gs.length + 1 ∧ (s.gs.length : Int) + 1 ≤ gk + g ∧ OV encY 3 27 w2.heap.size wr v pre ∧ Below w2.heap.size w2 wr ∧ pre ++ walkF s cpu gk g = walE s cpu)
    case atStart => exact ⟨[], 0, rfl, by omega, by omega, by simp, by omega, OV.nil _ _, Below.refl _ _, by rw [HEQ.out]; rfl⟩
    case round =>
      obtain ⟨pre, g, rfl, hg0, hg1, hpl, hst, hv, hbr, he⟩ := hrel
      obtain ⟨f, rfl⟩ : ∃ f, gk = f + 1 := ⟨gk - 1, by omega⟩
      rw [walkF_succ] at he
      have HV := Lib.hid hv
      have HBR := Lib.hid hbr
      have HEE := Lib.hid he
      have FR := Lib.hid (HF.out.below hbr)
      have hszr := hbr.size
      obtain ⟨b0, b1, b2, b3, b4, b5, b6⟩ := (FR.out.get 1 : StBox wr X0 c s).cell
      clear hv hbr he
      go_wp2_with fail
      refine (RM2.out wr g (FR.out.get 0) hg0 hg1).mono ?_
      rintro e w3 ⟨r, rfl, o3, bb⟩
      have HB3 := Lib.hid (HBR.out.trans (bb.mono hszr))
      have HV3 := Lib.hid (HV.out.below bb)
      have HW3 := Lib.hid (HF.out.below HB3.out)
      have hs3 := HB3.out.size
      have HLE := Lib.hid (o3.ev encY_len)
      have HVB := Lib.hid (fun q hq => (HV.out.block q hq).2)
      have HRB := Lib.hid (fun q hq => (o3.block q hq).1)
      clear o3 bb b0 b1 b2 b3 b4 b5 b6 HV
      cases hm : memL s g cpu with
      | nil =>
        rw [hm] at HLE HEE
        obtain ⟨A, cl, rfl⟩ := HLE.out.shape
        have X := Lib.hid (show pre = walE s cpu by rw [← HEE.out]; simp [nextW])
        clear hm HLE HEE
        go_wp2
        go_ret2
        exact ⟨_, ret_vi HE.out.symm, by rw [← X.out]; exact HV3.out.base_le hw2, (HW3.out.get 2 : Below w.heap.size w w3)⟩
      | cons k L =>
        have HM := Lib.hid (fun hs => mem_memL (s := s) (g := g) (cpu := cpu) (k := k) (by rw [hm]; exact List.mem_cons_self ..) hs)
        rw [hm] at HLE HEE
        obtain ⟨bl, ol, cl, rfl, hcl, hrl⟩ := HLE.out.row (by simp)
        obtain ⟨k0, k1, k2⟩ := hrl.ky (i := 0) rfl
        simp only [Nat.zero_mul, Nat.add_zero] at k0 k1 k2
        have HRT := Lib.hid (EV.newL (w := w3) (e := 27) (xs := [k]) (n := 1) (c := 1) (cs := #[.int .u64 k.v, .bool k.sp, .int .i64 k.id]) encY_len rfl rfl (Nat.le_refl _))
        have HRL := Lib.hid hrl
        clear hm hrl
        go_wp2_with (at_builtin; refine wpList_app elemR encY_len encY_one rfl (.tmp 28) (.tmp 32) rfl _ _ rfl rfl (HV3.out.alloc _) HRT.out ?q1 ?q2 ?_)
        case q1 => rw [List.length_singleton]; omega
        case q2 => simp; omega
        intro v9 w9 o9 g9
        have HB4 := Lib.hid ((HB3.out.trans ((bel_alloc w3 (.cells #[.int .u64 k.v, .bool k.sp, .int .i64 k.id] 27)).mono hs3)).grown g9 (by simp; omega) (fun q hq => (HV3.out.block q hq).1))
        have HO9 := Lib.hid o9
        have HL9 := Lib.hid (EV.grown ((EV.mk (xs := k :: L) (c := cl) HRL.out (by assumption)).below (bel_alloc w3 (.cells #[.int .u64 k.v, .bool k.sp, .int .i64 k.id] 27))) g9 (fun b o n c hv hq => by
          injection hv with hv _ _
          injection hv with hv
          injection hv with hv _ _
          have h1 := HRB.out bl rfl
          have h2 := HVB.out b hq
          omega))
        obtain ⟨j0, j1, j2⟩ := (HL9.out.row3 (by simp)).ky (i := 0) rfl
        simp only [Nat.zero_mul, Nat.add_zero] at j0 j1 j2
        have HW9 := Lib.hid (HF.out.below HB4.out)
        clear o9 g9 k0 k1 k2 HL9 HRT HRL HLE
        cases hks : k.sp with
        | false =>
          rw [hks] at j1
          have X := Lib.hid (show pre ++ [k] = walE s cpu by rw [← HEE.out, nextW_task hks])
          clear HEE hks
          go_wp2
          go_ret2
          exact ⟨_, ret_vi HE.out.symm, by rw [← X.out]; exact HO9.out.base_le hw2, (HW9.out.get 2 : Below w.heap.size w w9)⟩
        | true =>
          rw [hks] at j1
          obtain ⟨x, hx1, hx2, hx3, hx4⟩ := HM.out hks
          obtain ⟨_, hpar, _⟩ := (right_iff.1 HSH.out.right).each x hx2 hx3
          have X := Lib.hid (show (pre ++ [k]) ++ walkF s cpu f k.id = walE s cpu by rw [← HEE.out]; unfold nextW; simp [hks])
          rw [hx1] at X
          clear HEE hks
          go_wp2
          go_roundg f
          case measure => omega
          case rel => exact ⟨pre ++ [k], x, rfl, by omega, by omega, by rw [List.length_append, List.length_singleton]; omega, by omega, HO9.out, HB4.out, X.out⟩
  · have HZ := Lib.hid hz
    have hd : (chkE s 0 cpu != 0) = true := by simp [hz]
    have HM := Lib.hid (walE_neg hz)
    have hfin := Lib.hid (F.get 2 : Below w.heap.size w w2)
    clear hz F
    generalize hE : chkE s 0 cpu = E at HZ hd ⊢
    have HE := Lib.hid hE
    clear hE
    go_wp2
    go_ret2
    exact ⟨_, ret_vi HE.out.symm, by rw [HM.out]; exact OV.nil _ _, hfin.out⟩
end Go.Proofs.Ytenngfkgfdogjaa
namespace Go.Proofs.Ytenngfkgfdogjaa
open Go Go.RowKit Go.Shelf
attribute [local go_sem] Oper.semAt_some

set_option maxRecDepth 100000 in
set_option maxHeartbeats 6400000 in
theorem rfloors_ok (w : World) (c : StC) (s : St) (h : StAt w c s) (hb : StB s) :
    Calls Try.prog 72 #[c.val s] w fun e w' => ∃ v rows, e = .returned (.tuple #[v, .int .i64 (shE s)]) ∧ RowsU w.heap.size w' v rows ∧ rows.map Prod.snd = flE s ∧ Below w.heap.size w w' := by
  have ME := Lib.hid (fun (hs : Shp s) (W : World) (g : Int) (cpu : Nat) (hW : StAt W c s) (h0 : 0 ≤ g) (h1 : g < s.gs.length) (h2 : (cpu : Int) < s.n) =>
    (by
      have hz2 : chkE s g cpu = 0 := chk_zero.2 ⟨hs, ⟨h0, h1⟩, by omega, h2⟩
      have := rmembers_ok W c s g cpu hW hb
      rwa [hz2, memE_pos hz2] at this : Calls Try.prog 67 #[c.val s, .int .i64 g, .int .i64 (cpu : Int)] W fun e w' => ∃ v, e = .returned (.tuple #[v, .int .i64 0]) ∧ OV encY 3 27 W.heap.size w' v (memL s g cpu) ∧ Below W.heap.size W w'))
  have CC := Lib.hid (show c.cells s = #[.int .i64 s.n, .int .u64 s.cr, c.vg, c.vc, c.vu, c.vt, c.vs] from rfl)
  have a1 := bel_alloc w (.cells (c.cells s) 38)
  have BX := StBox.new w c s
  have CK := Lib.hid (rshaped_ok (w.alloc (.cells (c.cells s) 38)) c s (h.below a1) hb)
  have F : Facts (w.alloc (.cells (c.cells s) 38)) [sSA c s, sSB w.heap.size c s, sB w] := ⟨h.below a1, BX, a1, trivial⟩
  unfold StC.val at CK ME ⊢
  simp only [CC.out] at CK F ME ⊢
  clear h a1 BX
  go_enter Try.func72, Try.ntmps72
  go_upto_region 1 with fail
  generalize w.alloc (.cells #[.int .i64 s.n, .int .u64 s.cr, c.vg, c.vc, c.vu, c.vt, c.vs] 38) = w1 at F CK ⊢
  obtain ⟨X0, hX0⟩ : ∃ X0, w.heap.size = X0 := ⟨_, rfl⟩
  rw [hX0] at F
  simp only [hX0]
  have HX0 := Lib.hid hX0
  clear hX0
  obtain ⟨b0, b1, b2, b3, b4, b5, b6⟩ := (F.get 1 : StBox w1 X0 c s).cell
  go_wp2_with fail
  refine CK.out.mono ?_
  rintro e w2 ⟨rfl, bb⟩
  replace F := F.below bb
  clear bb CK b0 b1 b2 b3 b4 b5 b6
  have HF := Lib.hid F
  cases hs : shapedB s with
  | false =>
    have hfin := Lib.hid (F.get 2 : Below w.heap.size w w2)
    clear F ME
    have HS := Lib.hid hs
    clear hs
    go_wp2
    go_ret2
    exact ⟨_, [], ret_vi (by unfold shE; rw [HS.out]; rfl), ⟨OV.nil _ _, fun _ h => by simp at h⟩, by unfold flE; rw [HS.out]; rfl, hfin.out⟩
  | true =>
    have ME2 := ME.out (shp_iff.1 hs)
    have HSH := Lib.hid (shp_iff.1 hs)
    have hgl := (right_iff.1 HSH.out.right).many
    have hss := HSH.out.ss
    obtain ⟨n, hn⟩ : ∃ n : Nat, s.n = n := ⟨s.n.toNat, by have := HSH.out.n1; omega⟩
    have hn2 := HSH.out.n2
    have hn64 : n ≤ 64 := by omega
    have HN := Lib.hid hn
    have HS := Lib.hid hs
    have HR := Lib.hid (F.get 0 : StAt w2 c s).es
    have hw2 := (F.get 2 : Below w.heap.size w w2).size
    clear ME F hs
    obtain ⟨A, cs, hvs⟩ := HR.out.1.shape
    rw [hss] at hvs
    have HVS := Lib.hid hvs
    rw [hn, hvs] at ME2
    have ME3 := Lib.hid ME2
    clear hvs hn ME2
    go_wp2
    go_loopg [4, 5] s.gs.length (fun k v i wr => ∃ (gi : Nat) (rows : List (SV × List Int)), gi + k = s.gs.length ∧ i = .int .i64 gi ∧ RowsU w2.heap.size wr v rows ∧ rows.map Prod.snd = (List.range gi).map (fun g => rowF s g n) ∧ Below w2.heap.size w2 wr)
    case atStart => exact ⟨0, [], by omega, rfl, ⟨OV.nil _ _, fun _ h => by simp at h⟩, rfl, Below.refl _ _⟩
    case round =>
      obtain ⟨gi, rows, hk, rfl, hr, hm, hbl⟩ := hrel
      have HM := Lib.hid hm
      have HRW := Lib.hid hr
      have HBL := Lib.hid hbl
      have HK := Lib.hid hk
      have hws := hbl.size
      obtain ⟨b0, b1, b2, b3, b4, b5, b6⟩ := ((HF.out.below hbl).get 1 : StBox wr X0 c s).cell
      rw [HVS.out] at b6
      rw [HN.out] at b0
      clear hm hr hk hbl
      by_cases hlt : gi < s.gs.length
      · obtain ⟨x, hx⟩ : ∃ x, s.ss[gi]? = some x := ⟨_, List.getElem?_eq_getElem (by omega)⟩
        obtain ⟨br, off, c', hv, hcc, hrr⟩ := HR.out.1.row (by omega)
        rw [HVS.out, ← hss] at hv
        injection hv with ev1 ev2 ev3
        subst ev1
        subst ev3
        have hrow := HSH.out.row x (List.mem_of_getElem? hx)
        rw [HN.out] at hrow
        have hrow' : x.2.length = n := by omega
        have HXR := Lib.hid (HR.out.2 x (List.mem_of_getElem? hx))
        obtain ⟨A', c2, hvx⟩ := HXR.out.shape
        rw [hrow'] at hvx
        have HX := Lib.hid hx
        have HRR := Lib.hid (hrr gi x hx 0 _ rfl)
        clear hx hrr ev2 hrow
        have hsp : ∀ (j : Nat) (sp : Sp), x.2[j]? = some sp → spotV s gi (j : Int) = sp := fun j sp h => by
          unfold spotV; rw [HX.out]; simp [h]
        have HSP := Lib.hid hsp
        have HVX := Lib.hid hvx
        clear hsp hvx
        have hgid : decide ((gi : Int) < (s.gs.length : Int)) = true := by simp; omega
        go_wp2
        obtain ⟨w0r, rfl⟩ : ∃ w0r, w0r = wr := ⟨_, rfl⟩
        clear b0 b1 b2 b3 b4 b5 b6
        go_loopg [6, 7] n (fun k v i wr => ∃ (j : Nat), j + k = n ∧ i = .int .i64 j ∧ OV encU 1 22 w0r.heap.size wr v (rowF s gi j) ∧ (∃ p : SV, v = .slice p.1 p.2.1 p.2.2) ∧ Below w0r.heap.size w0r wr)
        case atStart => exact ⟨0, by omega, rfl, OV.nil _ _, ⟨(none, 0, 0), rfl⟩, Below.refl _ _⟩
        case round =>
          obtain ⟨j, hk2, rfl, ho, hsl, hb2⟩ := hrel
          have HO := Lib.hid ho
          have HSL := Lib.hid hsl
          have HB2 := Lib.hid hb2
          have HK2 := Lib.hid hk2
          have FR := Lib.hid ((HF.out.below HBL.out).below hb2)
          obtain ⟨b0, b1, b2, b3, b4, b5, b6⟩ := (FR.out.get 1 : StBox wr X0 c s).cell
          rw [HVS.out] at b6
          rw [HN.out] at b0
          have cx := below_cell hb2 (below_cell HBL.out HRR.out)
          simp only [Nat.mul_one, Nat.add_zero] at cx
          clear ho hsl hk2
          by_cases hj : j < n
          · obtain ⟨sp, hsp⟩ : ∃ sp, x.2[j]? = some sp := ⟨_, List.getElem?_eq_getElem (by omega)⟩
            obtain ⟨bs, os, cs3, hv3, _, hrs⟩ := ((HXR.out.below HBL.out).below hb2).row (by omega)
            rw [HVX.out, hrow'] at hv3
            injection hv3 with ev1 ev2 ev3
            subst ev1
            subst ev3
            rw [HVX.out] at cx
            obtain ⟨p0, p1, p2⟩ := hrs.sp hsp
            have HFL := Lib.hid (show (spotV s gi (j : Int)).fl = sp.fl by rw [HSP.out j sp hsp])
            have hjd : decide ((j : Int) < (n : Int)) = true := by simp; omega
            have hbs := hb2.size
            clear hrs hsp ev2 hb2
            go_wp2_with fail
            refine (ME3.out wr (gi : Int) j (FR.out.get 0) (by omega) (by omega) (by omega)).mono ?_
            rintro e w4 ⟨v4, rfl, o4, bb⟩
            have HB4 := Lib.hid (HB2.out.trans (bb.mono hbs))
            have HO4 := Lib.hid (HO.out.below bb)
            have hs4 := HB4.out.size
            have HFV := Lib.hid (floorV_eq s gi j)
            clear bb b0 b1 b2 b3 b4 b5 b6 cx p0 p1 p2
            cases hm : memL s gi j with
            | nil =>
              rw [hm] at o4
              obtain ⟨A4, c4, rfl⟩ := (o4.ev encY_len).shape
              have HFV2 := Lib.hid (show floorV s gi j = sp.fl by rw [HFV.out, hm]; exact HFL.out)
              clear o4 hm HFV
              have HRT := Lib.hid (EV.new1 (w := w4) (enc := encU) (k := 1) (e := 22) (x := sp.fl) (c := 1) (cs := #[.int .u64 sp.fl]) rfl (Nat.le_refl _))
              go_wp2_with (at_builtin; refine wpList_app elemU encU_len encU_one rfl (.tmp 59) (.tmp 61) rfl _ _ rfl rfl (HO4.out.alloc _) HRT.out ?q1 ?q2 ?_)
              case q1 => simp [rowF]; omega
              case q2 => simp; omega
              intro v9 w9 o9 g9
              have HB9 := Lib.hid ((below_step HB4.out (bel_alloc w4 (.cells #[.int .u64 sp.fl] 22))).grown g9 (by simp; omega) (fun q hq => (HO4.out.block q hq).1))
              rw [← HFV2.out, ← rowF_succ] at o9
              have HO9 := Lib.hid o9
              clear o9 g9 HRT
              go_wp2
              go_roundg (gk - 1)
              case measure => have := HK2.out; omega
              case rel => exact ⟨j + 1, by have := HK2.out; omega, by go_num, HO9.out, by obtain ⟨g, cap, hv, _⟩ := HO9.out.form (by simp [rowF]); exact ⟨(_, _, _), hv⟩, HB9.out⟩
            | cons k L =>
              rw [hm] at o4
              have HFV2 := Lib.hid (show floorV s gi j = max sp.fl k.v by rw [HFV.out, hm]; show max _ _ = _; rw [HFL.out])
              obtain ⟨b4, f4, c4, rfl, _, r4⟩ := (o4.ev encY_len).row (by simp)
              obtain ⟨k0, _, _⟩ := r4.ky (i := 0) rfl
              simp only [Nat.zero_mul, Nat.add_zero] at k0
              clear o4 hm HFV r4
              by_cases hmx : sp.fl < k.v
              · have hmx2 : max sp.fl k.v = k.v := Int.max_eq_right (by omega)
                rw [hmx2] at HFV2
                have HRT := Lib.hid (EV.new1 (w := w4) (enc := encU) (k := 1) (e := 22) (x := k.v) (c := 1) (cs := #[.int .u64 k.v]) rfl (Nat.le_refl _))
                go_wp2_with (at_builtin; refine wpList_app elemU encU_len encU_one rfl (.tmp 59) (.tmp 61) rfl _ _ rfl rfl (HO4.out.alloc _) HRT.out ?q1 ?q2 ?_)
                case q1 => simp [rowF]; omega
                case q2 => simp; omega
                intro v9 w9 o9 g9
                have HB9 := Lib.hid ((below_step HB4.out (bel_alloc w4 (.cells #[.int .u64 k.v] 22))).grown g9 (by simp; omega) (fun q hq => (HO4.out.block q hq).1))
                rw [← HFV2.out, ← rowF_succ] at o9
                have HO9 := Lib.hid o9
                clear o9 g9 HRT
                go_wp2
                go_roundg (gk - 1)
                case measure => have := HK2.out; omega
                case rel => exact ⟨j + 1, by have := HK2.out; omega, by go_num, HO9.out, by obtain ⟨g, cap, hv, _⟩ := HO9.out.form (by simp [rowF]); exact ⟨(_, _, _), hv⟩, HB9.out⟩
              · have hmx2 : max sp.fl k.v = sp.fl := Int.max_eq_left (by omega)
                rw [hmx2] at HFV2
                have HRT := Lib.hid (EV.new1 (w := w4) (enc := encU) (k := 1) (e := 22) (x := sp.fl) (c := 1) (cs := #[.int .u64 sp.fl]) rfl (Nat.le_refl _))
                go_wp2_with (at_builtin; refine wpList_app elemU encU_len encU_one rfl (.tmp 59) (.tmp 61) rfl _ _ rfl rfl (HO4.out.alloc _) HRT.out ?q1 ?q2 ?_)
                case q1 => simp [rowF]; omega
                case q2 => simp; omega
                intro v9 w9 o9 g9
                have HB9 := Lib.hid ((below_step HB4.out (bel_alloc w4 (.cells #[.int .u64 sp.fl] 22))).grown g9 (by simp; omega) (fun q hq => (HO4.out.block q hq).1))
                rw [← HFV2.out, ← rowF_succ] at o9
                have HO9 := Lib.hid o9
                clear o9 g9 HRT
                go_wp2
                go_roundg (gk - 1)
                case measure => have := HK2.out; omega
                case rel => exact ⟨j + 1, by have := HK2.out; omega, by go_num, HO9.out, by obtain ⟨g, cap, hv, _⟩ := HO9.out.form (by simp [rowF]); exact ⟨(_, _, _), hv⟩, HB9.out⟩
          · obtain rfl : j = n := by have := HK2.out; omega
            have hjd : decide ((j : Int) < (j : Int)) = false := by simp
            obtain ⟨p, rfl⟩ := HSL.out
            have HRT := Lib.hid (EV.new1 (w := wr) (enc := encV) (k := 1) (e := 48) (x := ((p, rowF s gi j) : SV × List Int)) (c := 1) (cs := #[p.v]) rfl (Nat.le_refl _))
            have HB3 := Lib.hid (HBL.out.trans (HB2.out.mono hws))
            have hws3 := HB3.out.size
            have hb2s := HB2.out.size
            have HRW2 := Lib.hid (HRW.out.below HB2.out)
            clear hb2
            unfold SV.v at HRT
            go_wp2_with (at_builtin; refine wpList_app elemV encV_len encV_one rfl (.tmp 63) (.tmp 65) rfl _ _ rfl rfl (HRW2.out.1.alloc _) HRT.out ?q1 ?q2 ?_)
            case q1 => have := congrArg List.length HM.out; simp at this; simp; omega
            case q2 => simp; omega
            intro v9 w9 o9 g9
            have hkeep : ∀ y : SV × List Int, OV encU 1 22 w2.heap.size wr y.1.v y.2 → OV encU 1 22 w2.heap.size w9 y.1.v y.2 := fun y hy => by
              refine (hy.alloc _).keep g9 ?_
              exact (hy.alloc (.cells #[.slice p.1 p.2.1 p.2.2] 48)).ne2 (HRW2.out.1.alloc (.cells #[.slice p.1 p.2.1 p.2.2] 48)) (by decide)
            have HR9 := Lib.hid (show RowsU w2.heap.size w9 v9 (rows ++ [(p, rowF s gi j)]) from ⟨o9, fun y hy => by
              rcases List.mem_append.1 hy with hy | hy
              · exact hkeep y (HRW2.out.2 y hy)
              · rw [List.mem_singleton] at hy; subst hy; exact hkeep _ (HO.out.base_le hws)⟩)
            have HB9 := Lib.hid ((below_step HB3.out (bel_alloc wr (.cells #[.slice p.1 p.2.1 p.2.2] 48))).grown g9 (by simp; omega) (fun q hq => (HRW2.out.1.block q hq).1))
            clear o9 g9 HRT hkeep
            go_wp2
            go_roundg (s.gs.length - (gi + 1))
            case measure => have := HK.out; omega
            case rel => exact ⟨gi + 1, _, by have := HK.out; omega, by go_num, HR9.out, by rw [List.map_append, HM.out, List.range_succ, List.map_append]; rfl, HB9.out⟩
      · obtain rfl : gi = s.gs.length := by have := HK.out; omega
        have hgid : decide ((s.gs.length : Int) < (s.gs.length : Int)) = false := by simp
        have hfin := Lib.hid ((HF.out.below HBL.out).get 2)
        have HRR := Lib.hid (HRW.out.base_le hw2)
        go_wp2
        go_ret2
        exact ⟨_, rows, ret_vi (by unfold shE; rw [HS.out]; rfl), HRR.out, by rw [HM.out, flE_pos HS.out, HN.out]; rfl, hfin.out⟩
end Go.Proofs.Ytenngfkgfdogjaa
