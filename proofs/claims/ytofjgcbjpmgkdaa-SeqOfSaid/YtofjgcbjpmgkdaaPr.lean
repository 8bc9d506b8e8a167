/- Slices of pairs of ints, read as lists; slices.Equal and slices.Clone at them. -/
import Derived.Test.YtofjgcbjpmgkdaaK
set_option linter.unusedVariables false
set_option linter.unusedSimpArgs false
set_option linter.unusedSectionVars false
namespace Go.Proofs.Ytofjgcbjpmgkdaa
open Go Go.RowKit Go.Shelf

def encP (g : Int × Int) : List Value := [.int .i64 g.1, .int .i64 g.2]
theorem encP_len (g : Int × Int) : (encP g).length = 2 := rfl
theorem encP_one (g : Int × Int) : ∀ u ∈ encP g, u.oneCell' = true := by intro u hu; simp [encP] at hu; rcases hu with rfl | rfl <;> rfl
theorem ER.prs {w : World} {b off : Nat} {gs : List (Int × Int)} (h : ER encP 2 w b off gs) {i : Nat} {g : Int × Int} (hi : gs[i]? = some g) :
    w.cell? ⟨b, off + i * 2, none⟩ = some (.int .i64 g.1) ∧ w.cell? ⟨b, off + i * 2 + 1, none⟩ = some (.int .i64 g.2) :=
  ⟨by simpa using h i g hi 0 _ rfl, h i g hi 1 _ rfl⟩
theorem EV.newL {α : Type} {enc : α → List Value} {k : Nat} {e : TypeId} {w : World} {xs : List α} {c n : Nat} {cs : Array Value} (hk : ∀ x, (enc x).length = k) (hcs : cs.toList = xs.flatMap enc) (hn : xs.length = n) (hc : n ≤ c) :
    EV enc k (w.alloc (.cells cs e)) (.slice (some ⟨w.heap.size, 0, none⟩) n c) xs := by
  subst hn
  refine EV.mk (fun i y hy j u hu => ?_) hc
  have h1 := flat_get hk xs i y hy j u hu
  rw [← hcs] at h1
  have := cell_of_row (w.alloc (.cells cs e)) w.heap.size (i * k + j) cs e (0, 0) (heap_alloc_new w _)
  simp only [Nat.zero_add]
  rw [this]; simpa using h1
theorem new_one {w : World} {z : Int} {e : TypeId} : EV encI 1 (w.alloc (.cells #[.int .i64 z] e)) (.slice (some ⟨w.heap.size, 0, none⟩) 1 1) [z] := EV.new1 rfl (Nat.le_refl _)
theorem new_pair {w : World} {p q : Int} {e : TypeId} : EV encP 2 (w.alloc (.cells #[.int .i64 p, .int .i64 q] e)) (.slice (some ⟨w.heap.size, 0, none⟩) 1 1) [(p, q)] := EV.new1 rfl (Nat.le_refl _)
theorem OV.row_form {α : Type} {enc : α → List Value} {k base : Nat} {e : TypeId} {w : World} {v : Value} {xs : List α} {n : Nat} (hk : ∀ x, (enc x).length = k) (h : OV enc k e base w v xs) (hl : xs.length = n) (hn : 0 < n) :
    ∃ g cap, v = .slice (some ⟨g, 0, none⟩) n cap ∧ n ≤ cap ∧ base ≤ g ∧ g < w.heap.size := by
  subst hl
  obtain ⟨g, cap, hv, h1, h2⟩ := h.form hn
  obtain ⟨b, o, c, hv', hc, _⟩ := (h.ev hk).row hn
  rw [hv] at hv'
  simp only [Value.slice.injEq, Option.some.injEq, Addr.mk.injEq, and_true] at hv'
  obtain ⟨⟨rfl, rfl⟩, _, rfl⟩ := hv'
  exact ⟨g, cap, hv, hc, h1, h2⟩
theorem OV.frz {α : Type} {enc : α → List Value} {k base g n cap : Nat} {e : TypeId} {w : World} {xs : List α} (h : OV enc k e base w (.slice (some ⟨g, 0, none⟩) n cap) xs) (hn : xs.length = n) (i : Nat) : w.frozen? ⟨g, i, none⟩ = false := by
  subst hn
  exact World.ownsRow.frozenAt h i
theorem flat_set_fst : ∀ (gs : List (Int × Int)) (i : Nat) (p q u : Int), gs[i]? = some (p, q) → (gs.flatMap encP).set (i * 2) (.int .i64 u) = (gs.set i (u, q)).flatMap encP := by
  intro gs
  induction gs with
  | nil => intro i p q u h; simp at h
  | cons x r ih =>
    intro i p q u h
    cases i with
    | zero => simp at h; subst h; simp [encP]
    | succ i =>
      have := ih i p q u (by simpa using h)
      rw [show (i + 1) * 2 = i * 2 + 1 + 1 by omega]
      simp only [List.flatMap_cons, encP, List.cons_append, List.nil_append, List.set_cons_succ]
      rw [this]
theorem flat_set_snd : ∀ (gs : List (Int × Int)) (i : Nat) (p q u : Int), gs[i]? = some (p, q) → (gs.flatMap encP).set (i * 2 + 1) (.int .i64 u) = (gs.set i (p, u)).flatMap encP := by
  intro gs
  induction gs with
  | nil => intro i p q u h; simp at h
  | cons x r ih =>
    intro i p q u h
    cases i with
    | zero => simp at h; subst h; simp [encP]
    | succ i =>
      have := ih i p q u (by simpa using h)
      rw [show (i + 1) * 2 + 1 = i * 2 + 1 + 1 + 1 by omega]
      simp only [List.flatMap_cons, encP, List.cons_append, List.nil_append, List.set_cons_succ]
      rw [this]
/-- A pair's first, or its second, written into a row of the call's own. -/
theorem OV.setP {e : TypeId} {base g n cap i : Nat} {w : World} {gs : List (Int × Int)} {p q : Int} (h : OV encP 2 e base w (.slice (some ⟨g, 0, none⟩) n cap) gs) (hn : gs.length = n) (hi : gs[i]? = some (p, q)) (u : Int) :
    OV encP 2 e base (w.setCell ⟨g, i * 2, none⟩ (.int .i64 u)) (.slice (some ⟨g, 0, none⟩) n cap) (gs.set i (u, q)) ∧ w.grownBy (w.setCell ⟨g, i * 2, none⟩ (.int .i64 u)) (some g) := by
  subst hn
  obtain ⟨h1, h2⟩ := World.ownsRow.stored h (i * 2) (.int .i64 u)
  refine ⟨?_, h2⟩
  unfold OV
  rw [← flat_set_fst gs i p q u hi, List.length_set]
  exact h1
theorem OV.setW {e : TypeId} {base g n cap i : Nat} {w : World} {gs : List (Int × Int)} {p q : Int} (h : OV encP 2 e base w (.slice (some ⟨g, 0, none⟩) n cap) gs) (hn : gs.length = n) (hi : gs[i]? = some (p, q)) (u : Int) :
    OV encP 2 e base (w.setCell ⟨g, i * 2 + 1, none⟩ (.int .i64 u)) (.slice (some ⟨g, 0, none⟩) n cap) (gs.set i (p, u)) ∧ w.grownBy (w.setCell ⟨g, i * 2 + 1, none⟩ (.int .i64 u)) (some g) := by
  subst hn
  obtain ⟨h1, h2⟩ := World.ownsRow.stored h (i * 2 + 1) (.int .i64 u)
  refine ⟨?_, h2⟩
  unfold OV
  rw [← flat_set_snd gs i p q u hi, List.length_set]
  exact h1
theorem elemR : ElemT Try.prog 22 35 2 16 := ⟨Try.underlying22, by
  have h : (Try.prog.info? 35).map (fun i => (i.zero, i.size, i.bytes)) = some (some (.agg #[.int .i64 0, .int .i64 0]), 2, 16) := by kernel_rfl
  obtain ⟨i, h1, h2, h3, h4⟩ := info_parts h
  exact ⟨i, _, h1, h2, h3, h4, rfl⟩, by omega, by omega⟩
set_option maxHeartbeats 1000000 in
theorem equal_run (w : World) (v1 v2 : Value) (xs ys : List (Int × Int)) (h1 : EV encP 2 w v1 xs) (h2 : EV encP 2 w v2 ys) (b1 : xs.length ≤ 1000000000) (b2 : ys.length ≤ 1000000000) :
    Calls Try.prog 21 #[v1, v2] w fun e w' => e = .returned (.bool (xs == ys)) ∧ ∃ n, w.drewN n = w' := by
  by_cases hl : xs.length = ys.length
  · rcases Nat.eq_zero_or_pos xs.length with h0 | h0
    · obtain rfl : xs = [] := List.eq_nil_of_length_eq_zero h0
      obtain rfl : ys = [] := List.eq_nil_of_length_eq_zero (by simpa using hl.symm)
      obtain ⟨A, c, rfl⟩ := h1.shape
      obtain ⟨A', c', rfl⟩ := h2.shape
      clear h1 h2 hl h0 b1 b2
      go_enter Try.func21, Try.ntmps21
      go_wp2
      refine wp_loop_rounds 1 ?_
      rw [rounds_succ]
      go_wp2
      go_ret
      exact ⟨rfl, 0, rfl⟩
    · obtain ⟨b, off, c, rfl, hc, r1⟩ := h1.row h0
      obtain ⟨b', off', c', rfl, hc', r2⟩ := h2.row (hl ▸ h0)
      rw [← hl]
      have R1 := Lib.hid r1; have R2 := Lib.hid r2; have HL := Lib.hid hl
      clear r1 r2 hl h1 h2
      go_enter Try.func21, Try.ntmps21
      go_wp2
      go_loopg [13] xs.length (fun k i wr => ∃ j : Nat, j + k = xs.length ∧ i = .int .i64 j ∧ (∃ n, w.drewN n = wr) ∧ xs.take j = ys.take j)
      case atStart => exact ⟨0, by omega, rfl, ⟨0, rfl⟩, rfl⟩
      case round =>
        obtain ⟨j, hj, rfl, ⟨n, rfl⟩, ht⟩ := hrel
        have HT := Lib.hid ht
        have HJ := Lib.hid hj
        clear ht hj
        by_cases hlt : j < xs.length
        · obtain ⟨⟨p, q⟩, hx⟩ : ∃ x, xs[j]? = some x := ⟨_, List.getElem?_eq_getElem hlt⟩
          obtain ⟨⟨p', q'⟩, hy⟩ : ∃ x, ys[j]? = some x := ⟨_, List.getElem?_eq_getElem (HL.out ▸ hlt)⟩
          obtain ⟨c1, c2⟩ := R1.out.prs hx
          obtain ⟨d1, d2⟩ := R2.out.prs hy
          dsimp only at c1 c2 d1 d2
          have HX := Lib.hid hx
          have HY := Lib.hid hy
          clear hx hy
          by_cases he : p = p'
          · subst he
            by_cases he : q = q'
            · subst he
              go_wp2
              go_quiet (fail)
              go_wp2
              go_roundg (gk - 1)
              case measure => have := HJ.out; omega
              case rel => exact ⟨j + 1, by have := HJ.out; omega, by go_num, (by first | exact ⟨_, rfl⟩ | exact dn2 _ _ _), take_eq_step' HT.out HX.out HY.out⟩
            · have hne : (q == q') = false := by simp [he]
              have HE := Lib.hid he
              clear he
              go_wp2
              go_quiet (fail)
              go_wp2
              go_ret
              exact ⟨ret_bool (beq_ne_of_get HX.out HY.out (fun e => HE.out (by injection e))).symm, (by first | exact ⟨_, rfl⟩ | exact dn2 _ _ _)⟩
          · have hne : (p == p') = false := by simp [he]
            have HE := Lib.hid he
            clear he
            go_wp2
            go_quiet (fail)
            go_wp2
            go_ret
            exact ⟨ret_bool (beq_ne_of_get HX.out HY.out (fun e => HE.out (by injection e))).symm, (by first | exact ⟨_, rfl⟩ | exact dn2 _ _ _)⟩
        · have hj : j = xs.length := by have := HJ.out; omega
          have e : (xs == ys) = true := by
            have := HT.out
            rw [List.take_of_length_le (by omega), List.take_of_length_le (by have := HL.out; omega)] at this
            simp [this]
          have E := Lib.hid e
          clear e hj
          go_wp2
          go_ret
          exact ⟨ret_bool E.out.symm, n, rfl⟩
  · obtain ⟨A, c, rfl⟩ := h1.shape
    obtain ⟨A', c', rfl⟩ := h2.shape
    have hne : ((xs.length : Int) != ys.length) = true := by simp; omega
    have e : (xs == ys) = false := by simp; rintro rfl; exact hl rfl
    have E := Lib.hid e
    clear h1 h2 e hl
    go_enter Try.func21, Try.ntmps21
    go_wp2
    go_ret
    exact ⟨ret_bool E.out.symm, 0, rfl⟩
theorem equal_run_same (w : World) (r1 r2 : Value) (xs : List (Int × Int)) (h1 : EV encP 2 w r1 xs) (h2 : EV encP 2 w r2 xs) (b : xs.length ≤ 1000000000) :
    Calls Try.prog 21 #[r1, r2] w fun e w' => e = .returned (.bool true) ∧ Below w.heap.size w w' := by
  refine (equal_run w r1 r2 xs xs h1 h2 b b).mono ?_
  rintro e w' ⟨rfl, q, rfl⟩
  exact ⟨by simp, below_drewN (Below.refl _ _) _⟩
set_option maxHeartbeats 400000 in
theorem clone_run (w : World) (v1 : Value) (xs : List (Int × Int)) (h1 : EV encP 2 w v1 xs) (b1 : xs.length ≤ 1000000000) :
    Calls Try.prog 35 #[v1] w fun e w' => ∃ v, e = .returned v ∧ OV encP 2 35 w.heap.size w' v xs ∧ Below w.heap.size w w' := by
  obtain ⟨A, c, rfl⟩ := h1.shape
  have H1 := Lib.hid h1
  clear h1
  have heq : ∀ (w : World) (a : Option Addr) (n c n' c' : Nat), (binOp .eql 22 (.slice a n c) (.slice none n' c')).run Try.prog w = .ok (.bool a.isNone) w := fun w a n c n' c' => Lib.run_eql_slice_nil w _ _ a n c n' c' Try.underlying22
  cases A with
  | none =>
    obtain rfl : xs = [] := by
      rcases H1.out with ⟨h, _⟩ | ⟨_, b, off, c', h, _⟩
      · exact h
      · cases h
    clear H1 b1
    go_enter Try.func35, Try.ntmps35
    go_wp2
    go_ret
    exact ⟨_, rfl, OV.nil _ _, Below.refl _ _⟩
  | some ad =>
    go_enter Try.func35, Try.ntmps35
    go_wp2_with (at_builtin; refine wpList_app elemR encP_len encP_one rfl _ _ rfl _ _ rfl rfl (OV.made w 0 #[] (Nat.le_refl _) (Nat.zero_le _) rfl) (H1.out.keep fun p u hc => ?qc) ?qn ?qb ?_)
    case qc => exact (World.cell?_alloc_lt w _ p (cell_lt hc)).trans hc
    case qn => simpa using b1
    case qb => simp
    intro v' w1 hown hgrow
    go_wp2
    go_ret
    refine ⟨v', rfl, by simpa using hown, ((Below.refl _ w).alloc (Nat.le_refl _) _).grown hgrow (by simp) (by intro k hk; simp [Value.ownBlock] at hk; omega)⟩

theorem elemQ : ElemT Try.prog 58 61 2 16 := ⟨Try.underlying58, by
  have h : (Try.prog.info? 61).map (fun i => (i.zero, i.size, i.bytes)) = some (some (.agg #[.int .i64 0, .int .i64 0]), 2, 16) := by kernel_rfl
  obtain ⟨i, h1, h2, h3, h4⟩ := info_parts h
  exact ⟨i, _, h1, h2, h3, h4, rfl⟩, by omega, by omega⟩
set_option maxHeartbeats 1000000 in
theorem equal_ref (w : World) (v1 v2 : Value) (xs ys : List (Int × Int)) (h1 : EV encP 2 w v1 xs) (h2 : EV encP 2 w v2 ys) (b1 : xs.length ≤ 1000000000) (b2 : ys.length ≤ 1000000000) :
    Calls Try.prog 62 #[v1, v2] w fun e w' => e = .returned (.bool (xs == ys)) ∧ ∃ n, w.drewN n = w' := by
  by_cases hl : xs.length = ys.length
  · rcases Nat.eq_zero_or_pos xs.length with h0 | h0
    · obtain rfl : xs = [] := List.eq_nil_of_length_eq_zero h0
      obtain rfl : ys = [] := List.eq_nil_of_length_eq_zero (by simpa using hl.symm)
      obtain ⟨A, c, rfl⟩ := h1.shape
      obtain ⟨A', c', rfl⟩ := h2.shape
      clear h1 h2 hl h0 b1 b2
      go_enter Try.func62, Try.ntmps62
      go_wp2
      refine wp_loop_rounds 1 ?_
      rw [rounds_succ]
      go_wp2
      go_ret
      exact ⟨rfl, 0, rfl⟩
    · obtain ⟨b, off, c, rfl, hc, r1⟩ := h1.row h0
      obtain ⟨b', off', c', rfl, hc', r2⟩ := h2.row (hl ▸ h0)
      rw [← hl]
      have R1 := Lib.hid r1; have R2 := Lib.hid r2; have HL := Lib.hid hl
      clear r1 r2 hl h1 h2
      go_enter Try.func62, Try.ntmps62
      go_wp2
      go_loopg [13] xs.length (fun k i wr => ∃ j : Nat, j + k = xs.length ∧ i = .int .i64 j ∧ (∃ n, w.drewN n = wr) ∧ xs.take j = ys.take j)
      case atStart => exact ⟨0, by omega, rfl, ⟨0, rfl⟩, rfl⟩
      case round =>
        obtain ⟨j, hj, rfl, ⟨n, rfl⟩, ht⟩ := hrel
        have HT := Lib.hid ht
        have HJ := Lib.hid hj
        clear ht hj
        by_cases hlt : j < xs.length
        · obtain ⟨⟨p, q⟩, hx⟩ : ∃ x, xs[j]? = some x := ⟨_, List.getElem?_eq_getElem hlt⟩
          obtain ⟨⟨p', q'⟩, hy⟩ : ∃ x, ys[j]? = some x := ⟨_, List.getElem?_eq_getElem (HL.out ▸ hlt)⟩
          obtain ⟨c1, c2⟩ := R1.out.prs hx
          obtain ⟨d1, d2⟩ := R2.out.prs hy
          dsimp only at c1 c2 d1 d2
          have HX := Lib.hid hx
          have HY := Lib.hid hy
          clear hx hy
          by_cases he : p = p'
          · subst he
            by_cases he : q = q'
            · subst he
              go_wp2
              go_quiet (fail)
              go_wp2
              go_roundg (gk - 1)
              case measure => have := HJ.out; omega
              case rel => exact ⟨j + 1, by have := HJ.out; omega, by go_num, (by first | exact ⟨_, rfl⟩ | exact dn2 _ _ _), take_eq_step' HT.out HX.out HY.out⟩
            · have hne : (q == q') = false := by simp [he]
              have HE := Lib.hid he
              clear he
              go_wp2
              go_quiet (fail)
              go_wp2
              go_ret
              exact ⟨ret_bool (beq_ne_of_get HX.out HY.out (fun e => HE.out (by injection e))).symm, (by first | exact ⟨_, rfl⟩ | exact dn2 _ _ _)⟩
          · have hne : (p == p') = false := by simp [he]
            have HE := Lib.hid he
            clear he
            go_wp2
            go_quiet (fail)
            go_wp2
            go_ret
            exact ⟨ret_bool (beq_ne_of_get HX.out HY.out (fun e => HE.out (by injection e))).symm, (by first | exact ⟨_, rfl⟩ | exact dn2 _ _ _)⟩
        · have hj : j = xs.length := by have := HJ.out; omega
          have e : (xs == ys) = true := by
            have := HT.out
            rw [List.take_of_length_le (by omega), List.take_of_length_le (by have := HL.out; omega)] at this
            simp [this]
          have E := Lib.hid e
          clear e hj
          go_wp2
          go_ret
          exact ⟨ret_bool E.out.symm, n, rfl⟩
  · obtain ⟨A, c, rfl⟩ := h1.shape
    obtain ⟨A', c', rfl⟩ := h2.shape
    have hne : ((xs.length : Int) != ys.length) = true := by simp; omega
    have e : (xs == ys) = false := by simp; rintro rfl; exact hl rfl
    have E := Lib.hid e
    clear h1 h2 e hl
    go_enter Try.func62, Try.ntmps62
    go_wp2
    go_ret
    exact ⟨ret_bool E.out.symm, 0, rfl⟩
theorem equal_ref_same (w : World) (r1 r2 : Value) (xs : List (Int × Int)) (h1 : EV encP 2 w r1 xs) (h2 : EV encP 2 w r2 xs) (b : xs.length ≤ 1000000000) :
    Calls Try.prog 62 #[r1, r2] w fun e w' => e = .returned (.bool true) ∧ Below w.heap.size w w' := by
  refine (equal_ref w r1 r2 xs xs h1 h2 b b).mono ?_
  rintro e w' ⟨rfl, q, rfl⟩
  exact ⟨by simp, below_drewN (Below.refl _ _) _⟩
end Go.Proofs.Ytofjgcbjpmgkdaa
