/- EntityWrong: the nine stores, and what they leave | The walk of the law EntityWrong: the switch, and its head. -/
import Derived.Test.YtenngfkgfdogjaaZ31
set_option linter.unusedVariables false
set_option linter.unusedSimpArgs false
set_option linter.unusedSectionVars false
namespace Go.Proofs.Ytenngfkgfdogjaa
open Go Go.RowKit Go.Shelf

theorem StBox.set' {w : World} {B i : Nat} {c c' : StC} {s s' : St} {v : Value} (h : StBox w B c s) (he : (c.cells s).setIfInBounds i v = c'.cells s') : StBox (w.setCell ⟨B, i, none⟩ v) B c' s' := by
  unfold StBox; rw [← he]; exact heap_setCell_same w B i _ _ v h
theorem StB.of {s s' : St} (h : StB s) (hg : s'.gs.length = s.gs.length) (ht : s'.ts.length = s.ts.length) (hn : s'.n = s.n) : StB s' := ⟨by rw [hg]; exact h.g, by rw [ht]; exact h.t, by rw [hn]; exact h.n1, by rw [hn]; exact h.n2⟩
/-- What an append leaves as it was: all but the spare of the row that it appends to. -/
theorem append_front {P : Program} {w : World} {t ty e : TypeId} {i : TypeInfo} {z : Value} (ht : P.underlying t = some (.slice e)) (hi : P.info? e = some i) (hz : i.zero = some z)
    {g n cap : Nat} {cur : Array Value} (hg : w.heap[g]? = some (.cells cur e (0, 0))) (hs : i.size = 1) (hcs : cur.size = cap) (hnc : n ≤ cap) {xs : List Value} (htk : cur.toList.take n = xs)
    (a : Addr) (c : Nat) (u0 : Value) (hu : w.cell? a = some u0) (ha : a.add 0 = a) (h1 : u0.oneCell' = true) (hb : (n + 1) * i.bytes ≤ 140737488355328) (hm : n + 1 ≤ maxLen)
    {v' : Value} {w' : World} (hr : (Builtin.append_ #[t, t] ty #[.slice (some ⟨g, 0, none⟩) n cap, .slice (some a) 1 c]).run P w = .ok v' w') :
    ∀ p u, w.cell? p = some u → (p.block = g → p.off < n) → (∃ k, p = ⟨p.block, k, none⟩) → w'.cell? p = some u := by
  have hnews : ∀ j u, [u0][j]? = some u → w.cell? (a.add j) = some u := by
    intro j u hj
    rcases j with _ | j
    · simp at hj; subst hj; rw [ha]; exact hu
    · simp at hj
  have hxl : xs.length = n := by rw [← htk, List.length_take, Array.length_toList, hcs]; omega
  by_cases hroom : n + 1 ≤ cap
  · have hr2 := run_append_room (P := P) w t ty e i ht hi g n cap cur hg a 1 c [u0] (by simp [hs]) hnews (by simpa using h1) hroom (by simp [hs, hcs]; omega)
    rw [hr] at hr2
    simp only [Result.ok.injEq] at hr2
    obtain ⟨_, rfl⟩ := hr2
    intro p u hc hp ⟨k, hk⟩
    by_cases he : p.block = g
    · have hlt := hp he
      rw [hk] at hc hlt ⊢
      subst he
      dsimp only at hlt
      rw [cell_of_row _ _ _ _ _ _ hg] at hc
      rw [cell_of_row _ _ _ _ _ _ (setRow_heap w _ _ _ _ _ hg)]
      rw [hs, Nat.mul_one, List.getElem?_toArray, List.append_assoc, List.getElem?_append_left (by rw [List.length_take, Array.length_toList, hcs]; omega), List.getElem?_take, if_pos hlt, Array.getElem?_toList]
      exact hc
    · exact (World.cell?_of_block (setRow_other w g p.block _ he)).trans hc
  · have holds : ∀ j u, xs[j]? = some u → w.cell? ((⟨g, 0, none⟩ : Addr).add j) = some u := by
      intro j u hj
      rw [Addr.add_lit, Nat.zero_add, cell_of_row _ _ _ _ _ _ hg]
      rw [← htk, List.getElem?_take] at hj
      split at hj
      · rwa [Array.getElem?_toList] at hj
      · cases hj
    have hr2 := run_append_grow (P := P) w t ty e i z ht hi hz ⟨g, 0, none⟩ n cap xs (by rw [hxl, hs, Nat.mul_one]) holds a 1 c [u0] (by simp [hs]) hnews (by omega) (by unfold maxLen at hm; omega) (growslice_fits (by unfold maxLen at hm; omega) hb)
    rw [hr] at hr2
    simp only [Result.ok.injEq] at hr2
    obtain ⟨_, rfl⟩ := hr2
    intro p u hc _ _
    exact (World.cell?_alloc_lt w.drew _ p (cell_lt hc)).trans hc
/-- A state that is not shaped stands in its box; all that was there before is as it was. -/
def BadAt (wg : World) (X : Nat) (wx : World) : Prop := ∃ c s, StBox wx X c s ∧ StAt wx c s ∧ StB s ∧ shapedB s = false ∧ Below wg.heap.size wg wx
section
variable {wg w : World} {X base : Nat} {c : StC} {s : St}
theorem bad_0 (o : StO base w c s) (bx : StBox w X c s) (hX : wg.heap.size ≤ X) (bb : Below wg.heap.size wg w) (hs : Shp s) {m : Int} (hm : s.n < m) (hm2 : m ≤ 9223372036854775807) : BadAt wg X (w.setCell ⟨X, 0, none⟩ (.int .i64 m)) := by
  have h1 := (o.setbx bx 0 (.int .i64 m)).at
  refine ⟨c, { s with n := m }, ?_, ⟨h1.eg, h1.ec, h1.eu, h1.et, h1.es⟩, ⟨hs.stb.g, hs.stb.t, ?_, hm2⟩, bad_n hs hm, bb.setCell (p := ⟨X, 0, none⟩) hX _⟩
  · exact heap_setCell_same w X 0 _ _ _ bx
  · have := hs.n1; show _ ≤ m; omega
theorem bad_1 (o : StO base w c s) (bx : StBox w X c s) (hX : wg.heap.size ≤ X) (bb : Below wg.heap.size wg w) (hs : Shp s) {g n cp : Nat} (hv : c.vc = .slice (some ⟨g, 0, none⟩) n cp) (hn : s.cl.length = n) : BadAt wg X (w.setCell ⟨X, 3, none⟩ (.slice (some ⟨g, 1, none⟩) (n - 1) (cp - 1))) := by
  have h1 := (o.setbx bx 3 (.slice (some ⟨g, 1, none⟩) (n - 1) (cp - 1))).at
  have h2 := h1.ec
  rw [hv] at h2
  have hn1 : 1 ≤ n := by have := hs.cl; have := hs.n1; omega
  have h3 := h2.row_drop (j := 1) (by omega) hn.symm
  refine ⟨{ c with vc := .slice (some ⟨g, 1, none⟩) (n - 1) (cp - 1) }, { s with cl := s.cl.drop 1 }, bx.set' rfl, ⟨h1.eg, by simpa using h3, h1.eu, h1.et, h1.es⟩, (hs.stb.of rfl rfl rfl), bad_cl hs, bb.setCell (p := ⟨X, 3, none⟩) hX _⟩
theorem bad_1z (o : StO base w c s) (bx : StBox w X c s) (hX : wg.heap.size ≤ X) (bb : Below wg.heap.size wg w) (hs : Shp s) {n cp : Nat} {A : Option Addr} (hn : s.cl.length = n) (hz : n - 1 = 0) : BadAt wg X (w.setCell ⟨X, 3, none⟩ (.slice A (n - 1) cp)) := by
  have h1 := (o.setbx bx 3 (.slice A (n - 1) cp)).at
  have hd : s.cl.drop 1 = [] := List.drop_eq_nil_iff.2 (by omega)
  refine ⟨{ c with vc := .slice A (n - 1) cp }, { s with cl := s.cl.drop 1 }, bx.set' rfl, ⟨h1.eg, ?_, h1.eu, h1.et, h1.es⟩, (hs.stb.of rfl rfl rfl), bad_cl hs, bb.setCell (p := ⟨X, 3, none⟩) hX _⟩
  show EV encI 1 _ (.slice A (n - 1) cp) (s.cl.drop 1)
  rw [hd, hz]
  exact EV.nil _ _
theorem bad_t (o : StO base w c s) (bx : StBox w X c s) (hge : wg.heap.size ≤ base) (bb : Below wg.heap.size wg w) (hs : Shp s) {g n cp r j : Nat} (hv : c.vt = .slice (some ⟨g, 0, none⟩) n cp) {t t' : Tk} (ht : s.ts[r]? = some t) (hj : j < 8) {u : Value} (he : encT t' = (encT t).set j u)
    (hb : ¬ (t'.id ≤ 65535 ∧ t'.g < (s.gs.length : Nat) ∧ 1 ≤ t'.wt ∧ 0 ≤ t'.cpu)) : BadAt wg X (w.setCell ⟨g, r * 8 + j, none⟩ u) := by
  obtain ⟨o2, gr⟩ := o.setT hv ht hj he
  have ot := o.ot
  rw [hv] at ot
  have hrl := (List.getElem?_eq_some_iff.1 ht).1
  have hbl := (ot.block g rfl).1
  refine ⟨c, { s with ts := s.ts.set r t' }, bx.oth (ot.ne_box bx (by decide)) rfl rfl, o2.at, hs.stb.of rfl (by simp) rfl, bad_ts _ (t := t') ?_ hb, bb.setCell (p := ⟨g, r * 8 + j, none⟩) (Nat.le_trans hge hbl) _⟩
  exact List.mem_of_getElem? (i := r) (by rw [List.getElem?_set_self hrl])
theorem bad_4 (o : StO base w c s) (bx : StBox w X c s) (hge : wg.heap.size ≤ base) (bb : Below wg.heap.size wg w) (hs : Shp s) {gs n cp : Nat} (hv : c.vs = .slice (some ⟨gs, 0, none⟩) n cp) {x : Value × List Sp} (hx : s.ss[0]? = some x) {g m cx : Nat} (hx1 : x.1 = .slice (some ⟨g, 0, none⟩) m cx) :
    BadAt wg X (w.setCell ⟨gs, 0, none⟩ (.slice (some ⟨g, 3, none⟩) (m - 1) (cx - 1))) := by
  have os := o.os
  rw [hv] at os
  have hbl := (os.block gs rfl).1
  have hrl := (List.getElem?_eq_some_iff.1 hx).1
  have hxm := List.mem_of_getElem? hx
  have hn : s.ss.length = n := by
    obtain ⟨A, c9, h9⟩ := (os.ev encR_len).shape
    simp only [Value.slice.injEq] at h9
    exact h9.2.1.symm
  have hxe := (o.orr x hxm).ev encS_len
  rw [hx1] at hxe
  have hml : x.2.length = m := by
    obtain ⟨A, c9, h9⟩ := hxe.shape
    simp only [Value.slice.injEq] at h9
    exact h9.2.1.symm
  have hrow := hs.row x hxm
  have hn1 := hs.n1
  obtain ⟨o2, gr⟩ := os.setF encR_len hn hx (j := 0) (by omega) ((.slice (some ⟨g, 3, none⟩) (m - 1) (cx - 1), x.2.drop 1) : Value × List Sp) (.slice (some ⟨g, 3, none⟩) (m - 1) (cx - 1)) rfl
  simp only [Nat.zero_mul, Nat.add_zero] at o2 gr
  have oss := o.os
  have nz : ∀ {α : Type} {enc : α → List Value} {k : Nat} {e : TypeId} {v : Value} {xs : List α}, OV enc k e base w v xs → e ≠ 52 → OV enc k e base (w.setCell ⟨gs, 0, none⟩ (.slice (some ⟨g, 3, none⟩) (m - 1) (cx - 1))) v xs := fun h he => h.keep gr (h.ne2 os he)
  have hnew := (show EV encS 3 _ (.slice (some ⟨g, 0, none⟩) m cx) x.2 from hx1 ▸ (nz (o.orr x hxm) (by decide)).ev encS_len).row_drop (j := 1) (by omega) hml.symm
  refine ⟨c, { s with ss := s.ss.set 0 (.slice (some ⟨g, 3, none⟩) (m - 1) (cx - 1), x.2.drop 1) }, bx.oth (os.ne_box bx (by decide)) rfl rfl,
    ⟨(nz o.og (by decide)).ev encG_len, (nz o.oc (by decide)).ev encI_len, (nz o.ou (by decide)).ev encI_len, (nz o.ot (by decide)).ev encT_len, ⟨hv ▸ o2.ev encR_len, fun y hy => ?_⟩⟩, hs.stb.of rfl rfl rfl,
    bad_row hs _ (y := (.slice (some ⟨g, 3, none⟩) (m - 1) (cx - 1), x.2.drop 1)) (List.mem_of_getElem? (i := 0) (by rw [List.getElem?_set_self hrl])) ?_, bb.setCell (p := ⟨gs, 0, none⟩) (Nat.le_trans hge hbl) _⟩
  · rcases List.mem_or_eq_of_mem_set hy with h | rfl
    · exact (nz (o.orr y h) (by decide)).ev encS_len
    · simpa using hnew
  · dsimp only
    rw [List.length_drop, hml]
    have := hrow
    omega
theorem bad_4z (o : StO base w c s) (bx : StBox w X c s) (hge : wg.heap.size ≤ base) (bb : Below wg.heap.size wg w) (hs : Shp s) {gs n cp : Nat} (hv : c.vs = .slice (some ⟨gs, 0, none⟩) n cp) {x : Value × List Sp} (hx : s.ss[0]? = some x) {m cx : Nat} {A : Option Addr} (hm : x.2.length = m) (hz : m - 1 = 0) :
    BadAt wg X (w.setCell ⟨gs, 0, none⟩ (.slice A (m - 1) cx)) := by
  have os := o.os
  rw [hv] at os
  have hbl := (os.block gs rfl).1
  have hrl := (List.getElem?_eq_some_iff.1 hx).1
  have hxm := List.mem_of_getElem? hx
  have hn : s.ss.length = n := by
    obtain ⟨A, c9, h9⟩ := (os.ev encR_len).shape
    simp only [Value.slice.injEq] at h9
    exact h9.2.1.symm
  have hrow := hs.row x hxm
  have hn1 := hs.n1
  have hd : x.2.drop 1 = [] := List.drop_eq_nil_iff.2 (by omega)
  obtain ⟨o2, gr⟩ := os.setF encR_len hn hx (j := 0) (by omega) ((.slice A (m - 1) cx, x.2.drop 1) : Value × List Sp) (.slice A (m - 1) cx) rfl
  simp only [Nat.zero_mul, Nat.add_zero] at o2 gr
  have nz : ∀ {α : Type} {enc : α → List Value} {k : Nat} {e : TypeId} {v : Value} {xs : List α}, OV enc k e base w v xs → e ≠ 52 → OV enc k e base (w.setCell ⟨gs, 0, none⟩ (.slice A (m - 1) cx)) v xs := fun h he => h.keep gr (h.ne2 os he)
  refine ⟨c, { s with ss := s.ss.set 0 (.slice A (m - 1) cx, x.2.drop 1) }, bx.oth (os.ne_box bx (by decide)) rfl rfl,
    ⟨(nz o.og (by decide)).ev encG_len, (nz o.oc (by decide)).ev encI_len, (nz o.ou (by decide)).ev encI_len, (nz o.ot (by decide)).ev encT_len, ⟨hv ▸ o2.ev encR_len, fun y hy => ?_⟩⟩, hs.stb.of rfl rfl rfl,
    bad_row hs _ (y := (.slice A (m - 1) cx, x.2.drop 1)) (List.mem_of_getElem? (i := 0) (by rw [List.getElem?_set_self hrl])) ?_, bb.setCell (p := ⟨gs, 0, none⟩) (Nat.le_trans hge hbl) _⟩
  · rcases List.mem_or_eq_of_mem_set hy with h | rfl
    · exact (nz (o.orr y h) (by decide)).ev encS_len
    · show EV encS 3 _ (.slice A (m - 1) cx) (x.2.drop 1)
      rw [hd, hz]
      exact EV.nil _ _
  · dsimp only
    rw [List.length_drop, hm]
    omega
theorem bad_2 (o : StO base w c s) (bx : StBox w X c s) (hX : wg.heap.size ≤ X) (hge : wg.heap.size ≤ base) (hbs : base ≤ w.heap.size) (bb : Below wg.heap.size wg w) (hs : Shp s) {g n cp A : Nat} (hv : c.vu = .slice (some ⟨g, 0, none⟩) n cp) (hn : s.cu.length = n) (hA : w.cell? ⟨A, 0, none⟩ = some (.int .i64 0)) (ty : TypeId) :
    ∃ v' w', (Builtin.append_ #[34, 34] ty #[.slice (some ⟨g, 0, none⟩) n cp, .slice (some ⟨A, 0, none⟩) 1 1]).run Try.prog w = .ok v' w' ∧ (∃ A m c, v' = .slice A m c) ∧ (∃ u, w'.cell? ⟨X, 4, none⟩ = some u) ∧ w'.frozen? ⟨X, 4, none⟩ = false ∧ BadAt wg X (w'.setCell ⟨X, 4, none⟩ v') := by
  obtain ⟨i, z, hi, hz, hsz, hby, hzs⟩ := elemI.hi
  have own := o.ou
  rw [hv] at own
  have hn64 : n ≤ 64 := by have := hs.cu; have := hs.n2; omega
  have hnews : ∀ j u, [Value.int .i64 0][j]? = some u → w.cell? ((⟨A, 0, none⟩ : Addr).add j) = some u := by
    intro j u hj
    rcases j with _ | j
    · simp at hj; subst hj; rw [Addr.add_lit]; exact hA
    · simp at hj
  obtain ⟨v', w', hr, ho, hg, _⟩ := run_append_own (P := Try.prog) w base 34 ty 3 i z 1 8 elemI.ht hi hz hsz hby hzs (by decide) _ s.cu.length _ own ⟨A, 0, none⟩ 1 1 [.int .i64 0] rfl hnews (by simp [Value.oneCell']) (by unfold maxLen; omega) (by omega) hbs
  have ho' : OV encI 1 3 base w' v' (s.cu ++ [0]) := by
    unfold OV
    rw [List.length_append, List.flatMap_append]
    exact ho
  have front : ∀ p u, w.cell? p = some u → (p.block = g → p.off < n) → (∃ k, p = ⟨p.block, k, none⟩) → w'.cell? p = some u := by
    rcases own.2 with ⟨h, _⟩ | ⟨g', cap, cur, h1, _, hgg, hnc, _, hcs, htk⟩
    · cases h
    · simp only [Value.slice.injEq, Option.some.injEq, Addr.mk.injEq, and_true] at h1
      obtain ⟨rfl, h2, rfl⟩ := h1
      rw [← h2] at hnc htk
      exact append_front elemI.ht hi hz hgg hsz (by rw [hcs, Nat.mul_one]) hnc (xs := s.cu.flatMap encI) (by rw [← htk, Nat.mul_one]) ⟨A, 0, none⟩ 1 (.int .i64 0) hA (Addr.add_lit ..) rfl (by rw [hby]; omega) (by unfold maxLen; omega) hr
  have nz : ∀ {α : Type} {enc : α → List Value} {k : Nat} {e : TypeId} {v : Value} {xs : List α}, OV enc k e base w v xs → e ≠ 3 → OV enc k e base w' v xs := fun h he => h.keep hg (h.ne2 own he)
  have hec : EV encI 1 w' c.vc s.cl := by
    have hcl : s.cl.length = n := by have := hs.cl; have := hs.cu; omega
    obtain ⟨gc, cc, hvc, _, _⟩ := o.oc.form (by have := hs.n1; have := hs.cl; omega)
    rcases o.oc.ev encI_len with h | ⟨hne, b, off, c9, h2, h3, h4⟩
    · exact .inl h
    · rw [hvc] at h2
      simp only [Value.slice.injEq, Option.some.injEq, Addr.mk.injEq, and_true] at h2
      obtain ⟨⟨rfl, rfl⟩, _⟩ := h2
      refine .inr ⟨hne, gc, 0, cc, hvc, by omega, fun i' x hx j u hu => front _ _ (h4 i' x hx j u hu) (fun _ => ?_) ⟨_, rfl⟩⟩
      have hil := (List.getElem?_eq_some_iff.1 hx).1
      have hjl := (List.getElem?_eq_some_iff.1 hu).1
      rw [encI_len] at hjl
      dsimp only
      omega
  have bx2 : StBox w' X c s := by
    unfold StBox
    rw [hg.block X bx.lt (fun e => by
      rcases own.ne_bx bx (by decide) with h | h
      · cases h
      · exact h e.symm)]
    exact bx
  have bb2 : Below wg.heap.size wg w' := bb.grown hg bb.size (by intro k hk; simp [Value.ownBlock] at hk; subst hk; exact Nat.le_trans hge (own.block _ rfl).1)
  refine ⟨v', w', hr, (by obtain ⟨A, c9, h⟩ := (ho'.ev encI_len).shape; exact ⟨A, _, c9, h⟩), ⟨_, bx2.cell.2.2.2.2.1⟩, bx2.frz 4, { c with vu := v' }, { s with cu := s.cu ++ [0] }, bx2.set' rfl, ?_, hs.stb.of rfl rfl rfl, bad_cu hs 0, bb2.setCell (p := ⟨X, 4, none⟩) hX _⟩
  have hcb : ∀ {α : Type} {enc : α → List Value} {k : Nat} {v : Value} {xs : List α}, EV enc k w' v xs → (∀ b o n c, v = .slice (some ⟨b, o, none⟩) n c → b ≠ X) → EV enc k (w'.setCell ⟨X, 4, none⟩ v') v xs := fun h hne => h.keepS fun p u ⟨_, off, n, cap, he⟩ hc => by
    rw [World.cell?_setCell_other _ _ _ _ (fun e => hne _ _ _ _ he (by rw [← e]))]; exact hc
  have nb : ∀ {α : Type} {enc : α → List Value} {k : Nat} {e : TypeId} {b' : Nat} {v : Value} {xs : List α}, OV enc k e b' w' v xs → e ≠ 38 → ∀ b o n c, v = .slice (some ⟨b, o, none⟩) n c → b ≠ X := fun h he b o n c9 hv hb => by
    subst hb
    rcases h.ne_bx bx2 he with h1 | h1
    · rw [hv] at h1; cases h1
    · rw [hv] at h1; exact h1 rfl
  have nbc : ∀ b o n c9, c.vc = .slice (some ⟨b, o, none⟩) n c9 → b ≠ X := fun b o' n c9 hv hb => by
    subst hb
    rcases o.oc.ne_bx bx (by decide) with h1 | h1
    · rw [hv] at h1; cases h1
    · rw [hv] at h1; exact h1 rfl
  exact ⟨hcb ((nz o.og (by decide)).ev encG_len) (nb (nz o.og (by decide)) (by decide)), hcb hec nbc, hcb (ho'.ev encI_len) (nb ho' (by decide)), hcb ((nz o.ot (by decide)).ev encT_len) (nb (nz o.ot (by decide)) (by decide)),
    ⟨hcb ((nz o.os (by decide)).ev encR_len) (nb (nz o.os (by decide)) (by decide)), fun x hx => hcb ((nz (o.orr x hx) (by decide)).ev encS_len) (nb (nz (o.orr x hx) (by decide)) (by decide))⟩⟩
theorem rows_of : ∀ l : List (Value × List Sp), (∀ x ∈ l, ∃ p : SV, x.1 = p.v) → ∃ ys : List (SV × List Sp), ys.map rowOf = l
  | [], _ => ⟨[], rfl⟩
  | x :: r, h => by
    obtain ⟨ys, hy⟩ := rows_of r fun y hy => h y (List.mem_cons_of_mem _ hy)
    obtain ⟨p, hp⟩ := h x (List.mem_cons_self ..)
    exact ⟨(p, x.2) :: ys, by rw [List.map_cons, hy]; unfold rowOf; rw [← hp]⟩
theorem bad_3 (o : StO base w c s) (bx : StBox w X c s) (hX : wg.heap.size ≤ X) (hge : wg.heap.size ≤ base) (hbs : base ≤ w.heap.size) (bb : Below wg.heap.size wg w) (hs : Shp s) {sv : Value} (hA : EV encW 1 w sv [((none, 0, 0), [])]) (ty : TypeId) :
    ∃ v' w', (Builtin.append_ #[36, 36] ty #[c.vs, sv]).run Try.prog w = .ok v' w' ∧ (∃ A m c, v' = .slice A m c) ∧ (∃ u, w'.cell? ⟨X, 6, none⟩ = some u) ∧ w'.frozen? ⟨X, 6, none⟩ = false ∧ BadAt wg X (w'.setCell ⟨X, 6, none⟩ v') := by
  obtain ⟨ys, hys⟩ := rows_of s.ss fun x hx => by
    obtain ⟨A, c9, h⟩ := ((o.orr x hx).ev encS_len).shape
    exact ⟨(A, _, c9), h⟩
  have os := o.os
  rw [← hys] at os
  have hlen : ys.length ≤ 256 := by
    have h1 := congrArg List.length hys
    rw [List.length_map, hs.ss] at h1
    have := (right_iff.1 hs.right).many
    omega
  obtain ⟨v', w', hr, ho, hg⟩ := run_app elemW encW_len encW_one ty os.rows' hA (by simp; omega) hbs
  have nz : ∀ {α : Type} {enc : α → List Value} {k : Nat} {e : TypeId} {v : Value} {xs : List α}, OV enc k e base w v xs → e ≠ 52 → OV enc k e base w' v xs := fun h he => h.keep hg (h.ne2 o.os he)
  have bx2 : StBox w' X c s := by
    unfold StBox
    rw [hg.block X bx.lt (fun e => by
      rcases o.os.ne_bx bx (by decide) with h | h
      · rw [h] at e; cases e
      · exact h e.symm)]
    exact bx
  have bb2 : Below wg.heap.size wg w' := bb.grown hg bb.size (fun k hk => Nat.le_trans hge (o.os.block _ hk).1)
  refine ⟨v', w', hr, (by obtain ⟨A, c9, h⟩ := (ho.ev encW_len).shape; exact ⟨A, _, c9, h⟩), ⟨_, bx2.cell.2.2.2.2.2.2⟩, bx2.frz 6, { c with vs := v' }, { s with ss := (ys ++ [((none, 0, 0), [])]).map rowOf }, bx2.set' rfl, ?_, hs.stb.of rfl rfl rfl, bad_ss hs _ ?_, bb2.setCell (p := ⟨X, 6, none⟩) hX _⟩
  · have so : ∀ {α : Type} {enc : α → List Value} {k : Nat} {e : TypeId} {v : Value} {xs : List α}, OV enc k e base w' v xs → e ≠ 38 → OV enc k e base (w'.setCell ⟨X, 6, none⟩ v') v xs := fun h he => h.setbx bx2 he 6 v'
    refine ⟨(so (nz o.og (by decide)) (by decide)).ev encG_len, (so (nz o.oc (by decide)) (by decide)).ev encI_len, (so (nz o.ou (by decide)) (by decide)).ev encI_len, (so (nz o.ot (by decide)) (by decide)).ev encT_len, (so ho.rows (by decide)).ev encR_len, fun x hx => ?_⟩
    rw [List.map_append, hys] at hx
    rcases List.mem_append.1 hx with h | h
    · exact (so (nz (o.orr x h) (by decide)) (by decide)).ev encS_len
    · simp at h
      subst h
      exact EV.nil _ _
  · rw [List.length_map, List.length_append, ← hys, List.length_map]; rfl
end
end Go.Proofs.Ytenngfkgfdogjaa
namespace Go.Proofs.Ytenngfkgfdogjaa
open Go Go.RowKit Go.Shelf
attribute [local go_sem] Oper.semAt_some

theorem wpList_app_run {P : Program} {w : World} {t : TypeId} {ops : Array Oper} {rest : List Oper} {o : Oper} {a : Act} {Q : Exit → Act → World → Prop}
    (hgd : o.guard = none) (s x : Operand) (ho : o.op = .call { callee := .builtin .append, args := #[s, x], argTypes := #[t, t] })
    (v sv : Value) (hs : a.eval s = v) (hx : a.eval x = sv) {R : Value → World → Prop} (hr : ∃ v' w', (Builtin.append_ #[t, t] o.type #[v, sv]).run P w = .ok v' w' ∧ R v' w')
    (h : ∀ v' w', R v' w' → wpList P ops Q rest (a.put o.dst v') w') : wpList P ops Q (o :: rest) a w := by
  refine wpList_plain hgd fun _ hK => ?_
  obtain ⟨v', w', hr, h2⟩ := hr
  unfold Oper.wp execOp
  simp only [ho, resolve, invoke, builtin, Sem.run_bind, Sem.run_pure, Result.andThen_ok, List.map_toArray, List.map_cons, List.map_nil, hs, hx, hr]
  exact hK _ _ (h v' w' h2)
theorem cell_new1 {w : World} {N : Nat} {u : Value} {e : TypeId} (hN : w.heap.size = N) : (w.alloc (.cells #[u] e)).cell? ⟨N, 0, none⟩ = some u := by
  subst hN
  rw [cell_of_row _ _ _ _ _ _ (heap_alloc_new w _)]; rfl
set_option maxRecDepth 100000 in
set_option maxHeartbeats 6400000 in
theorem wrong_t6 (w wg w0 : World) (X Xb base g T cap r way : Nat) (c cb : StC) (s sb : St) (x : Int) {u0 u1 u2 u5 u6 u7 u8 u9 u10 u14 u15 u16 u17 u18 u19 u20 u21 u22 u23 u24 u25 u26 u27 u28 u29 u30 u31 u32 u33 u34 u35 u36 u37 u38 u39 u40 u41 u42 u43 u44 u45 u46 u47 u48 u49 u50 u51 u52 u53 u54 u55 u56 u57 u58 u59 u60 u61 u62 u63 u64 u65 u66 u67 u68 u69 u70 u71 u72 u73 u74 u75 u76 u77 u78 u79 u80 u81 u82 u83 u84 u85 u86 u87 u88 u89 u90 u91 u92 u93 u94 u95 u96 u97 u98 u99 u100 u101 u102 u103 u104 u105 u106 u107 u108 u109 u110 u111 u112 u113 u114 u115 u116 u117 u118 u119 u120 u121 u122 u123 u124 u125 u126 u127 u128 u129 u130 u131 u132 u133 u134 u135 u136 u137 u138 u139 u140 u141 u142 u143 u144 u145 u146 u147 u148 u149 u150 u151 u152 u153 u154 u155 u156 u157 u158 u159 u160 u161 u162 u163 u164 u165 u166 u167 u168 u169 u170 u171 u172 u173 u174 u175 u176 u177 u178 u179 u180 u181 u182 u183 u184 u185 u186 u187 u188 u189 u190 u191 u192 u193 u194 u195 u196 u197 u198 u199 u200 u201 u202 u203 u204 u205 u206 u207 u208 u209 u210 u211 u212 u213 u214 u215 u216 u217 u218 u219 u220 u221 u222 u223 u224 u225 u226 u227 u228 u229 u230 u231 u232 u233 u234 u235 u236 u237 u238 u239 u240 u241 u242 u243 u244 u245 u246 u247 u248 u249 u250 u251 u252 u253 u254 u255 u256 u257 u258 u259 u260 u261 : Value} (hat : StAt wg c s) (bx : StBox wg X c s) (hb : Below w.heap.size w wg) (hs : Shp s) (hg : s.gs.length ≤ 11) (hn : s.n ≤ 8) (hx1 : -9223372036854775808 ≤ x) (hx2 : x ≤ 9223372036854775807)
    (ob : StO base w0 cb sb) (bxb : StBox w0 Xb cb sb) (hX : wg.heap.size ≤ Xb) (hge : wg.heap.size ≤ base) (hbs : base ≤ w0.heap.size) (bb : Below wg.heap.size wg w0) (hsb : Shp sb) (hsn : sb.n = s.n) (hvt : cb.vt = .slice (some ⟨g, 0, none⟩) T cap) (hT : sb.ts.length = T) (hr : r + 1 = T) (hw : way < 256) :
    Code.wp Try.prog (tailR Try.f8 6) (bodyPost Try.prog Try.f8 fun e w' => e = .returned (.bool true) ∧ Below w.heap.size w w')
      ⟨#[u0, u1, u2, .int .u8 (way : Nat), .int .i64 x, u5, u6, u7, u8, u9, u10, .pointer (some ⟨X, 0, none⟩), .pointer (some ⟨Xb, 0, none⟩), .pointer (some ⟨g, r * 8, none⟩), u14, u15, u16, u17, u18, u19, u20, u21, u22, u23, u24, u25, u26, u27, u28, u29, u30, u31, u32, u33, u34, u35, u36, u37, u38, u39, u40, u41, u42, u43, u44, u45, u46, u47, u48, u49, u50, u51, u52, u53, u54, u55, u56, u57, u58, u59, u60, u61, u62, u63, u64, u65, u66, u67, u68, u69, u70, u71, u72, u73, u74, u75, u76, u77, u78, u79, u80, u81, u82, u83, u84, u85, u86, u87, u88, u89, u90, u91, u92, u93, u94, u95, u96, u97, u98, u99, u100, u101, u102, u103, u104, u105, u106, u107, u108, u109, u110, u111, u112, u113, u114, u115, u116, u117, u118, u119, u120, u121, u122, u123, u124, u125, u126, u127, u128, u129, u130, u131, u132, u133, u134, u135, u136, u137, u138, u139, u140, u141, u142, u143, u144, u145, u146, u147, u148, u149, u150, u151, u152, u153, u154, u155, u156, u157, u158, u159, u160, u161, u162, u163, u164, u165, u166, u167, u168, u169, u170, u171, u172, u173, u174, u175, u176, u177, u178, u179, u180, u181, u182, u183, u184, u185, u186, u187, u188, u189, u190, u191, u192, u193, u194, u195, u196, u197, u198, u199, u200, u201, u202, u203, u204, u205, u206, u207, u208, u209, u210, u211, u212, u213, u214, u215, u216, u217, u218, u219, u220, u221, u222, u223, u224, u225, u226, u227, u228, u229, u230, u231, u232, u233, u234, u235, u236, u237, u238, u239, u240, u241, u242, u243, u244, u245, u246, u247, u248, u249, u250, u251, u252, u253, u254, u255, u256, u257, u258, u259, u260, u261], []⟩ w0 := by
  conv => arg 2; whnf
  conv => arg 4; dsimp only
  obtain ⟨m, hm⟩ : ∃ m, way % 9 = m := ⟨_, rfl⟩
  have e1 : (way : Int) % 9 = (m : Int) := by rw [← hm]; rfl
  have hm9 : m < 9 := by rw [← hm]; exact Nat.mod_lt _ (by decide)
  have E1 := Lib.hid e1
  have HAT := Lib.hid hat
  have HBX := Lib.hid bx
  have HB := Lib.hid hb
  have HS := Lib.hid hs
  have HG := Lib.hid hg
  have HN := Lib.hid hn
  have HX1 := Lib.hid hx1
  have HX2 := Lib.hid hx2
  have OB := Lib.hid ob
  have BXB := Lib.hid bxb
  have HX := Lib.hid hX
  have HGE := Lib.hid hge
  have HBS := Lib.hid hbs
  have BB := Lib.hid bb
  have HSB := Lib.hid hsb
  have HSN := Lib.hid hsn
  have HVT := Lib.hid hvt
  have HT := Lib.hid hT
  have HR := Lib.hid hr
  clear hat bx hb hs hg hn hx1 hx2 ob bxb hX hge hbs bb hsb hsn hvt hT hr hm e1
  go_upto_block 0 with fail
  rw [E1.out]
  go_cut [] (fun wx => BadAt wg Xb wx)
  case first =>
    rcases (show m = 0 ∨ m = 1 ∨ m = 2 ∨ m = 3 ∨ m = 4 ∨ m = 5 ∨ m = 6 ∨ m = 7 ∨ m = 8 by omega) with rfl | rfl | rfl | rfl | rfl | rfl | rfl | rfl | rfl
    · have b0 := (HBX.out.below BB.out).cell.1
      have d0 := BXB.out.cell.1
      have fr := BXB.out.frz 0
      have w1 : IntKind.i64.wrap (s.n + 1) = s.n + 1 := IntWalk.i64_in _ (by have := HS.out.n1; have := HN.out; omega)
      go_wp2_with fail
      go_meet
      exact bad_0 OB.out BXB.out HX.out BB.out HSB.out (by rw [HSN.out]; omega) (by have := HX2.out; have := HN.out; omega)
    · obtain ⟨n, hn⟩ : ∃ n, sb.cl.length = n := ⟨_, rfl⟩
      obtain ⟨gc, cc, hvc, _, _⟩ := OB.out.oc.form (by have := HSB.out.cl; have := HSB.out.n1; omega)
      rw [hn] at hvc
      have d3 := BXB.out.cell.2.2.2.1
      rw [hvc] at d3
      have fr := BXB.out.frz 3
      have l1 : 1 ≤ n := by have := HSB.out.cl; have := HSB.out.n1; omega
      have l2 : (1 : Int) ≤ (n : Nat) := by omega
      have l3 : n ≤ cc := by
        have h := OB.out.oc
        rw [hvc] at h
        rcases h.2 with ⟨h, _⟩ | ⟨g', cap, cur, h1, _, _, hnc, _⟩
        · cases h
        · simp only [Value.slice.injEq] at h1; omega
      have l4 : (n : Int) ≤ (cc : Nat) := by omega
      have HN2 := Lib.hid hn
      have HVC := Lib.hid hvc
      clear hn hvc
      go_wp2_with fail
      all_goals
        go_meet
        first
          | exact bad_1 OB.out BXB.out HX.out BB.out HSB.out HVC.out HN2.out
          | exact bad_1z OB.out BXB.out HX.out BB.out HSB.out HN2.out (by omega)
    · obtain ⟨n, hn⟩ : ∃ n, sb.cu.length = n := ⟨_, rfl⟩
      obtain ⟨gc, cc, hvc, _, _⟩ := OB.out.ou.form (by have := HSB.out.cu; have := HSB.out.n1; omega)
      rw [hn] at hvc
      have d4 := BXB.out.cell.2.2.2.2.1
      rw [hvc] at d4
      have HN2 := Lib.hid hn
      have HVC := Lib.hid hvc
      have A1 := Lib.hid (bel_alloc w0 (.cells #[.int .i64 0] 3))
      clear hn hvc
      go_wp2_with (at_builtin; refine wpList_app_run rfl _ _ rfl _ _ rfl rfl (bad_2 (OB.out.below A1.out) (BXB.out.below A1.out) HX.out HGE.out (Nat.le_trans HBS.out A1.out.size) (below_step BB.out A1.out) HSB.out HVC.out HN2.out (cell_new1 rfl) _) ?_; rintro v' w' ⟨⟨A9, m9, c9, rfl⟩, ⟨u, hc⟩, hf, hbad⟩; have HBAD := Lib.hid hbad; clear hbad)
      go_wp2_with fail
      go_meet
      exact HBAD.out
    · have d6 := BXB.out.cell.2.2.2.2.2.2
      have A1 := Lib.hid (bel_alloc w0 (.cells #[.slice none 0 0] 52))
      have EN := Lib.hid (show EV encW 1 (w0.alloc (.cells #[.slice none 0 0] 52)) (.slice (some ⟨w0.heap.size, 0, none⟩) 1 1) [((none, 0, 0), [])] from EV.newL (xs := [(((none, 0, 0) : SV), ([] : List Sp))]) (n := 1) (c := 1) encW_len rfl rfl (Nat.le_refl _))
      go_wp2_with (at_builtin; refine wpList_app_run rfl _ _ rfl _ _ rfl rfl (bad_3 (OB.out.below A1.out) (BXB.out.below A1.out) HX.out HGE.out (Nat.le_trans HBS.out A1.out.size) (below_step BB.out A1.out) HSB.out EN.out _) ?_; rintro v' w' ⟨⟨A9, m9, c9, rfl⟩, ⟨u, hc⟩, hf, hbad⟩; have HBAD := Lib.hid hbad; clear hbad)
      go_wp2_with fail
      go_meet
      exact HBAD.out
    · obtain ⟨n, hn⟩ : ∃ n, sb.ss.length = n := ⟨_, rfl⟩
      have hn0 : 0 < n := by rw [← hn, HSB.out.ss]; have := (right_iff.1 HSB.out.right).pos; omega
      obtain ⟨gs, cs, hvs, _, _⟩ := OB.out.os.form (by omega)
      rw [hn] at hvs
      obtain ⟨y, hy⟩ : ∃ y, sb.ss[0]? = some y := ⟨_, List.getElem?_eq_getElem (by omega)⟩
      have hym := List.mem_of_getElem? hy
      obtain ⟨m, hm⟩ : ∃ m, y.2.length = m := ⟨_, rfl⟩
      have hm1 : 1 ≤ m := by have := HSB.out.row y hym; have := HSB.out.n1; omega
      obtain ⟨gx, cx, hx, _, _⟩ := (OB.out.orr y hym).form (by omega)
      rw [hm] at hx
      have d6 := BXB.out.cell.2.2.2.2.2.2
      rw [hvs] at d6
      have os := OB.out.os
      rw [hvs] at os
      have c0 := ((os.ev encR_len).row3 (by omega)) 0 y hy 0 _ rfl
      rw [hx] at c0
      simp only [Nat.zero_mul, Nat.add_zero] at c0
      have fr : w0.frozen? ⟨gs, 0, none⟩ = false := by
        unfold OV at os
        rw [hn] at os
        exact World.ownsRow.frozenAt os _
      have l0 : (0 : Int) < (n : Nat) := by omega
      have l2 : (1 : Int) ≤ (m : Nat) := by omega
      have l3 : m ≤ cx := by
        have h := OB.out.orr y hym
        rw [hx] at h
        rcases h.2 with ⟨h, _⟩ | ⟨g', cap, cur, h1, _, _, hnc, _⟩
        · cases h
        · simp only [Value.slice.injEq] at h1; omega
      have l4 : (m : Int) ≤ (cx : Nat) := by omega
      have HVS := Lib.hid hvs
      have HY := Lib.hid hy
      have HXX := Lib.hid hx
      have HM := Lib.hid hm
      clear hn hvs hy hym hm hx os
      go_upto_region 17 with fail
      go_still_tail 8, (by kernel_rfl)
      change wpList _ _ _ _ _ w0.drew
      have BD := Lib.hid (below_drew (Below.refl w0.heap.size w0))
      have fr : w0.drew.frozen? ⟨gs, 0, none⟩ = false := fr
      have c0 : w0.drew.cell? ⟨gs, 0, none⟩ = some (.slice (some ⟨gx, 0, none⟩) m cx) := c0
      have d6 : w0.drew.cell? ⟨Xb, 6, none⟩ = some (.slice (some ⟨gs, 0, none⟩) n cs) := d6
      have OBD := Lib.hid (OB.out.below BD.out)
      have BXD := Lib.hid (BXB.out.below BD.out)
      have BBD := Lib.hid (below_drew BB.out)
      generalize w0.drew = wd at fr c0 d6 OBD BXD BBD ⊢
      go_wp2_with fail
      all_goals
        go_meet
        first
          | exact bad_4 OBD.out BXD.out HGE.out BBD.out HSB.out HVS.out HY.out HXX.out
          | exact bad_4z OBD.out BXD.out HGE.out BBD.out HSB.out HVS.out HY.out HM.out (by omega)
    · obtain ⟨t, ht⟩ : ∃ t, sb.ts[r]? = some t := ⟨_, List.getElem?_eq_getElem (by rw [HT.out]; have := HR.out; omega)⟩
      obtain ⟨⟨u, hc⟩, hf⟩ := OB.out.tcell HVT.out ht (j := 0) (by omega)
      have HTT := Lib.hid ht
      try simp only [Nat.add_zero] at hc hf
      clear ht
      go_wp2_with fail
      go_meet
      exact bad_t OB.out BXB.out HGE.out BB.out HSB.out HVT.out HTT.out (j := 0) (by omega) (t' := { t with id := max x 65536 }) rfl (by dsimp only; omega)
    · obtain ⟨t, ht⟩ : ∃ t, sb.ts[r]? = some t := ⟨_, List.getElem?_eq_getElem (by rw [HT.out]; have := HR.out; omega)⟩
      obtain ⟨⟨u, hc⟩, hf⟩ := OB.out.tcell HVT.out ht (j := 2) (by omega)
      have HTT := Lib.hid ht
      try simp only [Nat.add_zero] at hc hf
      clear ht
      go_wp2_with fail
      go_meet
      exact bad_t OB.out BXB.out HGE.out BB.out HSB.out HVT.out HTT.out (j := 2) (by omega) (t' := { t with wt := min x 0 }) rfl (by dsimp only; omega)
    · obtain ⟨t, ht⟩ : ∃ t, sb.ts[r]? = some t := ⟨_, List.getElem?_eq_getElem (by rw [HT.out]; have := HR.out; omega)⟩
      obtain ⟨⟨u, hc⟩, hf⟩ := OB.out.tcell HVT.out ht (j := 1) (by omega)
      have HTT := Lib.hid ht
      try simp only [Nat.add_zero] at hc hf
      clear ht
      obtain ⟨Ag, cg, hvg⟩ := (OB.out.og.ev encG_len).shape
      have d2 := BXB.out.cell.2.2.1
      rw [hvg] at d2
      clear hvg
      go_wp2_with fail
      go_meet
      exact bad_t OB.out BXB.out HGE.out BB.out HSB.out HVT.out HTT.out (j := 1) (by omega) (t' := { t with g := max x (sb.gs.length : Nat) }) rfl (by dsimp only; omega)
    · obtain ⟨t, ht⟩ : ∃ t, sb.ts[r]? = some t := ⟨_, List.getElem?_eq_getElem (by rw [HT.out]; have := HR.out; omega)⟩
      obtain ⟨⟨u, hc⟩, hf⟩ := OB.out.tcell HVT.out ht (j := 3) (by omega)
      have HTT := Lib.hid ht
      try simp only [Nat.add_zero] at hc hf
      clear ht
      go_wp2_with fail
      go_meet
      exact bad_t OB.out BXB.out HGE.out BB.out HSB.out HVT.out HTT.out (j := 3) (by omega) (t' := { t with cpu := min x (-1) }) rfl (by dsimp only; omega)
  case rest =>
    obtain ⟨cb', sb', h1, h2, h3, h4, h5⟩ := hcut
    refine (‹∀ (a : Act) (w : World), Code.wp _ _ _ a w → _› : ∀ (a : Act) (w : World), _ → _) _ _ (wrong_t24 w _ X Xb c cb' s sb' x (HAT.out.below h5) (HBX.out.below h5) h2 h1 (HB.out.trans (h5.mono HB.out.size)) HS.out h3 h4 HG.out HN.out HX1.out HX2.out)
end Go.Proofs.Ytenngfkgfdogjaa
