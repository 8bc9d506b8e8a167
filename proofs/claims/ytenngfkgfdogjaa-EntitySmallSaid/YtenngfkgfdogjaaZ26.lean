/- States whose floors are written over: what stays | The walk of the law EntityFloors. -/
import Derived.Test.YtenngfkgfdogjaaZ25
set_option linter.unusedVariables false
set_option linter.unusedSimpArgs false
set_option linter.unusedSectionVars false
namespace Go.Proofs.Ytenngfkgfdogjaa
open Go Go.RowKit Go.Shelf

/-- The spot q of group g in a state's rows. -/
theorem spotV_get {s : St} {g q : Nat} {x : Value × List Sp} {y : Sp} (hx : s.ss[g]? = some x) (hy : x.2[q]? = some y) : spotV s g (q : Nat) = y := by
  unfold spotV
  rw [hx, Option.getD_some, Int.toNat_natCast, hy]; rfl
/-- s' is s, but for floors; those of P are what they become. -/
structure FlS (s s' : St) (P : Nat → Nat → Prop) : Prop where
  n : s'.n = s.n
  cr : s'.cr = s.cr
  gs : s'.gs = s.gs
  cl : s'.cl = s.cl
  cu : s'.cu = s.cu
  ts : s'.ts = s.ts
  fst : s'.ss.map Prod.fst = s.ss.map Prod.fst
  lens : s'.ss.map (fun x => x.2.length) = s.ss.map (fun x => x.2.length)
  v : ∀ g q : Nat, (spotV s' g (q : Nat)).v = (spotV s g (q : Nat)).v
  fl : ∀ g q : Nat, P g q → g < s.gs.length → (q : Int) < s.n → (spotV s' g (q : Nat)).fl = floorV s g q
section
variable {s s' : St} {P : Nat → Nat → Prop}
theorem FlS.refl (s : St) : FlS s s (fun _ _ => False) := ⟨rfl, rfl, rfl, rfl, rfl, rfl, rfl, rfl, fun _ _ => rfl, fun _ _ h => h.elim⟩
theorem FlS.len (h : FlS s s' P) : s'.ss.length = s.ss.length := by have := congrArg List.length h.fst; simpa using this
theorem FlS.shp (h : FlS s s' P) (hs : Shp s) : Shp s' := by
  refine ⟨by rw [h.n]; exact hs.n1, by rw [h.n]; exact hs.n2, by rw [h.gs]; exact hs.right, by rw [h.cl, h.n]; exact hs.cl, by rw [h.cu, h.n]; exact hs.cu, by rw [h.len, h.gs]; exact hs.ss, fun x hx => ?_, by rw [h.n, h.gs, h.ts]; exact hs.tks⟩
  have : x.2.length ∈ s.ss.map (fun x => x.2.length) := by rw [← h.lens]; exact List.mem_map.2 ⟨x, hx, rfl⟩
  obtain ⟨y, hy, e⟩ := List.mem_map.1 this
  rw [h.n, ← e]; exact hs.row y hy
theorem spotV_cast (s : St) (g : Nat) (cpu : Int) : spotV s g cpu = spotV s g ((cpu.toNat : Nat) : Int) := by unfold spotV; rw [Int.toNat_natCast]
theorem FlS.mem (h : FlS s s' P) : memL s' = memL s := by
  have hr : rdyL s' = rdyL s := by funext cpu; unfold rdyL; rw [h.ts]
  have hk : spKey s' = spKey s := by funext cpu x; unfold spKey; rw [spotV_cast, spotV_cast s, h.v]
  have hc : isCh s' = isCh s := by funext g cpu x; unfold isCh; rw [h.gs, hr]
  funext g cpu
  unfold memL tksK grpK
  rw [hr, hk, hc, h.gs]
theorem FlS.all (h : FlS s s' P) (hs : Shp s) (hP : ∀ g q : Nat, g < s.gs.length → (q : Int) < s.n → P g q) : flE s' = flE s := by
  rw [flE_pos (shp_iff.2 (h.shp hs)), flE_pos (shp_iff.2 hs), h.gs, h.n]
  refine List.map_congr_left fun g hg => ?_
  unfold rowF
  refine List.map_congr_left fun q hq => ?_
  have hg := List.mem_range.1 hg
  have hq : (q : Int) < s.n := by have := List.mem_range.1 hq; have := hs.n1; omega
  have hf := h.fl g q (hP g q hg hq) hg hq
  rw [floorV_eq, floorV_eq, h.mem, hf, floorV_eq]
  cases memL s g q with
  | nil => rfl
  | cons k l => dsimp only; rw [Int.max_assoc, Int.max_self]
end
/-- One floor is written. -/
def setFl (s : St) (g q : Nat) (x : Value × List Sp) (y : Sp) (f : Int) : St := { s with ss := s.ss.set g (x.1, x.2.set q { y with fl := f }) }
section
variable {s s' : St} {P : Nat → Nat → Prop} {g q : Nat} {x : Value × List Sp} {y : Sp}
theorem spotV_setFl (hx : s'.ss[g]? = some x) (hy : x.2[q]? = some y) (f : Int) (g2 q2 : Nat) : spotV (setFl s' g q x y f) g2 (q2 : Nat) = if g2 = g ∧ q2 = q then { y with fl := f } else spotV s' g2 (q2 : Nat) := by
  have hgl := (List.getElem?_eq_some_iff.1 hx).1
  have hql := (List.getElem?_eq_some_iff.1 hy).1
  by_cases hg : g2 = g
  · subst hg
    have hs : (setFl s' g2 q x y f).ss[g2]? = some (x.1, x.2.set q { y with fl := f }) := by show (s'.ss.set _ _)[g2]? = _; rw [List.getElem?_set_self hgl]
    by_cases hq : q2 = q
    · subst hq
      rw [if_pos ⟨rfl, rfl⟩]
      exact spotV_get hs (by show (x.2.set _ _)[q2]? = _; rw [List.getElem?_set_self hql])
    · rw [if_neg (fun h => hq h.2)]
      unfold spotV
      rw [hs, hx, Option.getD_some, Option.getD_some, Int.toNat_natCast]
      show ((x.2.set _ _)[q2]?).getD _ = _
      rw [List.getElem?_set_ne (fun e => hq e.symm)]
  · rw [if_neg (fun h => hg h.1)]
    unfold spotV
    show ((((s'.ss.set _ _)[g2]?).getD _).2[_]?).getD _ = _
    rw [List.getElem?_set_ne (fun e => hg e.symm)]
theorem map_set_same {α β : Type} (f : α → β) : ∀ (l : List α) (i : Nat) (a b : α), l[i]? = some a → f b = f a → (l.set i b).map f = l.map f
  | [], _, _, _, h, _ => by simp at h
  | z :: r, 0, a, b, h, he => by
    have h : z = a := by simpa using h
    subst h
    show (b :: r).map f = (z :: r).map f
    rw [List.map_cons, List.map_cons, he]
  | z :: r, i + 1, a, b, h, he => by rw [List.set_cons_succ, List.map_cons, List.map_cons, map_set_same f r i a b (by simpa using h) he]
theorem FlS.set (h : FlS s s' P) (hx : s'.ss[g]? = some x) (hy : x.2[q]? = some y) : FlS s (setFl s' g q x y (floorV s g q)) (fun a b => P a b ∨ (a = g ∧ b = q)) := by
  refine ⟨h.n, h.cr, h.gs, h.cl, h.cu, h.ts, ?_, ?_, fun g2 q2 => ?_, fun g2 q2 hp hg hq => ?_⟩
  · rw [← h.fst]; exact map_set_same Prod.fst s'.ss g x _ hx rfl
  · rw [← h.lens]; exact map_set_same (fun x => x.2.length) s'.ss g x (x.1, x.2.set q { y with fl := floorV s g q }) hx (List.length_set ..)
  · rw [spotV_setFl hx hy]
    split
    · rename_i e; obtain ⟨rfl, rfl⟩ := e
      rw [← h.v, spotV_get hx hy]
    · exact h.v g2 q2
  · rw [spotV_setFl hx hy]
    split
    · rename_i e; obtain ⟨rfl, rfl⟩ := e; rfl
    · rename_i e
      rcases hp with hp | hp
      · exact h.fl g2 q2 hp hg hq
      · exact absurd hp e
theorem FlS.weaken {P' : Nat → Nat → Prop} (h : FlS s s' P) (hp : ∀ a b : Nat, a < s.gs.length → (b : Int) < s.n → P' a b → P a b) : FlS s s' P' :=
  ⟨h.n, h.cr, h.gs, h.cl, h.cu, h.ts, h.fst, h.lens, h.v, fun a b hp' ha hb => h.fl a b (hp a b ha hb hp') ha hb⟩
theorem RowsB.of_fst (h : RowsB s) (he : s'.ss.map Prod.fst = s.ss.map Prod.fst) : RowsB s' := by
  unfold RowsB at *
  have h1 : (s.ss.map Prod.fst).Pairwise fun a b => a.ownBlock ≠ b.ownBlock := List.pairwise_map.2 h
  rw [← he] at h1
  exact (List.pairwise_map (R := fun a b : Value => a.ownBlock ≠ b.ownBlock)).1 h1
end
/-- The state's memory when one floor is written. -/
theorem StO.setFl {base gb cap n : Nat} {w : World} {c : StC} {s : St} {g q : Nat} {x : Value × List Sp} {y : Sp} (h : StO base w c s) (hr : RowsB s) (hx : s.ss[g]? = some x) (hy : x.2[q]? = some y) (hv : x.1 = .slice (some ⟨gb, 0, none⟩) n cap) (f : Int) :
    StO base (w.setCell ⟨gb, q * 3 + 2, none⟩ (.int .u64 f)) c (setFl s g q x y f) ∧ w.grownBy (w.setCell ⟨gb, q * 3 + 2, none⟩ (.int .u64 f)) (some gb) := by
  have hxm := List.mem_of_getElem? hx
  have ho := h.orr x hxm
  rw [hv] at ho
  have hn : x.2.length = n := by
    obtain ⟨A, c9, h9⟩ := (ho.ev encS_len).shape
    simp only [Value.slice.injEq] at h9
    exact h9.2.1.symm
  obtain ⟨o, gr⟩ := ho.setF encS_len hn hy (j := 2) (by omega) { y with fl := f } (.int .u64 f) rfl
  have hgl := (List.getElem?_eq_some_iff.1 hx).1
  refine ⟨⟨h.og.keep gr (h.og.ne ho (by decide)), h.oc.keep gr (h.oc.ne ho (by decide)), h.ou.keep gr (h.ou.ne ho (by decide)), h.ot.keep gr (h.ot.ne ho (by decide)), ?_, fun z hz => ?_⟩, gr⟩
  · have os := h.os.keep gr (h.os.ne ho (by decide))
    show OV encR 1 _ base _ c.vs (s.ss.set g (x.1, x.2.set q { y with fl := f }))
    unfold OV at os ⊢
    rw [List.length_set]
    have hfe : (s.ss.set g (x.1, x.2.set q { y with fl := f })).flatMap encR = s.ss.flatMap encR := by
      have := map_set_same (fun z : Value × List Sp => encR z) s.ss g x (x.1, x.2.set q { y with fl := f }) hx rfl
      rw [List.flatMap_def, List.flatMap_def, this]
    rw [hfe]; exact os
  · obtain ⟨i, hi⟩ := List.getElem?_of_mem hz
    change (s.ss.set g (x.1, x.2.set q { y with fl := f }))[i]? = some z at hi
    by_cases e : i = g
    · subst e
      rw [List.getElem?_set_self hgl] at hi
      cases hi
      show OV encS 3 _ base _ x.1 _
      rw [hv]; exact o
    · rw [List.getElem?_set_ne (fun h => e h.symm)] at hi
      have hne : z.1.ownBlock ≠ x.1.ownBlock := by
        have hil := (List.getElem?_eq_some_iff.1 hi).1
        have hi2 := (List.getElem?_eq_some_iff.1 hi).2
        have hx2 := (List.getElem?_eq_some_iff.1 hx).2
        rcases Nat.lt_or_gt_of_ne e with hlt | hlt
        · have := List.pairwise_iff_getElem.1 hr i g hil hgl hlt
          rwa [hi2, hx2] at this
        · have := List.pairwise_iff_getElem.1 hr g i hgl hil hlt
          rw [hi2, hx2] at this
          exact fun e => this e.symm
      refine (h.orr z (List.mem_of_getElem? hi)).keep gr (.inr ?_)
      rw [hv] at hne
      exact hne
end Go.Proofs.Ytenngfkgfdogjaa
namespace Go.Proofs.Ytenngfkgfdogjaa
open Go Go.RowKit Go.Shelf
attribute [local go_sem] Oper.semAt_some

theorem fl_ok {s : St} (h : Shp s) (w : World) (c : StC) (hat : StAt w c s) : Calls Try.prog 17 #[c.val s] w fun e w' => ∃ v rows, e = .returned (.tuple #[v, .int .i64 0]) ∧ RowsU w.heap.size w' v rows ∧ rows.map Prod.snd = flE s ∧ Below w.heap.size w w' := by
  have := floors_pub w c s hat h.stb
  have h0 : shE s = 0 := by unfold shE; rw [shp_iff.2 h]; rfl
  rwa [h0] at this
/-- Where the floors lie that were told. -/
structure RwF (base : Nat) (w : World) (v : Value) (rows : List (SV × List Int)) (s : St) (G N : Nat) : Prop where
  ru : RowsU base w v rows
  eq : rows.map Prod.snd = (List.range G).map fun g => rowF s g N
theorem RwF.below {base : Nat} {w w' : World} {v : Value} {rows : List (SV × List Int)} {s : St} {G N : Nat} (h : RwF base w v rows s G N) (hb : Below w.heap.size w w') : RwF base w' v rows s G N := ⟨h.ru.below hb, h.eq⟩
theorem RwF.len {base : Nat} {w : World} {v : Value} {rows : List (SV × List Int)} {s : St} {G N : Nat} (h : RwF base w v rows s G N) : rows.length = G := by have := congrArg List.length h.eq; simpa using this
/-- The row of group g. -/
theorem RwF.row {base : Nat} {w : World} {v : Value} {rows : List (SV × List Int)} {s : St} {G N g : Nat} (h : RwF base w v rows s G N) (hg : g < G) :
    ∃ b off cap Ap cp, v = .slice (some ⟨b, off, none⟩) G cap ∧ w.cell? ⟨b, off + g, none⟩ = some (.slice Ap N cp) ∧ EV encU 1 w (.slice Ap N cp) (rowF s g N) := by
  have hl := h.len
  obtain ⟨b, off, cap, hv, _, r⟩ := (h.ru.1.ev encV_len).row (by omega)
  obtain ⟨y, hy⟩ : ∃ y, rows[g]? = some y := ⟨_, List.getElem?_eq_getElem (by omega)⟩
  have hy2 : y.2 = rowF s g N := by
    have := congrArg (·[g]?) h.eq
    simp only [List.getElem?_map, hy, Option.map_some] at this
    rw [List.getElem?_range hg] at this
    exact Option.some.inj this
  have he := (h.ru.2 y (List.mem_of_getElem? hy)).ev encU_len
  obtain ⟨Ap, cp, hp⟩ := he.shape
  have hn : y.2.length = N := by rw [hy2]; simp [rowF]
  rw [hn] at hp
  have hc := r g y hy 0 _ rfl
  simp only [Nat.mul_one, Nat.add_zero] at hc
  rw [hp] at hc he
  rw [hl] at hv
  exact ⟨b, off, cap, Ap, cp, hv, hc, by rw [← hy2]; exact he⟩
theorem rowF_get (s : St) {g N q : Nat} (hq : q < N) : (rowF s g N)[q]? = some (floorV s g q) := by unfold rowF; rw [List.getElem?_map, List.getElem?_range hq]; rfl
/-- The spot q of group g in memory. -/
theorem StAt.spot {w : World} {c : StC} {s : St} (h : StAt w c s) (hs : Shp s) {g q G N : Nat} (hG : s.gs.length = G) (hN : s.n = (N : Nat)) (hg : g < G) (hq : q < N) :
    ∃ x y bs os cs bx ox cx, s.ss[g]? = some x ∧ x.2[q]? = some y ∧ c.vs = .slice (some ⟨bs, os, none⟩) G cs ∧ w.cell? ⟨bs, os + g, none⟩ = some (.slice (some ⟨bx, ox, none⟩) N cx) ∧ x.1 = .slice (some ⟨bx, ox, none⟩) N cx ∧ w.cell? ⟨bx, ox + q * 3 + 2, none⟩ = some (.int .u64 y.fl) ∧ spotV s g (q : Nat) = y := by
  have hl := hs.ss
  obtain ⟨x, hx⟩ : ∃ x, s.ss[g]? = some x := ⟨_, List.getElem?_eq_getElem (by omega)⟩
  have hxm := List.mem_of_getElem? hx
  have hxn : x.2.length = N := by have := hs.row x hxm; omega
  obtain ⟨y, hy⟩ : ∃ y, x.2[q]? = some y := ⟨_, List.getElem?_eq_getElem (by omega)⟩
  obtain ⟨bs, os, cs, hv, _, r⟩ := h.es.1.row (by omega)
  obtain ⟨bx, ox, cx, hv2, _, r2⟩ := (h.es.2 x hxm).row (by omega)
  have hc := r g x hx 0 _ rfl
  simp only [Nat.mul_one, Nat.add_zero] at hc
  rw [hv2, hxn] at hc
  rw [hl, hG] at hv
  rw [hxn] at hv2
  exact ⟨x, y, bs, os, cs, bx, ox, cx, hx, hy, hv, hc, hv2, (r2.sp hy).2.2, spotV_get hx hy⟩
/-- The same, for the row that is known. -/
theorem RwF.row2 {base : Nat} {w : World} {v : Value} {rows : List (SV × List Int)} {s : St} {G N g : Nat} (h : RwF base w v rows s G N) {y : SV × List Int} (hy : rows[g]? = some y) (hg : g < G) :
    ∃ b off cap, v = .slice (some ⟨b, off, none⟩) G cap ∧ w.cell? ⟨b, off + g, none⟩ = some y.1.v ∧ EV encU 1 w y.1.v (rowF s g N) := by
  have hl := h.len
  obtain ⟨b, off, cap, hv, _, r⟩ := (h.ru.1.ev encV_len).row (by omega)
  have hy2 : y.2 = rowF s g N := by
    have := congrArg (·[g]?) h.eq
    simp only [List.getElem?_map, hy, Option.map_some] at this
    rw [List.getElem?_range hg] at this
    exact Option.some.inj this
  have he := (h.ru.2 y (List.mem_of_getElem? hy)).ev encU_len
  have hc := r g y hy 0 _ rfl
  simp only [Nat.mul_one, Nat.add_zero] at hc
  rw [hl] at hv
  exact ⟨b, off, cap, hv, hc, by rw [← hy2]; exact he⟩
/-- Some floors are written. -/
def WrF (w0 : World) (X : Nat) (c : StC) (s : St) (base base2 : Nat) (v : Value) (rows : List (SV × List Int)) (G N : Nat) (P : Nat → Nat → Prop) (w : World) : Prop :=
  ∃ s', StO base w c s' ∧ StBox w X c s' ∧ RowsB s' ∧ FlS s s' P ∧ RwF base2 w v rows s G N ∧ Below w0.heap.size w0 w
theorem WrF.weaken {w0 w : World} {X base base2 G N : Nat} {c : StC} {s : St} {v : Value} {rows : List (SV × List Int)} {P P' : Nat → Nat → Prop} (h : WrF w0 X c s base base2 v rows G N P w) (hp : ∀ a b : Nat, a < s.gs.length → (b : Int) < s.n → P' a b → P a b) : WrF w0 X c s base base2 v rows G N P' w := by
  obtain ⟨s', o, bx, rb, fl, rw', bb⟩ := h
  exact ⟨s', o, bx, rb, fl.weaken hp, rw', bb⟩
theorem WrF.step {w0 w : World} {X base base2 G N : Nat} {c : StC} {s : St} {v : Value} {rows : List (SV × List Int)} {P : Nat → Nat → Prop} (h : WrF w0 X c s base base2 v rows G N P w) (hs : Shp s) (hb : w0.heap.size ≤ base) (hG : s.gs.length = G) (hN : s.n = (N : Nat)) {g q : Nat} (hg : g < G) (hq : q < N) :
    ∃ bs os cs bx ox cx, c.vs = .slice (some ⟨bs, os, none⟩) G cs ∧ w.cell? ⟨bs, os + g, none⟩ = some (.slice (some ⟨bx, ox, none⟩) N cx) ∧ (∃ u, w.cell? ⟨bx, ox + q * 3 + 2, none⟩ = some u) ∧ w.frozen? ⟨bx, ox + q * 3 + 2, none⟩ = false ∧
      WrF w0 X c s base base2 v rows G N (fun a b => P a b ∨ (a = g ∧ b = q)) (w.setCell ⟨bx, ox + q * 3 + 2, none⟩ (.int .u64 (floorV s g q))) := by
  obtain ⟨s', o, bx, rb, fl, rwf, bb⟩ := h
  obtain ⟨x, y, bs, os, cs, gb, ox, cx, hx, hy, hvs, hcs, hx1, hcy, _⟩ := o.at.spot (fl.shp hs) (by rw [fl.gs]; exact hG) (by rw [fl.n]; exact hN) hg hq
  have hxo := o.orr x (List.mem_of_getElem? hx)
  have hxl := (List.getElem?_eq_some_iff.1 hy).1
  obtain ⟨gb', cap', he, hge, _⟩ := hxo.form (by omega)
  rw [hx1] at he
  simp only [Value.slice.injEq, Option.some.injEq, Addr.mk.injEq, and_true] at he
  obtain ⟨⟨rfl, rfl⟩, hn, _⟩ := he
  obtain ⟨o2, gr⟩ := o.setFl rb hx hy hx1 (floorV s g q)
  have hne : gb ≠ X := by have := hxo; rw [hx1] at this; exact this.ne_box bx (by decide)
  refine ⟨bs, os, cs, gb, 0, cx, hvs, hcs, ⟨_, hcy⟩, ?_, ?_⟩
  · have := hxo
    rw [hx1] at this
    unfold OV at this
    rw [hn.symm] at this
    exact World.ownsRow.frozenAt this _
  · rw [Nat.zero_add]
    refine ⟨setFl s' g q x y (floorV s g q), o2, bx.oth hne rfl rfl, rb.of_fst ?_, fl.set hx hy, ⟨rwf.ru.keep hxo (by decide) (by decide) (by rw [hx1]; exact gr), rwf.eq⟩, bb.setCell (Nat.le_trans hb hge) _⟩
    exact map_set_same Prod.fst s'.ss g x _ hx rfl
set_option maxRecDepth 100000 in
set_option maxHeartbeats 6400000 in
theorem floors_t4 (w w0 : World) (X base : Nat) (c : StC) (s : St) {u0 u1 u2 u3 u4 u5 u6 u7 u8 u10 u11 u12 u13 u14 u15 u16 u17 u18 u19 u20 u21 u22 u23 u24 u25 u26 u27 u28 u29 u30 u31 u32 u33 u34 u35 u36 u37 u38 u39 u40 u41 u42 u43 u44 u45 u46 u47 u48 u49 u50 u51 u52 u53 u54 u55 u56 u57 u58 u59 u60 u61 u62 u63 u64 u65 u66 u67 u68 u69 u70 u71 u72 u73 u74 u75 u76 u77 u78 u79 u80 u81 u82 u83 u84 u85 u86 u87 u88 u89 u90 u91 u92 u93 u94 u95 u96 u97 u98 u99 u100 u101 u102 u103 u104 u105 u106 u107 u108 u109 u110 u111 u112 u113 u114 u115 u116 u117 u118 u119 u120 u121 u122 u123 u124 u125 u126 u127 u128 u129 u130 u131 u132 u133 u134 u135 u136 : Value} (hb : Below w.heap.size w w0) (hbs : w.heap.size ≤ base) (o : StO base w0 c s) (bx : StBox w0 X c s) (rb : RowsB s) (hs : Shp s) :
    Code.wp Try.prog (tailR Try.f5 4) (bodyPost Try.prog Try.f5 fun e w' => e = .returned (.bool true) ∧ Below w.heap.size w w')
      ⟨#[u0, u1, u2, u3, u4, u5, u6, u7, u8, .pointer (some ⟨X, 0, none⟩), u10, u11, u12, u13, u14, u15, u16, u17, u18, u19, u20, u21, u22, u23, u24, u25, u26, u27, u28, u29, u30, u31, u32, u33, u34, u35, u36, u37, u38, u39, u40, u41, u42, u43, u44, u45, u46, u47, u48, u49, u50, u51, u52, u53, u54, u55, u56, u57, u58, u59, u60, u61, u62, u63, u64, u65, u66, u67, u68, u69, u70, u71, u72, u73, u74, u75, u76, u77, u78, u79, u80, u81, u82, u83, u84, u85, u86, u87, u88, u89, u90, u91, u92, u93, u94, u95, u96, u97, u98, u99, u100, u101, u102, u103, u104, u105, u106, u107, u108, u109, u110, u111, u112, u113, u114, u115, u116, u117, u118, u119, u120, u121, u122, u123, u124, u125, u126, u127, u128, u129, u130, u131, u132, u133, u134, u135, u136], []⟩ w0 := by
  conv => arg 2; whnf
  conv => arg 4; dsimp only
  obtain ⟨N, hN⟩ : ∃ N : Nat, s.n = (N : Nat) := ⟨s.n.toNat, by have := hs.n1; omega⟩
  obtain ⟨G, hG⟩ : ∃ G, s.gs.length = G := ⟨_, rfl⟩
  have HN := Lib.hid hN
  have HGL := Lib.hid hG
  have hN1 : N ≤ 64 := by have := hs.n2; omega
  have hG1 : G ≤ 256 := by have := (right_iff.1 hs.right).many; omega
  have hG0 : 1 ≤ G := by have := (right_iff.1 hs.right).pos; omega
  have F : Facts w0 [sSA c s, sSB X c s, sB w0] := ⟨o.at, bx, Below.refl _ _, trivial⟩
  have HB := Lib.hid hb
  have HS := Lib.hid hs
  have HO := Lib.hid o
  have HRB := Lib.hid rb
  have FL := Lib.hid (fl_ok hs w0 c o.at)
  obtain ⟨As, cs, hvs⟩ := (o.os.ev encR_len).shape
  rw [hs.ss, hG] at hvs
  have HVS := Lib.hid hvs
  have hsz := hb.size
  obtain ⟨b0, b1, b2, b3, b4, b5, b6⟩ := bx.cell
  rw [hN] at b0
  unfold StC.val StC.cells at FL
  rw [hN] at FL
  have HF0 := Lib.hid F
  clear hb o bx rb hs hN hG hvs F
  go_wp2_with fail
  refine FL.out.mono ?_
  rintro e w2 ⟨v, rows, rfl, ru, hr, bb⟩
  have RW := Lib.hid (show RwF w0.heap.size w2 v rows s G N from ⟨ru, by rw [hr, flE_pos (shp_iff.2 HS.out), HGL.out, HN.out]; rfl⟩)
  have F2 := HF0.out.below bb
  have HF := Lib.hid F2
  have BB2 := Lib.hid bb
  obtain ⟨Av, cv, hv⟩ := (ru.1.ev encV_len).shape
  rw [show rows.length = G from RW.out.len] at hv
  subst hv
  obtain ⟨b0, b1, b2, b3, b4, b5, b6⟩ := (F2.get 1 : StBox w2 X c s).cell
  rw [HVS.out] at b6
  rw [HN.out] at b0
  clear ru hr bb F2 FL
  go_upto_block 0 with fail
  go_cut [] (fun wx => Below w2.heap.size w2 wx)
  case first =>
    go_wp2_with fail
    go_loopg [48] G (fun k i wr => ∃ g : Nat, g + k = G ∧ i = .int .i64 g ∧ Below w2.heap.size w2 wr)
    case atStart => exact ⟨0, by omega, rfl, Below.refl _ _⟩
    case round =>
      obtain ⟨g, hg, rfl, hbr⟩ := hrel
      have HJ := Lib.hid hg
      have HBR := Lib.hid hbr
      have hsw := hbr.size
      clear hg b0 b1 b2 b3 b4 b5 b6
      by_cases hlt : g < G
      · have hd : decide ((g : Int) < (G : Int)) = true := by rw [decide_eq_true_eq]; omega
        obtain ⟨wo, hwo⟩ : ∃ wo, wo = wr := ⟨_, rfl⟩
        subst hwo
        obtain ⟨b, off, cap, Ap, cp, hv, hc, he⟩ := (RW.out.below hbr).row hlt
        simp only [Value.slice.injEq] at hv
        obtain ⟨rfl, _, rfl⟩ := hv
        obtain ⟨b0, b1, b2, b3, b4, b5, b6⟩ := (HF.out.below hbr |>.get 1 : StBox wo X c s).cell
        rw [HN.out] at b0
        have HE := Lib.hid he
        clear hbr he
        go_wp2_with fail
        go_loopg [61] N (fun k i wr => ∃ q : Nat, q + k = N ∧ i = .int .i64 q ∧ Below wo.heap.size wo wr)
        case atStart => exact ⟨0, by omega, rfl, Below.refl _ _⟩
        case round =>
          obtain ⟨q, hq, rfl, hbq⟩ := hrel
          have HQ := Lib.hid hq
          have HBQ := Lib.hid hbq
          have hsq := hbq.size
          clear hq hc b0 b1 b2 b3 b4 b5 b6
          by_cases hlq : q < N
          · have hd2 : decide ((q : Int) < (N : Int)) = true := by rw [decide_eq_true_eq]; omega
            obtain ⟨bp, op, cp', hv3, _, rr⟩ := (HE.out.below hbq).row (by simp [rowF]; omega)
            rw [show (rowF s g N).length = N by simp [rowF]] at hv3
            simp only [Value.slice.injEq] at hv3
            obtain ⟨rfl, _, rfl⟩ := hv3
            have hfc := rr q _ (rowF_get s hlq) 0 _ rfl
            simp only [Nat.mul_one, Nat.add_zero] at hfc
            have BW := HBR.out.trans (hbq.mono hsw)
            have F3 := HF.out.below BW
            obtain ⟨b0, b1, b2, b3, b4, b5, b6⟩ := (F3.get 1 : StBox wr X c s).cell
            have ME := Lib.hid (mem_ok HS.out wr c g q (F3.get 0) (by omega) (by rw [HGL.out]; omega) (by omega) (by rw [HN.out]; omega))
            unfold StC.val StC.cells at ME
            have HF3 := Lib.hid F3
            clear hbq rr F3 BW
            go_wp2_with fail
            refine ME.out.mono ?_
            rintro e w3 ⟨vm, rfl, om, bm⟩
            have F4 := HF3.out.below bm
            have BR := Lib.hid (HBQ.out.trans (bm.mono hsq))
            obtain ⟨x, y, bs, os, cs', bx, ox, cx, hx, hy, hvs, hcs, hx1, hcy, hsv⟩ := (F4.get 0 : StAt w3 c s).spot HS.out HGL.out HN.out hlt hlq
            clear b0 b1 b2 b3 b4 b5 b6 ME hfc hx hy hx1
            obtain ⟨b0, b1, b2, b3, b4, b5, b6⟩ := (F4.get 1 : StBox w3 X c s).cell
            rw [hvs] at b6
            have hev := om.ev encY_len
            have hlt' : g < G := hlt
            rcases hm : memL s g q with _ | ⟨k, l⟩
            · have hfv : floorV s g q = y.fl := by rw [floorV_eq, hm, hsv]
              rw [hm] at hev
              obtain ⟨A0, c0, rfl⟩ := hev.shape
              rw [hfv]
              clear F4 bm om hev hm hfv hsv hvs
              go_wp2
              go_roundg (gk - 1)
              case measure => have := HQ.out; omega
              case rel => exact ⟨q + 1, by have := HQ.out; omega, by go_num, BR.out⟩
            · have hfv : floorV s g q = max y.fl k.v := by rw [floorV_eq, hm, hsv]
              have hml := memL_len s g q
              have hgl := HGL.out
              have htl := HS.out.len
              rw [hm] at hev hml
              obtain ⟨b9, o9, c9, rfl, _, r9⟩ := hev.row (by simp)
              have k0 := (r9.ky (i := 0) rfl).1
              simp only [Nat.zero_mul, Nat.add_zero] at k0
              obtain ⟨f, hf⟩ : ∃ f, floorV s g q = f := ⟨_, rfl⟩
              rw [hf] at hfv ⊢
              obtain ⟨LL, hLL⟩ : ∃ LL, l.length = LL := ⟨_, rfl⟩
              rw [List.length_cons, hLL] at hml ⊢
              have hmx : max y.fl k.v = f := hfv.symm
              have hif : (if y.fl < k.v then k.v else y.fl) = f := by rw [← hmx]; split <;> omega
              have hLb : LL ≤ 70000 := by omega
              clear F4 bm om hev hm hfv hsv hvs r9 hf hLL hml hgl htl
              go_wp2
              go_roundg (gk - 1)
              case measure => have := HQ.out; omega
              case rel => exact ⟨q + 1, by have := HQ.out; omega, by go_num, BR.out⟩
          · have hd2 : decide ((q : Int) < (N : Int)) = false := by rw [decide_eq_false_iff_not]; omega
            clear hbq
            go_wp2
            go_roundg (G - (g + 1))
            case measure => have := HJ.out; omega
            case rel => exact ⟨g + 1, by omega, by go_num, HBR.out.trans (HBQ.out.mono hsw)⟩
      · have hd : decide ((g : Int) < (G : Int)) = false := by rw [decide_eq_false_iff_not]; omega
        clear hbr
        go_wp2
        go_meet
        exact HBR.out
  case rest =>
  have F3 := HF.out.below hcut
  have RW3 := Lib.hid (RW.out.below hcut)
  have WF : WrF w X c s base w0.heap.size (.slice Av G cv) rows G N (fun a b => a < 0) wc :=
    ⟨s, HO.out.below (BB2.out.trans (hcut.mono BB2.out.size)), F3.get 1, HRB.out, (FlS.refl s).weaken (fun a b _ _ h => absurd h (Nat.not_lt_zero a)), RW3.out, HB.out.trans ((BB2.out.trans (hcut.mono BB2.out.size)).mono hsz)⟩
  have WF0 := Lib.hid WF
  clear F3 WF b0 b1 b2 b3 b4 b5 b6
  go_wp2_with fail
  go_loopg [102] G (fun k i wr => ∃ g : Nat, g + k = G ∧ i = .int .i64 g ∧ WrF w X c s base w0.heap.size (.slice Av G cv) rows G N (fun a b => a < g) wr)
  case atStart => exact ⟨0, by omega, rfl, WF0.out⟩
  case round =>
    obtain ⟨g, hg, rfl, hwf⟩ := hrel
    have HJ := Lib.hid hg
    have HW := Lib.hid hwf
    clear hg
    by_cases hlt : g < G
    · have hd : decide ((g : Int) < (G : Int)) = true := by rw [decide_eq_true_eq]; omega
      obtain ⟨wo, hwo⟩ : ∃ wo, wo = wr := ⟨_, rfl⟩
      subst hwo
      obtain ⟨y, hy⟩ : ∃ y, rows[g]? = some y := ⟨_, List.getElem?_eq_getElem (by rw [RW.out.len]; exact hlt)⟩
      have HY := Lib.hid hy
      obtain ⟨b, off, cap, hv, hc, he⟩ := (show RwF w0.heap.size wo (.slice Av G cv) rows s G N from hwf.elim fun _ h => h.2.2.2.2.1).row2 hy hlt
      obtain ⟨Ap, cp, hp⟩ := he.shape
      rw [show (rowF s g N).length = N by simp [rowF]] at hp
      rw [hp] at hc
      have HP := Lib.hid hp
      simp only [Value.slice.injEq] at hv
      obtain ⟨rfl, _, rfl⟩ := hv
      clear hwf he hy hp
      go_wp2_with fail
      go_loopg [109] N (fun k i wr => ∃ q : Nat, q + k = N ∧ i = .int .i64 q ∧ WrF w X c s base w0.heap.size (.slice (some ⟨b, off, none⟩) G cv) rows G N (fun a b => a < g ∨ a = g ∧ b < q) wr)
      case atStart => exact ⟨0, by omega, rfl, HW.out.weaken (fun a b _ _ h => by rcases h with h | h; exact h; exact absurd h.2 (Nat.not_lt_zero _))⟩
      case round =>
        obtain ⟨q, hq, rfl, hwq⟩ := hrel
        have HQ := Lib.hid hq
        have HW2 := Lib.hid hwq
        clear hq hc
        by_cases hlq : q < N
        · have hd2 : decide ((q : Int) < (N : Int)) = true := by rw [decide_eq_true_eq]; omega
          obtain ⟨b9, off9, cap9, hv, _, he⟩ := (show RwF w0.heap.size wr _ rows s G N from hwq.elim fun _ h => h.2.2.2.2.1).row2 HY.out hlt
          obtain ⟨bs, os, cs', gb, ox, cx, hvs2, hcs, ⟨u, hu⟩, hfr, hst⟩ := hwq.step HS.out hbs HGL.out HN.out hlt hlq
          obtain ⟨s', _, bx, _, fl, _⟩ := hwq
          obtain ⟨b0, b1, b2, b3, b4, b5, b6⟩ := bx.cell
          rw [hvs2] at b6
          rw [HP.out] at he
          obtain ⟨bp, op, cp', hv3, _, rr⟩ := he.row (by simp [rowF]; omega)
          rw [show (rowF s g N).length = N by simp [rowF]] at hv3
          simp only [Value.slice.injEq] at hv3
          obtain ⟨rfl, _, rfl⟩ := hv3
          have hfc := rr q _ (rowF_get s hlq) 0 _ rfl
          simp only [Nat.mul_one, Nat.add_zero] at hfc
          have HST := Lib.hid hst
          generalize floorV s g q = f at hfc HST
          clear hv he rr bx fl hst b0 b1 b2 b3 b4 b5 hvs2
          go_wp2
          go_roundg (gk - 1)
          case measure => have := HQ.out; omega
          case rel => exact ⟨q + 1, by have := HQ.out; omega, by go_num, HST.out.weaken (fun a b _ _ h => by omega)⟩
        · have hd2 : decide ((q : Int) < (N : Int)) = false := by rw [decide_eq_false_iff_not]; omega
          clear hwq
          go_wp2
          go_roundg (G - (g + 1))
          case measure => have := HJ.out; omega
          case rel => exact ⟨g + 1, by omega, by go_num, HW2.out.weaken (fun a b _ hb2 h => by have := HN.out; have := HQ.out; omega)⟩
    · have hd : decide ((g : Int) < (G : Int)) = false := by rw [decide_eq_false_iff_not]; omega
      obtain ⟨s', o', bx', rb', fl', rw', bb'⟩ := hwf
      have hs' := fl'.shp HS.out
      have hal := fl'.all HS.out (fun a b ha _ => by have := HGL.out; omega)
      have FL2 := Lib.hid (fl_ok hs' wr c o'.at)
      have hn' : s'.n = (N : Nat) := by rw [fl'.n]; exact HN.out
      obtain ⟨b0, b1, b2, b3, b4, b5, b6⟩ := bx'.cell
      rw [hn'] at b0
      unfold StC.val StC.cells at FL2
      rw [hn'] at FL2
      have HRW := Lib.hid rw'
      have HBB := Lib.hid bb'
      have hsr := bb'.size
      clear o' bx' rb' fl' rw' bb' hs' hn'
      go_wp2_with fail
      refine FL2.out.mono ?_
      rintro e w5 ⟨v2, rows2, rfl, ru2, hr2, b5'⟩
      have R5 := HRW.out.below b5'
      have BB5 := Lib.hid (HBB.out.trans (b5'.mono hsr))
      have EQ := Lib.hid (show rows2.map Prod.snd = rows.map Prod.snd by rw [hr2, hal, R5.eq, flE_pos (shp_iff.2 HS.out), HGL.out, HN.out]; rfl)
      have HR := Lib.hid hr2
      have h2 := rows_len (show rows2.map Prod.snd = flE s' from hr2)
      clear b0 b1 b2 b3 b4 b5 b6 FL2 hr2
      go_wp2_with fail
      refine (eqf_u64 w5 v2 (.slice Av G cv) rows2 rows (ru2.1.ev encV_len) (R5.ru.1.ev encV_len) (fun y hy => (ru2.2 y hy).ev encU_len) (fun y hy => (R5.ru.2 y hy).ev encU_len) EQ.out (by have := h2.1; omega) (fun y hy => by have := h2.2 y hy; omega)).mono ?_
      rintro e w6 ⟨rfl, b6'⟩
      have BB6 := Lib.hid (BB5.out.trans (b6'.mono BB5.out.size))
      clear ru2 R5 b5' b6' h2 EQ
      go_wp2
      go_ret
      exact ⟨rfl, BB6.out⟩
set_option maxRecDepth 100000 in
set_option maxHeartbeats 3200000 in
theorem floors_t3 (w w0 : World) (vg vt vs : Value) (cpus : Nat) (ns : List Nat) (ts : List Sm) (sl : List Nat) {u4 u5 u6 u7 u8 u9 u10 u11 u12 u13 u14 u15 u16 u17 u18 u19 u20 u21 u22 u23 u24 u25 u26 u27 u28 u29 u30 u31 u32 u33 u34 u35 u36 u37 u38 u39 u40 u41 u42 u43 u44 u45 u46 u47 u48 u49 u50 u51 u52 u53 u54 u55 u56 u57 u58 u59 u60 u61 u62 u63 u64 u65 u66 u67 u68 u69 u70 u71 u72 u73 u74 u75 u76 u77 u78 u79 u80 u81 u82 u83 u84 u85 u86 u87 u88 u89 u90 u91 u92 u93 u94 u95 u96 u97 u98 u99 u100 u101 u102 u103 u104 u105 u106 u107 u108 u109 u110 u111 u112 u113 u114 u115 u116 u117 u118 u119 u120 u121 u122 u123 u124 u125 u126 u127 u128 u129 u130 u131 u132 u133 u134 u135 u136 : Value} (hb : Below w.heap.size w w0) (hc1 : cpus < 256) (hg : U16 w0 vg ns) (ht : SmArg w0 vt ts) (hs : U16 w0 vs sl) :
    Code.wp Try.prog (tailR Try.f5 3) (bodyPost Try.prog Try.f5 fun e w' => e = .returned (.bool true) ∧ Below w.heap.size w w')
      ⟨#[.int .u8 (cpus : Nat), vg, vt, vs, u4, u5, u6, u7, u8, u9, u10, u11, u12, u13, u14, u15, u16, u17, u18, u19, u20, u21, u22, u23, u24, u25, u26, u27, u28, u29, u30, u31, u32, u33, u34, u35, u36, u37, u38, u39, u40, u41, u42, u43, u44, u45, u46, u47, u48, u49, u50, u51, u52, u53, u54, u55, u56, u57, u58, u59, u60, u61, u62, u63, u64, u65, u66, u67, u68, u69, u70, u71, u72, u73, u74, u75, u76, u77, u78, u79, u80, u81, u82, u83, u84, u85, u86, u87, u88, u89, u90, u91, u92, u93, u94, u95, u96, u97, u98, u99, u100, u101, u102, u103, u104, u105, u106, u107, u108, u109, u110, u111, u112, u113, u114, u115, u116, u117, u118, u119, u120, u121, u122, u123, u124, u125, u126, u127, u128, u129, u130, u131, u132, u133, u134, u135, u136], []⟩ w0 := by
  conv => arg 2; whnf
  conv => arg 4; dsimp only
  have HB := Lib.hid hb
  have HG := Lib.hid hg
  have HT := Lib.hid ht
  have HS := Lib.hid hs
  have hsz := hb.size
  clear hb hg ht hs
  apply wp_seq_k; intro K0 hK0
  go_cut [9] (fun v wx => ∃ c s X, v = .pointer (some ⟨X, 0, none⟩) ∧ StO w0.heap.size wx c s ∧ StBox wx X c s ∧ Sim (madS cpus ns ts sl) s ∧ RowsB s ∧ Below w0.heap.size w0 wx)
  case first =>
    go_wp2_with fail
    refine (made_law w0 cpus vg vt vs ns ts sl hc1 HG.out HT.out HS.out).mono ?_
    rintro e w1 ⟨⟨vg', vc', vu', vt', vs'⟩, s, rfl, o, sim, rb, bb⟩
    obtain ⟨A1, c1, h1⟩ := (o.og.ev encG_len).shape
    obtain ⟨A2, c2, h2⟩ := (o.oc.ev encI_len).shape
    obtain ⟨A3, c3, h3⟩ := (o.ou.ev encI_len).shape
    obtain ⟨A4, c4, h4⟩ := (o.ot.ev encT_len).shape
    obtain ⟨A5, c5, h5⟩ := (o.os.ev encR_len).shape
    dsimp only at h1 h2 h3 h4 h5
    subst h1 h2 h3 h4 h5
    have O := Lib.hid o
    have S := Lib.hid sim
    have B := Lib.hid bb
    have RB := Lib.hid rb
    clear o sim bb rb
    unfold StC.val StC.cells
    dsimp only
    go_wp2_with fail
    go_meet
    have B2 := below_step B.out (bel_alloc w1 (.cells #[.int .i64 s.n, .int .u64 s.cr, .slice A1 s.gs.length c1, .slice A2 s.cl.length c2, .slice A3 s.cu.length c3, .slice A4 s.ts.length c4, .slice A5 s.ss.length c5] 38))
    exact ⟨⟨.slice A1 s.gs.length c1, .slice A2 s.cl.length c2, .slice A3 s.cu.length c3, .slice A4 s.ts.length c4, .slice A5 s.ss.length c5⟩, s, _, rfl, O.out.below (bel_alloc _ _), StBox.new w1 ⟨.slice A1 s.gs.length c1, .slice A2 s.cl.length c2, .slice A3 s.cu.length c3, .slice A4 s.ts.length c4, .slice A5 s.ss.length c5⟩ s, S.out, RB.out, B2⟩
  case rest =>
  obtain ⟨c, s, X, rfl, o, bx, sim, rb, bb⟩ := hcut
  have hsh := made_shp HG.out.2.1 HT.out.2.1 sim
  refine hK0 _ _ (floors_t4 w _ X w0.heap.size c s (HB.out.trans (bb.mono hsz)) hsz o bx rb hsh)
set_option maxRecDepth 100000 in
set_option maxHeartbeats 3200000 in
theorem floorsLaw_walk (w : World) (vg vt vs : Value) (cpus : Nat) (ns : List Nat) (ts : List Sm) (sl : List Nat) (hc1 : cpus < 256) (hg : U16 w vg ns) (ht : SmArg w vt ts) (hs : U16 w vs sl) :
    Calls Try.prog 5 #[.int .u8 (cpus : Nat), vg, vt, vs] w fun e w' => e = .returned (.bool true) ∧ Below w.heap.size w w' := by
  have HG := Lib.hid hg
  have HT := Lib.hid ht
  have HS := Lib.hid hs
  clear hg ht hs
  go_enter Try.func5, Try.ntmps5
  go_wp2_with fail
  refine (awake_ok w).mono ?_
  rintro e w2 ⟨rfl, bb⟩
  go_upto_if 25 with fail
  go_cut [] (fun wx => wx = w2)
  case first =>
    go_wp2_with fail
    go_meet
    rfl
  case rest =>
    subst hcut
    refine (‹∀ (a : Act) (w : World), Code.wp _ _ _ a w → _› : ∀ (a : Act) (w : World), _ → _) _ _ (floors_t3 w _ vg vt vs cpus ns ts sl bb hc1 (HG.out.below bb) (HT.out.below bb) (HS.out.below bb))
end Go.Proofs.Ytenngfkgfdogjaa
