/- The tasks that are there as a list, and the clocks of a trace, as the reference has them; plain | What the reference's look knows of a trace, event by event; plain | The reference of layer 28: look, its loop over the events. -/
import Derived.Test.YtaplangfppohdaaDoorZ37
import Derived.Test.YtaplangfppohdaaDoorZ36
import Derived.Test.YtaplangfppohdaaDoorZ35
import Derived.Deep.RegionHeld3
set_option linter.unusedVariables false
set_option linter.unusedSimpArgs false
set_option linter.unusedSectionVars false
namespace Go.Proofs.YtaplangfppohdaaDoor
open Go Go.RowKit

def ofT (th : List (Int × Int)) (x : Int) : Option Int := (th.find? fun h => decide (h.1 = x)).map Prod.snd
section
variable {th : List (Int × Int)} {x g : Int}
theorem homeZ_get (h : 0 ≤ homeZ th x) : ∃ (k : Nat) (g : Int), homeZ th x = (k : Int) ∧ k < th.length ∧ th[k]? = some (x, g) ∧ ofT th x = some g := by
  unfold homeZ at h ⊢
  split at h
  · rename_i hlt
    rw [if_pos hlt]
    unfold homeI at hlt ⊢
    have hp := List.findIdx_getElem (w := hlt)
    obtain ⟨⟨y, g⟩, hy⟩ : ∃ q, th[List.findIdx (fun h => decide (h.1 = x)) th]? = some q := ⟨_, List.getElem?_eq_getElem hlt⟩
    have hy2 := hy
    rw [List.getElem?_eq_getElem hlt] at hy2
    rw [Option.some.inj hy2] at hp
    simp only [decide_eq_true_eq] at hp
    subst hp
    refine ⟨_, g, rfl, hlt, hy, ?_⟩
    unfold ofT
    rw [List.find?_eq_some_iff_getElem.2 ⟨by simp, _, hlt, Option.some.inj hy2, fun j hj => by simpa using List.not_of_lt_findIdx hj⟩]
    rfl
  · omega
theorem homeZ_none (h : homeZ th x < 0) : ofT th x = none := by
  unfold homeZ at h
  split at h
  · omega
  · rename_i hlt
    unfold homeI at hlt
    rw [List.findIdx_lt_length] at hlt
    unfold ofT
    rw [List.find?_eq_none.2 (fun y hy hb => hlt ⟨y, hy, hb⟩)]
    rfl
theorem homeZ_neg (h : homeZ th x < 0) : homeZ th x = -1 := by
  unfold homeZ at h ⊢
  split at h
  · omega
  · rename_i hn; rw [if_neg hn]
theorem homeZ_some : (ofT th x).isSome = true ↔ 0 ≤ homeZ th x := by
  constructor
  · intro h
    rcases Int.lt_or_le (homeZ th x) 0 with h1 | h1
    · rw [homeZ_none h1] at h; cases h
    · exact h1
  · intro h
    obtain ⟨_, g, _, _, _, h2⟩ := homeZ_get h
    rw [h2]; rfl
theorem homeZ_bd (h : th.length ≤ 1000000) : -1 ≤ homeZ th x ∧ homeZ th x ≤ 1000000 := by
  unfold homeZ; split <;> omega
theorem ofT_nil : ofT [] = fun _ => none := by funext y; rfl
theorem ofT_snoc (h : ofT th x = none) : ofT (th ++ [(x, g)]) = updT (ofT th) x (some g) := by
  funext y
  unfold ofT at h ⊢
  unfold updT
  rw [List.find?_append]
  by_cases e : y = x
  · subst e
    rw [if_pos rfl]
    simp only [Option.map_eq_none_iff] at h
    rw [h]
    simp
  · rw [if_neg e]
    have : List.find? (fun h => decide (h.1 = y)) [(x, g)] = none := by simp; exact fun h => e h.symm
    rw [this]
    simp
theorem keys_snoc (hn : (th.map Prod.fst).Nodup) (h : ofT th x = none) : ((th ++ [(x, g)]).map Prod.fst).Nodup := by
  rw [List.map_append, List.nodup_append]
  refine ⟨hn, by simp, ?_⟩
  intro a ha b hb
  simp at hb
  subst hb
  rintro rfl
  obtain ⟨y, hy, rfl⟩ := List.mem_map.1 ha
  unfold ofT at h
  simp only [Option.map_eq_none_iff, List.find?_eq_none] at h
  exact h y hy (by simp)
theorem ofT_mem (hn : (th.map Prod.fst).Nodup) : ofT th x = some g ↔ (x, g) ∈ th := by
  unfold ofT
  constructor
  · intro h
    obtain ⟨q, hq, rfl⟩ := Option.map_eq_some_iff.1 h
    have h1 := List.find?_some hq
    simp only [decide_eq_true_eq] at h1
    subst h1
    exact List.mem_of_find?_eq_some hq
  · intro h
    induction th with
    | nil => cases h
    | cons y r ih =>
      rw [List.map_cons, List.nodup_cons] at hn
      rw [List.find?_cons]
      rcases List.mem_cons.1 h with rfl | h
      · simp
      · have hne : y.1 ≠ x := fun e => hn.1 (List.mem_map.2 ⟨(x, g), h, e.symm⟩)
        simp only [hne, decide_false]
        exact ih hn.2 h
theorem ofT_erase {k : Nat} (hn : (th.map Prod.fst).Nodup) (h : th[k]? = some (x, g)) : ofT (th.take k ++ th.drop (k + 1)) = updT (ofT th) x none ∧ ((th.take k ++ th.drop (k + 1)).map Prod.fst).Nodup := by
  have he : th.take k ++ th.drop (k + 1) = th.eraseIdx k := (List.eraseIdx_eq_take_drop_succ th k).symm
  rw [he]
  have hn2 : ((th.eraseIdx k).map Prod.fst).Nodup := hn.sublist ((List.eraseIdx_sublist th k).map _)
  refine ⟨?_, hn2⟩
  obtain ⟨hk, hx⟩ := List.getElem?_eq_some_iff.1 h
  have hsplit : th = th.take k ++ (x, g) :: th.drop (k + 1) := by
    conv => lhs; rw [← List.take_append_drop k th, List.drop_eq_getElem_cons hk, hx]
  funext y
  unfold updT
  have hmem : ∀ q, q ∈ th.eraseIdx k ↔ (q ∈ th ∧ q.1 ≠ x) := by
    intro q
    rw [← he]
    have hn3 := hn
    rw [hsplit, List.map_append, List.map_cons, List.nodup_append] at hn3
    obtain ⟨n1, n2, n3⟩ := hn3
    rw [List.nodup_cons] at n2
    constructor
    · intro hq
      rcases List.mem_append.1 hq with hq | hq
      · refine ⟨List.mem_of_mem_take hq, fun e => n3 q.1 (List.mem_map.2 ⟨q, hq, rfl⟩) x (by simp) e⟩
      · exact ⟨List.mem_of_mem_drop hq, fun e => n2.1 (e ▸ List.mem_map.2 ⟨q, hq, rfl⟩)⟩
    · rintro ⟨hq, hne⟩
      rw [hsplit] at hq
      rcases List.mem_append.1 hq with hq | hq
      · exact List.mem_append_left _ hq
      · rcases List.mem_cons.1 hq with rfl | hq
        · exact absurd rfl hne
        · exact List.mem_append_right _ hq
  by_cases e : y = x
  · subst e
    rw [if_pos rfl]
    cases hq : ofT (th.eraseIdx k) y with
    | none => rfl
    | some z =>
      exfalso
      have := (hmem _).1 ((ofT_mem hn2).1 hq)
      exact this.2 rfl
  · rw [if_neg e]
    cases hq : ofT th y with
    | none =>
      cases hq2 : ofT (th.eraseIdx k) y with
      | none => rfl
      | some z =>
        exfalso
        have := (ofT_mem hn).2 ((hmem _).1 ((ofT_mem hn2).1 hq2)).1
        rw [hq] at this; cases this
    | some z => exact (ofT_mem hn2).2 ((hmem _).2 ⟨(ofT_mem hn).1 hq, e⟩)
end
end Go.Proofs.YtaplangfppohdaaDoor
namespace Go.Proofs.YtaplangfppohdaaDoor
open Go Go.RowKit

structure RLk (n H : Nat) (T0 : Int → Option Int) (l : List Ev) (j : Nat) (th : List (Int × Int)) (s : Lk) : Prop where
  run : runO (stepL n) (lk0 T0) (l.take j) = some s
  ok : LkOk n s
  T : s.T = ofT th
  nd : (th.map Prod.fst).Nodup
  last0 : j = 0 → s.last = 0
  last1 : ∀ e, 0 < j → l[j - 1]? = some e → s.last = e.seq
  le : ∀ k, k < j → ∀ e, l[k]? = some e → e.time ≤ s.clk e.cpu
  ex : ∀ c, s.clk c = 0 ∨ ∃ k, k < j ∧ ∃ e, l[k]? = some e ∧ e.cpu = c ∧ e.time = s.clk c
  len : th.length ≤ H + j
  outlen : s.out.length ≤ j
section
variable {n H j : Nat} {T0 : Int → Option Int} {l : List Ev} {th : List (Int × Int)} {s : Lk} {e : Ev}
theorem RLk.start (h0 : ∀ x g, ofT th x = some g → 0 ≤ g ∧ g < (n : Int)) (hn : (th.map Prod.fst).Nodup) (hl : th.length ≤ H) : RLk n H (ofT th) l 0 th (lk0 (ofT th)) :=
  ⟨rfl, lk0_ok h0, rfl, hn, fun _ => rfl, fun _ h => (by omega), fun _ h => (by omega), fun _ => .inl rfl, by omega, Nat.le_refl _⟩
theorem RLk.dead (h : RLk n H T0 l j th s) (he : l[j]? = some e) (hs : stepL n s e = none) : runO (stepL n) (lk0 T0) l = none := by
  refine runO_dead (j := j + 1) ?_
  rw [runO_step he, h.run, Option.bind_some, hs]
theorem RLk.bad1 (h : RLk n H T0 l j th s) (hb : chkEv e ≠ 0) : stepL n s e = none := by unfold stepL; rw [if_pos (.inl hb)]
theorem RLk.bad2 (h : RLk n H T0 l j th s) {p : Ev} (hj : 0 < j) (hp : l[j - 1]? = some p) (hb : e.seq ≤ p.seq) : stepL n s e = none := by
  unfold stepL; rw [if_pos (.inr (.inl (by rw [h.last1 p hj hp]; exact hb)))]
theorem RLk.bad3 (h : RLk n H T0 l j th s) (hb : e.time - e.ticks < 0) : stepL n s e = none := by
  unfold stepL; rw [if_pos (.inr (.inr (by have := h.ok.clk e.cpu; omega)))]
theorem RLk.bad4 (h : RLk n H T0 l j th s) {k : Nat} {p : Ev} (hk : k < j) (hp : l[k]? = some p) (hc : p.cpu = e.cpu) (hb : e.time - e.ticks < p.time) : stepL n s e = none := by
  unfold stepL; rw [if_pos (.inr (.inr (by have := h.le k hk p hp; rw [hc] at this; omega)))]
theorem RLk.bad5 (hb : doesL n s.T e = none) : stepL n s e = none := by
  unfold stepL; split
  · rfl
  · rw [hb]; rfl
theorem RLk.seqOk (h : RLk n H T0 l j th s) (hc : chkEv e = 0) (hp : ∀ p, 0 < j → l[j - 1]? = some p → p.seq < e.seq) (hj : j < l.length) : s.last < e.seq := by
  rcases Nat.eq_zero_or_pos j with h0 | h0
  · rw [h.last0 h0]; have := (chk_facts hc).1; omega
  · obtain ⟨p, hpx⟩ : ∃ p, l[j - 1]? = some p := ⟨_, List.getElem?_eq_getElem (by omega)⟩
    rw [h.last1 p h0 hpx]; exact hp p h0 hpx
theorem RLk.clkOk (h : RLk n H T0 l j th s) (h0 : 0 ≤ e.time - e.ticks) (hp : ∀ k, k < j → ∀ p, l[k]? = some p → p.cpu = e.cpu → p.time ≤ e.time - e.ticks) : s.clk e.cpu ≤ e.time - e.ticks := by
  rcases h.ex e.cpu with h1 | ⟨k, hk, p, h1, h2, h3⟩
  · omega
  · rw [← h3]; exact hp k hk p h1 h2
theorem ticks_nn (hc : chkEv e = 0) : 0 ≤ e.ticks := by
  by_cases hk : e.kind = 5
  · have := (chk_tick hc hk).1; omega
  · rw [chk_noticks hc hk]; exact Int.le_refl _
theorem RLk.next (h : RLk n H T0 l j th s) (he : l[j]? = some e) (ho : EvOk e) (hc : chkEv e = 0) (hs : s.last < e.seq) (hk : s.clk e.cpu ≤ e.time - e.ticks) {th' : List (Int × Int)} (hd : doesL n s.T e = some (ofT th')) (hn : (th'.map Prod.fst).Nodup) (hl : th'.length ≤ th.length + 1) :
    RLk n H T0 l (j + 1) th' ⟨ofT th', e.seq, fun c => if c = e.cpu then e.time else s.clk c, s.out ++ ranOf s.T e⟩ := by
  have hst : stepL n s e = some ⟨ofT th', e.seq, fun c => if c = e.cpu then e.time else s.clk c, s.out ++ ranOf s.T e⟩ := by
    unfold stepL
    rw [if_neg (by omega), hd]; rfl
  have ht := ticks_nn hc
  refine ⟨by rw [runO_step he, h.run, Option.bind_some, hst], step_ok ho h.ok hst, rfl, hn, fun h => by omega, fun e' _ he' => ?_, fun k hkj e' he' => ?_, fun c => ?_, by have := h.len; omega, ?_⟩
  · rw [Nat.add_sub_cancel, he] at he'
    cases he'; rfl
  · dsimp only
    rcases Nat.lt_or_ge k j with h1 | h1
    · have h2 := h.le k h1 e' he'
      split
      · rename_i hce
        rw [hce] at h2
        omega
      · exact h2
    · obtain rfl : k = j := by omega
      rw [he] at he'
      cases he'
      rw [if_pos rfl]
      exact Int.le_refl _
  · dsimp only
    by_cases hce : c = e.cpu
    · subst hce
      rw [if_pos rfl]
      exact .inr ⟨j, by omega, e, he, rfl, rfl⟩
    · rw [if_neg hce]
      rcases h.ex c with h1 | ⟨k, hk, p, h1, h2, h3⟩
      · exact .inl h1
      · exact .inr ⟨k, by omega, p, h1, h2, h3⟩
  · rw [List.length_append]
    have := h.outlen
    have : (ranOf s.T e).length ≤ 1 := by unfold ranOf; split <;> simp
    omega
theorem RLk.fin (h : RLk n H T0 l l.length th s) : runO (stepL n) (lk0 T0) l = some s := by
  have := h.run
  rwa [List.take_length] at this
/-! ### what an event does -/
theorem does_spawn (hk : e.kind = 1) (h : ofT th e.task = none) (hg : e.grp < n) : doesL n (ofT th) e = some (ofT (th ++ [(e.task, e.grp)])) := by
  unfold doesL; rw [if_pos hk, if_neg (by rw [h]; simp; omega), ofT_snoc h]
theorem does_spawn_no (hk : e.kind = 1) (h : (ofT th e.task).isSome = true ∨ (n : Int) ≤ e.grp) : doesL n (ofT th) e = none := by
  unfold doesL; rw [if_pos hk, if_pos h]
theorem does_block (hk : e.kind = 3) (h : (ofT th e.got).isSome = true) : doesL n (ofT th) e = some (ofT th) := by
  unfold doesL; rw [if_neg (by omega), if_neg (by omega), if_pos hk, if_pos h]
theorem does_block_no (hk : e.kind = 3) (h : ofT th e.got = none) : doesL n (ofT th) e = none := by
  unfold doesL; rw [if_neg (by omega), if_neg (by omega), if_pos hk, if_neg (by rw [h]; simp)]
theorem does_exit (hk : e.kind = 4) {k : Nat} {g : Int} (hn : (th.map Prod.fst).Nodup) (h : th[k]? = some (e.got, g)) (hs : ofT th e.got = some g) : doesL n (ofT th) e = some (ofT (th.take k ++ th.drop (k + 1))) := by
  unfold doesL; rw [if_neg (by omega), if_neg (by omega), if_neg (by omega), if_pos hk, if_pos (by rw [hs]; rfl), (ofT_erase hn h).1]
theorem does_exit_no (hk : e.kind = 4) (h : ofT th e.got = none) : doesL n (ofT th) e = none := by
  unfold doesL; rw [if_neg (by omega), if_neg (by omega), if_neg (by omega), if_pos hk, if_neg (by rw [h]; simp)]
theorem does_tickT (hk : e.kind = 5) (h : e.got = 0 ∨ (ofT th e.got).isSome = true) : doesL n (ofT th) e = some (ofT th) := by
  unfold doesL; rw [if_neg (by omega), if_pos hk]
  by_cases h0 : e.got = 0
  · rw [if_pos h0]
  · rw [if_neg h0, if_pos (h.resolve_left h0)]
theorem does_tickT_no (hk : e.kind = 5) (h0 : e.got ≠ 0) (h : ofT th e.got = none) : doesL n (ofT th) e = none := by
  unfold doesL; rw [if_neg (by omega), if_pos hk, if_neg h0, if_neg (by rw [h]; simp)]
theorem does_none (h1 : e.kind ≠ 1) (h3 : e.kind ≠ 3) (h4 : e.kind ≠ 4) (h5 : e.kind ≠ 5) : doesL n (ofT th) e = some (ofT th) := by
  unfold doesL; rw [if_neg h1, if_neg h5, if_neg h3, if_neg h4]
end
end Go.Proofs.YtaplangfppohdaaDoor
namespace Go.Proofs.YtaplangfppohdaaDoor
open Go.RowKit Go.Shelf
attribute [local go_sem] Oper.semAt_some

theorem elemRR : ElemT Tryd.prog 160 165 4 32 := ⟨Tryd.underlying160, by
  have h : (Tryd.prog.info? 165).map (fun i => (i.zero, i.size, i.bytes)) = some (some (.agg #[.int .i64 0, .int .i64 0, .int .i64 0, .int .i64 0]), 4, 32) := by kernel_rfl
  obtain ⟨i, h1, h2, h3, h4⟩ := info_parts h
  exact ⟨i, _, h1, h2, h3, h4, rfl⟩, by omega, by omega⟩
theorem heldE {w2 wz w' : World} {B : Nat} {e : Ev} {p : Addr} {z : Value} (h : wz.cell? ⟨B, 0, none⟩ = some (.int .i64 e.seq) ∧ wz.cell? ⟨B, 1, none⟩ = some (.int .i64 e.time) ∧ wz.cell? ⟨B, 2, none⟩ = some (.int .u8 e.cpu) ∧ wz.cell? ⟨B, 3, none⟩ = some (.int .u8 e.kind) ∧ wz.cell? ⟨B, 4, none⟩ = some (.int .i64 e.task) ∧ wz.cell? ⟨B, 5, none⟩ = some (.int .i64 e.grp) ∧ wz.cell? ⟨B, 6, none⟩ = some (.int .i64 e.to) ∧ wz.cell? ⟨B, 7, none⟩ = some (.int .i64 e.wt) ∧ wz.cell? ⟨B, 8, none⟩ = some (.int .i64 e.ticks) ∧ wz.cell? ⟨B, 9, none⟩ = some (.int .u64 e.mask) ∧ wz.cell? ⟨B, 10, none⟩ = some (.int .i64 e.got) ∧ wz.cell? p = some z ∧ Below w2.heap.size w2 wz) (hb : Below wz.heap.size wz w') :
    w'.cell? ⟨B, 0, none⟩ = some (.int .i64 e.seq) ∧ w'.cell? ⟨B, 1, none⟩ = some (.int .i64 e.time) ∧ w'.cell? ⟨B, 2, none⟩ = some (.int .u8 e.cpu) ∧ w'.cell? ⟨B, 3, none⟩ = some (.int .u8 e.kind) ∧ w'.cell? ⟨B, 4, none⟩ = some (.int .i64 e.task) ∧ w'.cell? ⟨B, 5, none⟩ = some (.int .i64 e.grp) ∧ w'.cell? ⟨B, 6, none⟩ = some (.int .i64 e.to) ∧ w'.cell? ⟨B, 7, none⟩ = some (.int .i64 e.wt) ∧ w'.cell? ⟨B, 8, none⟩ = some (.int .i64 e.ticks) ∧ w'.cell? ⟨B, 9, none⟩ = some (.int .u64 e.mask) ∧ w'.cell? ⟨B, 10, none⟩ = some (.int .i64 e.got) ∧ w'.cell? p = some z ∧ Below w2.heap.size w2 w' := by
  obtain ⟨c0, c1, c2, c3, c4, c5, c6, c7, c8, c9, c10, cp, hl⟩ := h
  exact ⟨below_cell hb c0, below_cell hb c1, below_cell hb c2, below_cell hb c3, below_cell hb c4, below_cell hb c5, below_cell hb c6, below_cell hb c7, below_cell hb c8, below_cell hb c9, below_cell hb c10, below_cell hb cp, hl.trans (hb.mono hl.size)⟩
theorem new_rhomeM {W : World} {p q : Int} {m : Nat} (hm : W.heap.size = m) : EV encG 2 (W.alloc (.cells #[.int .i64 p, .int .i64 q] 121)) (.slice (some ⟨m, 0, none⟩) 1 1) [(p, q)] := by subst hm; exact EV.new1 rfl (Nat.le_refl _)
theorem new_rn {W : World} {t : Rn} {m : Nat} (hm : W.heap.size = m) : EV encRn 4 (W.alloc (.cells #[.int .i64 t.cpu, .int .i64 t.time, .int .i64 t.ticks, .int .i64 t.grp] 165)) (.slice (some ⟨m, 0, none⟩) 1 1) [t] := by subst hm; exact EV.new1 rfl (Nat.le_refl _)
set_option maxRecDepth 100000 in
set_option maxHeartbeats 6400000 in
set_option pp.maxSteps 1000000 in
set_option pp.deepTerms true in
theorem rlook_tail (w w1 : World) (G H cg n ce : Nat) (Ag Ae : Option Addr) (vt : Value) (hs : List (Int × Int)) (l : List Ev) (Post : Ending → World → Prop) {u1 u3 u4 u5 u6 u7 u9 u10 u11 u12 u13 u14 u15 u16 u17 u18 u19 u20 u21 u22 u23 u24 u25 u26 u27 u28 u29 u30 u31 u32 u33 u34 u35 u36 u37 u38 u39 u40 u41 u42 u43 u44 u45 u46 u47 u48 u49 u50 u51 u52 u53 u54 u55 u56 u57 u58 u59 u60 u61 u62 u63 u64 u65 u66 u67 u68 u69 u70 u71 u72 u73 u74 u75 u76 u77 u78 u79 u80 u81 u82 u83 u84 u85 u86 u87 u88 u89 u90 u91 u92 u93 u94 u95 u96 u97 u98 u99 u100 u101 u102 u103 u104 u105 u106 u107 u108 u109 u110 u111 u112 u113 u114 u115 u116 u117 u118 u119 u120 u121 u122 u123 u124 u125 u126 u127 u128 u129 u130 u131 u132 u133 u134 u135 u136 u137 u138 u139 u140 u141 u142 u143 u144 u145 u146 u147 u148 u149 u150 u151 u152 u153 u154 u155 u156 u157 u158 u159 u160 u161 u162 u163 u164 u165 u166 u167 u168 u169 u170 u171 u172 u173 u174 u175 u176 u177 u178 u179 u180 u181 u182 u183 u184 u185 u186 u187 u188 u189 : Value}
    (HL : Hid (EV encE 11 w (.slice Ae n ce) l ∧ l.length = n ∧ n ≤ 100000 ∧ ∀ e ∈ l, EvOk e)) (HT : Hid (OV encG 2 121 w.heap.size w1 vt hs ∧ (hs.map Prod.fst).Nodup ∧ (hs.length ≤ H ∧ H ≤ 100000) ∧ ∀ x g, ofT hs x = some g → 0 ≤ g ∧ g < (G : Int)))
    (HB : Hid (Below w.heap.size w w1)) (hG : G ≤ 100000)
    (FIN0 : Hid (runO (stepL G) (lk0 (ofT hs)) l = none → ∀ w', Below w.heap.size w w' → Post (.returned (.tuple #[.slice none 0 0, .bool false])) w'))
    (FIN1 : Hid (∀ s, runO (stepL G) (lk0 (ofT hs)) l = some s → ∀ v w', OV encRn 4 165 w.heap.size w' v s.out → Below w.heap.size w w' → Post (.returned (.tuple #[v, .bool true])) w')) :
    Code.wp Tryd.prog (tailR Tryd.f83 9) (bodyPost Tryd.prog Tryd.f83 Post)
      ⟨#[.slice Ag G cg, u1, .slice Ae n ce, u3, u4, u5, u6, u7, vt, u9, u10, u11, u12, u13, u14, u15, u16, u17, u18, u19, u20, u21, u22, u23, u24, u25, u26, u27, u28, u29, u30, u31, u32, u33, u34, u35, u36, u37, u38, u39, u40, u41, u42, u43, u44, u45, u46, u47, u48, u49, u50, u51, u52, u53, u54, u55, u56, u57, u58, u59, u60, u61, u62, u63, u64, u65, u66, u67, u68, u69, u70, u71, u72, u73, u74, u75, u76, u77, u78, u79, u80, u81, u82, u83, u84, u85, u86, u87, u88, u89, u90, u91, u92, u93, u94, u95, u96, u97, u98, u99, u100, u101, u102, u103, u104, u105, u106, u107, u108, u109, u110, u111, u112, u113, u114, u115, u116, u117, u118, u119, u120, u121, u122, u123, u124, u125, u126, u127, u128, u129, u130, u131, u132, u133, u134, u135, u136, u137, u138, u139, u140, u141, u142, u143, u144, u145, u146, u147, u148, u149, u150, u151, u152, u153, u154, u155, u156, u157, u158, u159, u160, u161, u162, u163, u164, u165, u166, u167, u168, u169, u170, u171, u172, u173, u174, u175, u176, u177, u178, u179, u180, u181, u182, u183, u184, u185, u186, u187, u188, u189], []⟩ w1 := by
  conv => arg 2; whnf
  conv => arg 4; dsimp only
  have hn6 := HL.out.2.2.1
  go_wp2
  go_loopg [8, 11, 12, 13, 14, 15, 16] n (fun k v8 v11 i _ _ _ _ wr => ∃ (j : Nat) (th : List (Int × Int)) (s : Lk), j + k = n ∧ i = .int .i64 j ∧ RLk G H (ofT hs) l j th s ∧ OV encG 2 121 w.heap.size wr v8 th ∧ OV encRn 4 165 w.heap.size wr v11 s.out ∧ Below w.heap.size w wr)
  case atStart => exact ⟨0, hs, _, by omega, rfl, RLk.start HT.out.2.2.2 HT.out.2.1 HT.out.2.2.1.1, HT.out.1, OV.nil _ _, HB.out⟩
  case round =>
    obtain ⟨j, th, s, hj, rfl, hrl, hth, hout, hb⟩ := hrel
    have HJ := Lib.hid hj
    have HR := Lib.hid hrl
    have HTH := Lib.hid hth
    have HOU := Lib.hid hout
    have HBW := Lib.hid hb
    clear hj hrl hth hout hb
    by_cases hlt : j < n
    · obtain ⟨e, he⟩ : ∃ e, l[j]? = some e := ⟨_, List.getElem?_eq_getElem (by rw [HL.out.2.1]; exact hlt)⟩
      have HE := Lib.hid he
      have HEO := Lib.hid (HL.out.2.2.2 e (List.mem_of_getElem? he))
      obtain ⟨b, off, c', hs1, hcc, hrr⟩ := (HL.out.1.below HBW.out).row (by rw [HL.out.2.1]; omega)
      rw [HL.out.2.1] at hs1 hcc
      simp only [Value.slice.injEq, true_and] at hs1
      obtain ⟨rfl, rfl⟩ := hs1
      obtain ⟨t0, t1, t2, t3, t4, t5, t6, t7, t8, t9, t10⟩ := hrr.ev he
      have HRW := Lib.hid (show ∀ W : World, Below w.heap.size w W → ER encE 11 W b off l from fun W hW => by
        obtain ⟨b3, off3, c3, h1, _, h3⟩ := (HL.out.1.below hW).row (by rw [HL.out.2.1]; omega)
        simp only [Value.slice.injEq, Option.some.injEq, Addr.mk.injEq, true_and, and_true] at h1
        obtain ⟨⟨rfl, rfl⟩, _⟩ := h1
        exact h3)
      have hevp := evp_newT wr e 123
      have hbel := (Below.refl wr.heap.size wr).alloc (Nat.le_refl _) (.cells #[.int .i64 e.seq, .int .i64 e.time, .int .u8 e.cpu, .int .u8 e.kind, .int .i64 e.task, .int .i64 e.grp, .int .i64 e.to, .int .i64 e.wt, .int .i64 e.ticks, .int .u64 e.mask, .int .i64 e.got] 123)
      clear hrr he
      go_upto_region 14 with fail
      clear t0 t1 t2 t3 t4 t5 t6 t7 t8 t9 t10
      generalize wr.alloc (.cells #[.int .i64 e.seq, .int .i64 e.time, .int .u8 e.cpu, .int .u8 e.kind, .int .i64 e.task, .int .i64 e.grp, .int .i64 e.to, .int .i64 e.wt, .int .i64 e.ticks, .int .u64 e.mask, .int .i64 e.got] 123) = w2 at hevp hbel ⊢
      have HTH2 := Lib.hid (HTH.out.below hbel)
      have HOU2 := Lib.hid (HOU.out.below hbel)
      have HB2 := Lib.hid (HBW.out.trans (hbel.mono HBW.out.size))
      generalize wr.heap.size = B at hevp ⊢
      have HEP := Lib.hid hevp
      clear hevp hbel HTH HOU HBW
      have HCK := Lib.hid (fun W => r6check_ok W e HEO.out)
      unfold evA at HCK
      go_cut [85] (fun v wx => Below w2.heap.size w2 wx ∧ ((v = .bool true ∧ stepL G s e = none) ∨ (v = .bool false ∧ chkEv e = 0 ∧ s.last < e.seq)))
      case first =>
        have c0 := HEP.out.c0
        have c1 := HEP.out.c1
        have c2 := HEP.out.c2
        have c3 := HEP.out.c3
        have c4 := HEP.out.c4
        have c5 := HEP.out.c5
        have c6 := HEP.out.c6
        have c7 := HEP.out.c7
        have c8 := HEP.out.c8
        have c9 := HEP.out.c9
        have c10 := HEP.out.c10
        by_cases hc : chkEv e = 0
        · have hcd : (chkEv e != 0) = false := by simp [hc]
          rcases Nat.eq_zero_or_pos j with rfl | h0
          · have cp := c0
            have HX := Lib.hid (HR.out.seqOk hc (fun p h => by omega) (by rw [HL.out.2.1]; exact hlt))
            skip
            have HS := Lib.hid (fun (wz : World) (h : Below w2.heap.size w2 wz) => show (fun wz => wz.cell? ⟨B, 0, none⟩ = some (.int .i64 e.seq) ∧ wz.cell? ⟨B, 1, none⟩ = some (.int .i64 e.time) ∧ wz.cell? ⟨B, 2, none⟩ = some (.int .u8 e.cpu) ∧ wz.cell? ⟨B, 3, none⟩ = some (.int .u8 e.kind) ∧ wz.cell? ⟨B, 4, none⟩ = some (.int .i64 e.task) ∧ wz.cell? ⟨B, 5, none⟩ = some (.int .i64 e.grp) ∧ wz.cell? ⟨B, 6, none⟩ = some (.int .i64 e.to) ∧ wz.cell? ⟨B, 7, none⟩ = some (.int .i64 e.wt) ∧ wz.cell? ⟨B, 8, none⟩ = some (.int .i64 e.ticks) ∧ wz.cell? ⟨B, 9, none⟩ = some (.int .u64 e.mask) ∧ wz.cell? ⟨B, 10, none⟩ = some (.int .i64 e.got) ∧ wz.cell? ⟨B, 0, none⟩ = some (.int .i64 e.seq) ∧ Below w2.heap.size w2 wz) wz from ⟨below_cell h c0, below_cell h c1, below_cell h c2, below_cell h c3, below_cell h c4, below_cell h c5, below_cell h c6, below_cell h c7, below_cell h c8, below_cell h c9, below_cell h c10, below_cell h cp, h⟩)
            refine wp_region_held_drew (S := (fun wz => wz.cell? ⟨B, 0, none⟩ = some (.int .i64 e.seq) ∧ wz.cell? ⟨B, 1, none⟩ = some (.int .i64 e.time) ∧ wz.cell? ⟨B, 2, none⟩ = some (.int .u8 e.cpu) ∧ wz.cell? ⟨B, 3, none⟩ = some (.int .u8 e.kind) ∧ wz.cell? ⟨B, 4, none⟩ = some (.int .i64 e.task) ∧ wz.cell? ⟨B, 5, none⟩ = some (.int .i64 e.grp) ∧ wz.cell? ⟨B, 6, none⟩ = some (.int .i64 e.to) ∧ wz.cell? ⟨B, 7, none⟩ = some (.int .i64 e.wt) ∧ wz.cell? ⟨B, 8, none⟩ = some (.int .i64 e.ticks) ∧ wz.cell? ⟨B, 9, none⟩ = some (.int .u64 e.mask) ∧ wz.cell? ⟨B, 10, none⟩ = some (.int .i64 e.got) ∧ wz.cell? ⟨B, 0, none⟩ = some (.int .i64 e.seq) ∧ Below w2.heap.size w2 wz)) (by kernel_rfl) (HS.out _ (below_drew (Below.refl _ _))) (fun hh => ?_)
            refine wpAnyH_takeW (i := 0) (d := some 68) (v := ?_) (by kernel_rfl) (by kernel_rfl) (by kernel_rfl) (by kernel_rfl) (fun _ _ _ h => h) ?_ hh ?_
            rotate_left
            · (intro o ho w hSw; obtain rfl := Option.some.inj ho; clear ho; (try dsimp only at hSw ⊢); go_simp; (try with_reducible rfl))
            simp only [Act.put, List.setIfInBounds_toArray, List.set_cons_zero, List.set_cons_succ]
            refine wpAnyH_ready (rs := [1]) (by kernel_rfl) (by simp) (AllReadyH.cons rfl (fun K hK => ?_) AllReadyH.nil)
            have HKK := Lib.hid hK
            clear hK
            go_simp
            refine (HCK.out _).mono ?_
            rintro r wz ⟨rfl, hbz⟩
            have HBZ := Lib.hid (below_drew (Below.refl w2.heap.size w2) |>.trans hbz)
            clear hbz
            refine HKK.out _ _ (HS.out _ HBZ.out) (fun hh2 => ?_)
            clear HKK K hh
            have hh := hh2
            clear hh2
            try simp only [Act.put, List.setIfInBounds_toArray, List.set_cons_zero, List.set_cons_succ]
            refine wpAnyH_takeW (i := 2) (d := some 70) (v := ?_) (by kernel_rfl) (by kernel_rfl) (by kernel_rfl) (by kernel_rfl) (fun _ _ _ h => h) ?_ hh ?_
            rotate_left
            · (intro o ho w hSw; obtain rfl := Option.some.inj ho; clear ho; (try dsimp only at hSw ⊢); go_simp; (try with_reducible rfl))
            simp only [Act.put, List.setIfInBounds_toArray, List.set_cons_zero, List.set_cons_succ]
            refine wpAnyH_takeW (i := 3) (d := some 71) (v := ?_) (by kernel_rfl) (by kernel_rfl) (by kernel_rfl) (by kernel_rfl) (fun _ _ _ h => h) ?_ hh ?_
            rotate_left
            · (intro o ho w hSw; obtain rfl := Option.some.inj ho; clear ho; (try dsimp only at hSw ⊢); go_simp; (try with_reducible rfl))
            simp only [Act.put, List.setIfInBounds_toArray, List.set_cons_zero, List.set_cons_succ]
            refine wpAnyH_takeW (i := 4) (d := some 72) (v := ?_) (by kernel_rfl) (by kernel_rfl) (by kernel_rfl) (by kernel_rfl) (fun _ _ _ h => h) ?_ hh ?_
            rotate_left
            · (intro o ho w hSw; obtain rfl := Option.some.inj ho; clear ho; (try dsimp only at hSw ⊢); go_simp; (try with_reducible rfl))
            simp only [Act.put, List.setIfInBounds_toArray, List.set_cons_zero, List.set_cons_succ]
            refine wpAnyH_takeW (i := 5) (d := some 73) (v := ?_) (by kernel_rfl) (by kernel_rfl) (by kernel_rfl) (by kernel_rfl) (fun _ _ _ h => h) ?_ hh ?_
            rotate_left
            · (intro o ho w hSw; obtain rfl := Option.some.inj ho; clear ho; (try dsimp only at hSw ⊢); go_simp; (try with_reducible rfl))
            simp only [Act.put, List.setIfInBounds_toArray, List.set_cons_zero, List.set_cons_succ]
            refine wpAnyH_takeW (i := 6) (d := some 74) (v := ?_) (by kernel_rfl) (by kernel_rfl) (by kernel_rfl) (by kernel_rfl) (fun _ _ _ h => h) ?_ hh ?_
            rotate_left
            · (intro o ho w hSw; obtain rfl := Option.some.inj ho; clear ho; (try dsimp only at hSw ⊢); go_simp; (try with_reducible rfl))
            simp only [Act.put, List.setIfInBounds_toArray, List.set_cons_zero, List.set_cons_succ]
            refine wpAnyH_takeU (i := 7) (d := some 75) (by kernel_rfl) (by kernel_rfl) (by kernel_rfl) (by kernel_rfl) (fun _ _ _ h => h) hh ?_
            simp only [Act.put, List.setIfInBounds_toArray, List.set_cons_zero, List.set_cons_succ]
            refine wpAnyH_takeU (i := 8) (d := some 76) (by kernel_rfl) (by kernel_rfl) (by kernel_rfl) (by kernel_rfl) (fun _ _ _ h => h) hh ?_
            simp only [Act.put, List.setIfInBounds_toArray, List.set_cons_zero, List.set_cons_succ]
            refine wpAnyH_takeU (i := 9) (d := some 77) (by kernel_rfl) (by kernel_rfl) (by kernel_rfl) (by kernel_rfl) (fun _ _ _ h => h) hh ?_
            simp only [Act.put, List.setIfInBounds_toArray, List.set_cons_zero, List.set_cons_succ]
            refine wpAnyH_takeU (i := 10) (d := some 78) (by kernel_rfl) (by kernel_rfl) (by kernel_rfl) (by kernel_rfl) (fun _ _ _ h => h) hh ?_
            simp only [Act.put, List.setIfInBounds_toArray, List.set_cons_zero, List.set_cons_succ]
            refine wpAnyH_takeU (i := 11) (d := some 79) (by kernel_rfl) (by kernel_rfl) (by kernel_rfl) (by kernel_rfl) (fun _ _ _ h => h) hh ?_
            simp only [Act.put, List.setIfInBounds_toArray, List.set_cons_zero, List.set_cons_succ]
            refine wpAnyH_takeU (i := 12) (d := some 80) (by kernel_rfl) (by kernel_rfl) (by kernel_rfl) (by kernel_rfl) (fun _ _ _ h => h) hh ?_
            simp only [Act.put, List.setIfInBounds_toArray, List.set_cons_zero, List.set_cons_succ]
            refine wpAnyH_takeU (i := 13) (d := some 81) (by kernel_rfl) (by kernel_rfl) (by kernel_rfl) (by kernel_rfl) (fun _ _ _ h => h) hh ?_
            simp only [Act.put, List.setIfInBounds_toArray, List.set_cons_zero, List.set_cons_succ]
            refine wpAnyH_takeU (i := 14) (d := some 82) (by kernel_rfl) (by kernel_rfl) (by kernel_rfl) (by kernel_rfl) (fun _ _ _ h => h) hh ?_
            simp only [Act.put, List.setIfInBounds_toArray, List.set_cons_zero, List.set_cons_succ]
            refine wpAnyH_takeU (i := 15) (d := some 83) (by kernel_rfl) (by kernel_rfl) (by kernel_rfl) (by kernel_rfl) (fun _ _ _ h => h) hh ?_
            simp only [Act.put, List.setIfInBounds_toArray, List.set_cons_zero, List.set_cons_succ]
            refine wpAnyH_takeW (i := 16) (d := some 84) (v := ?_) (by kernel_rfl) (by kernel_rfl) (by kernel_rfl) (by kernel_rfl) (fun _ _ _ h => h) ?_ hh ?_
            rotate_left
            · (intro o ho w hSw; obtain rfl := Option.some.inj ho; clear ho; (try dsimp only at hSw ⊢); go_simp; (try with_reducible rfl))
            simp only [Act.put, List.setIfInBounds_toArray, List.set_cons_zero, List.set_cons_succ]
            refine wpAnyH_takeW (i := 17) (d := some 85) (v := ?_) (by kernel_rfl) (by kernel_rfl) (by kernel_rfl) (by kernel_rfl) (fun _ _ _ h => h) ?_ hh ?_
            rotate_left
            · (intro o ho w hSw; obtain rfl := Option.some.inj ho; clear ho; (try dsimp only at hSw ⊢); go_simp; (try with_reducible rfl))
            simp only [Act.put, List.setIfInBounds_toArray, List.set_cons_zero, List.set_cons_succ]
            refine wpAnyH_done (by kernel_rfl) ?_ _
            clear hh HS
            go_wp2
            go_meet
            exact ⟨HBZ.out, .inr ⟨rfl, hc, HX.out⟩⟩
          · obtain ⟨p, hp⟩ : ∃ p, l[j - 1]? = some p := ⟨_, List.getElem?_eq_getElem (by rw [HL.out.2.1]; omega)⟩
            obtain ⟨cp, _⟩ := (HRW.out w2 HB2.out).ev hp
            have i0 : decide ((0 : Int) < (j : Int)) = true := by simp; omega
            have i00 : decide (0 < j) = true := by simp; omega
            have i1 : (0 : Int) ≤ (j : Int) - 1 := by omega
            have i2 : (j : Int) - 1 < (n : Int) := by omega
            have i3 : ((j : Int) - 1).toNat = j - 1 := by omega
            have xw : IntKind.i64.wrap ((j : Int) - 1) = (j : Int) - 1 := IntWalk.i64_in _ (by omega)
            have i4 : (1 : Int) ≤ (j : Int) := by omega
            have i5 : 1 ≤ j := by omega
            have HP := Lib.hid hp
            clear hp
            by_cases hle : e.seq ≤ p.seq
            · have d1 : decide (e.seq ≤ p.seq) = true := by simp [hle]
              have HX := Lib.hid (HR.out.bad2 h0 HP.out hle)
              clear hle
              skip
              have HS := Lib.hid (fun (wz : World) (h : Below w2.heap.size w2 wz) => show (fun wz => wz.cell? ⟨B, 0, none⟩ = some (.int .i64 e.seq) ∧ wz.cell? ⟨B, 1, none⟩ = some (.int .i64 e.time) ∧ wz.cell? ⟨B, 2, none⟩ = some (.int .u8 e.cpu) ∧ wz.cell? ⟨B, 3, none⟩ = some (.int .u8 e.kind) ∧ wz.cell? ⟨B, 4, none⟩ = some (.int .i64 e.task) ∧ wz.cell? ⟨B, 5, none⟩ = some (.int .i64 e.grp) ∧ wz.cell? ⟨B, 6, none⟩ = some (.int .i64 e.to) ∧ wz.cell? ⟨B, 7, none⟩ = some (.int .i64 e.wt) ∧ wz.cell? ⟨B, 8, none⟩ = some (.int .i64 e.ticks) ∧ wz.cell? ⟨B, 9, none⟩ = some (.int .u64 e.mask) ∧ wz.cell? ⟨B, 10, none⟩ = some (.int .i64 e.got) ∧ wz.cell? ⟨b, off + (j - 1) * 11, none⟩ = some (.int .i64 p.seq) ∧ Below w2.heap.size w2 wz) wz from ⟨below_cell h c0, below_cell h c1, below_cell h c2, below_cell h c3, below_cell h c4, below_cell h c5, below_cell h c6, below_cell h c7, below_cell h c8, below_cell h c9, below_cell h c10, below_cell h cp, h⟩)
              refine wp_region_held_drew (S := (fun wz => wz.cell? ⟨B, 0, none⟩ = some (.int .i64 e.seq) ∧ wz.cell? ⟨B, 1, none⟩ = some (.int .i64 e.time) ∧ wz.cell? ⟨B, 2, none⟩ = some (.int .u8 e.cpu) ∧ wz.cell? ⟨B, 3, none⟩ = some (.int .u8 e.kind) ∧ wz.cell? ⟨B, 4, none⟩ = some (.int .i64 e.task) ∧ wz.cell? ⟨B, 5, none⟩ = some (.int .i64 e.grp) ∧ wz.cell? ⟨B, 6, none⟩ = some (.int .i64 e.to) ∧ wz.cell? ⟨B, 7, none⟩ = some (.int .i64 e.wt) ∧ wz.cell? ⟨B, 8, none⟩ = some (.int .i64 e.ticks) ∧ wz.cell? ⟨B, 9, none⟩ = some (.int .u64 e.mask) ∧ wz.cell? ⟨B, 10, none⟩ = some (.int .i64 e.got) ∧ wz.cell? ⟨b, off + (j - 1) * 11, none⟩ = some (.int .i64 p.seq) ∧ Below w2.heap.size w2 wz)) (by kernel_rfl) (HS.out _ (below_drew (Below.refl _ _))) (fun hh => ?_)
              refine wpAnyH_takeW (i := 0) (d := some 68) (v := ?_) (by kernel_rfl) (by kernel_rfl) (by kernel_rfl) (by kernel_rfl) (fun _ _ _ h => h) ?_ hh ?_
              rotate_left
              · (intro o ho w hSw; obtain rfl := Option.some.inj ho; clear ho; (try dsimp only at hSw ⊢); go_simp; (try with_reducible rfl))
              simp only [Act.put, List.setIfInBounds_toArray, List.set_cons_zero, List.set_cons_succ]
              refine wpAnyH_ready (rs := [1]) (by kernel_rfl) (by simp) (AllReadyH.cons rfl (fun K hK => ?_) AllReadyH.nil)
              have HKK := Lib.hid hK
              clear hK
              go_simp
              refine (HCK.out _).mono ?_
              rintro r wz ⟨rfl, hbz⟩
              have HBZ := Lib.hid (below_drew (Below.refl w2.heap.size w2) |>.trans hbz)
              clear hbz
              refine HKK.out _ _ (HS.out _ HBZ.out) (fun hh2 => ?_)
              clear HKK K hh
              have hh := hh2
              clear hh2
              try simp only [Act.put, List.setIfInBounds_toArray, List.set_cons_zero, List.set_cons_succ]
              refine wpAnyH_takeW (i := 2) (d := some 70) (v := ?_) (by kernel_rfl) (by kernel_rfl) (by kernel_rfl) (by kernel_rfl) (fun _ _ _ h => h) ?_ hh ?_
              rotate_left
              · (intro o ho w hSw; obtain rfl := Option.some.inj ho; clear ho; (try dsimp only at hSw ⊢); go_simp; (try with_reducible rfl))
              simp only [Act.put, List.setIfInBounds_toArray, List.set_cons_zero, List.set_cons_succ]
              refine wpAnyH_takeW (i := 3) (d := some 71) (v := ?_) (by kernel_rfl) (by kernel_rfl) (by kernel_rfl) (by kernel_rfl) (fun _ _ _ h => h) ?_ hh ?_
              rotate_left
              · (intro o ho w hSw; obtain rfl := Option.some.inj ho; clear ho; (try dsimp only at hSw ⊢); go_simp; (try with_reducible rfl))
              simp only [Act.put, List.setIfInBounds_toArray, List.set_cons_zero, List.set_cons_succ]
              refine wpAnyH_takeW (i := 4) (d := some 72) (v := ?_) (by kernel_rfl) (by kernel_rfl) (by kernel_rfl) (by kernel_rfl) (fun _ _ _ h => h) ?_ hh ?_
              rotate_left
              · (intro o ho w hSw; obtain rfl := Option.some.inj ho; clear ho; (try dsimp only at hSw ⊢); go_simp; (try with_reducible rfl))
              simp only [Act.put, List.setIfInBounds_toArray, List.set_cons_zero, List.set_cons_succ]
              refine wpAnyH_takeW (i := 5) (d := some 73) (v := ?_) (by kernel_rfl) (by kernel_rfl) (by kernel_rfl) (by kernel_rfl) (fun _ _ _ h => h) ?_ hh ?_
              rotate_left
              · (intro o ho w hSw; obtain rfl := Option.some.inj ho; clear ho; (try dsimp only at hSw ⊢); go_simp; (try with_reducible rfl))
              simp only [Act.put, List.setIfInBounds_toArray, List.set_cons_zero, List.set_cons_succ]
              refine wpAnyH_takeW (i := 6) (d := some 74) (v := ?_) (by kernel_rfl) (by kernel_rfl) (by kernel_rfl) (by kernel_rfl) (fun _ _ _ h => h) ?_ hh ?_
              rotate_left
              · (intro o ho w hSw; obtain rfl := Option.some.inj ho; clear ho; (try dsimp only at hSw ⊢); go_simp; (try with_reducible rfl))
              simp only [Act.put, List.setIfInBounds_toArray, List.set_cons_zero, List.set_cons_succ]
              refine wpAnyH_takeW (i := 7) (d := some 75) (v := ?_) (by kernel_rfl) (by kernel_rfl) (by kernel_rfl) (by kernel_rfl) (fun _ _ _ h => h) ?_ hh ?_
              rotate_left
              · (intro o ho w hSw; obtain rfl := Option.some.inj ho; clear ho; (try dsimp only at hSw ⊢); go_simp; (try with_reducible rfl))
              simp only [Act.put, List.setIfInBounds_toArray, List.set_cons_zero, List.set_cons_succ]
              refine wpAnyH_takeW (i := 8) (d := some 76) (v := ?_) (by kernel_rfl) (by kernel_rfl) (by kernel_rfl) (by kernel_rfl) (fun _ _ _ h => h) ?_ hh ?_
              rotate_left
              · (intro o ho w hSw; obtain rfl := Option.some.inj ho; clear ho; (try dsimp only at hSw ⊢); go_simp; (try with_reducible rfl))
              simp only [Act.put, List.setIfInBounds_toArray, List.set_cons_zero, List.set_cons_succ]
              refine wpAnyH_takeW (i := 9) (d := some 77) (v := ?_) (by kernel_rfl) (by kernel_rfl) (by kernel_rfl) (by kernel_rfl) (fun _ _ _ h => h) ?_ hh ?_
              rotate_left
              · (intro o ho w hSw; obtain rfl := Option.some.inj ho; clear ho; (try dsimp only at hSw ⊢); go_simp; (try with_reducible rfl))
              simp only [Act.put, List.setIfInBounds_toArray, List.set_cons_zero, List.set_cons_succ]
              refine wpAnyH_takeW (i := 10) (d := some 78) (v := ?_) (by kernel_rfl) (by kernel_rfl) (by kernel_rfl) (by kernel_rfl) (fun _ _ _ h => h) ?_ hh ?_
              rotate_left
              · (intro o ho w hSw; obtain rfl := Option.some.inj ho; clear ho; (try dsimp only at hSw ⊢); go_simp; (try with_reducible rfl))
              simp only [Act.put, List.setIfInBounds_toArray, List.set_cons_zero, List.set_cons_succ]
              refine wpAnyH_takeW (i := 11) (d := some 79) (v := ?_) (by kernel_rfl) (by kernel_rfl) (by kernel_rfl) (by kernel_rfl) (fun _ _ _ h => h) ?_ hh ?_
              rotate_left
              · (intro o ho w hSw; obtain rfl := Option.some.inj ho; clear ho; (try dsimp only at hSw ⊢); go_simp; (try with_reducible rfl))
              simp only [Act.put, List.setIfInBounds_toArray, List.set_cons_zero, List.set_cons_succ]
              refine wpAnyH_takeW (i := 12) (d := some 80) (v := ?_) (by kernel_rfl) (by kernel_rfl) (by kernel_rfl) (by kernel_rfl) (fun _ _ _ h => h) ?_ hh ?_
              rotate_left
              · (intro o ho w hSw; obtain rfl := Option.some.inj ho; clear ho; (try dsimp only at hSw ⊢); go_simp; (try with_reducible rfl))
              simp only [Act.put, List.setIfInBounds_toArray, List.set_cons_zero, List.set_cons_succ]
              refine wpAnyH_takeW (i := 13) (d := some 81) (v := ?_) (by kernel_rfl) (by kernel_rfl) (by kernel_rfl) (by kernel_rfl) (fun _ _ _ h => h) ?_ hh ?_
              rotate_left
              · (intro o ho w hSw; obtain rfl := Option.some.inj ho; clear ho; (try dsimp only at hSw ⊢); go_simp; (try with_reducible rfl))
              simp only [Act.put, List.setIfInBounds_toArray, List.set_cons_zero, List.set_cons_succ]
              refine wpAnyH_takeW (i := 14) (d := some 82) (v := ?_) (by kernel_rfl) (by kernel_rfl) (by kernel_rfl) (by kernel_rfl) (fun _ _ _ h => h) ?_ hh ?_
              rotate_left
              · (intro o ho w hSw; obtain rfl := Option.some.inj ho; clear ho; (try dsimp only at hSw ⊢); go_simp; (try with_reducible rfl))
              simp only [Act.put, List.setIfInBounds_toArray, List.set_cons_zero, List.set_cons_succ]
              refine wpAnyH_takeW (i := 15) (d := some 83) (v := ?_) (by kernel_rfl) (by kernel_rfl) (by kernel_rfl) (by kernel_rfl) (fun _ _ _ h => h) ?_ hh ?_
              rotate_left
              · (intro o ho w hSw; obtain rfl := Option.some.inj ho; clear ho; (try dsimp only at hSw ⊢); go_simp; (try with_reducible rfl))
              simp only [Act.put, List.setIfInBounds_toArray, List.set_cons_zero, List.set_cons_succ]
              refine wpAnyH_takeW (i := 16) (d := some 84) (v := ?_) (by kernel_rfl) (by kernel_rfl) (by kernel_rfl) (by kernel_rfl) (fun _ _ _ h => h) ?_ hh ?_
              rotate_left
              · (intro o ho w hSw; obtain rfl := Option.some.inj ho; clear ho; (try dsimp only at hSw ⊢); go_simp; (try with_reducible rfl))
              simp only [Act.put, List.setIfInBounds_toArray, List.set_cons_zero, List.set_cons_succ]
              refine wpAnyH_takeW (i := 17) (d := some 85) (v := ?_) (by kernel_rfl) (by kernel_rfl) (by kernel_rfl) (by kernel_rfl) (fun _ _ _ h => h) ?_ hh ?_
              rotate_left
              · (intro o ho w hSw; obtain rfl := Option.some.inj ho; clear ho; (try dsimp only at hSw ⊢); go_simp; (try with_reducible rfl))
              simp only [Act.put, List.setIfInBounds_toArray, List.set_cons_zero, List.set_cons_succ]
              refine wpAnyH_done (by kernel_rfl) ?_ _
              clear hh HS
              go_wp2
              go_meet
              exact ⟨HBZ.out, .inl ⟨rfl, HX.out⟩⟩
            · have d1 : decide (e.seq ≤ p.seq) = false := by simp; omega
              have HX := Lib.hid (HR.out.seqOk hc (fun q h hq => by rw [HP.out] at hq; cases hq; omega) (by rw [HL.out.2.1]; exact hlt))
              clear hle
              skip
              have HS := Lib.hid (fun (wz : World) (h : Below w2.heap.size w2 wz) => show (fun wz => wz.cell? ⟨B, 0, none⟩ = some (.int .i64 e.seq) ∧ wz.cell? ⟨B, 1, none⟩ = some (.int .i64 e.time) ∧ wz.cell? ⟨B, 2, none⟩ = some (.int .u8 e.cpu) ∧ wz.cell? ⟨B, 3, none⟩ = some (.int .u8 e.kind) ∧ wz.cell? ⟨B, 4, none⟩ = some (.int .i64 e.task) ∧ wz.cell? ⟨B, 5, none⟩ = some (.int .i64 e.grp) ∧ wz.cell? ⟨B, 6, none⟩ = some (.int .i64 e.to) ∧ wz.cell? ⟨B, 7, none⟩ = some (.int .i64 e.wt) ∧ wz.cell? ⟨B, 8, none⟩ = some (.int .i64 e.ticks) ∧ wz.cell? ⟨B, 9, none⟩ = some (.int .u64 e.mask) ∧ wz.cell? ⟨B, 10, none⟩ = some (.int .i64 e.got) ∧ wz.cell? ⟨b, off + (j - 1) * 11, none⟩ = some (.int .i64 p.seq) ∧ Below w2.heap.size w2 wz) wz from ⟨below_cell h c0, below_cell h c1, below_cell h c2, below_cell h c3, below_cell h c4, below_cell h c5, below_cell h c6, below_cell h c7, below_cell h c8, below_cell h c9, below_cell h c10, below_cell h cp, h⟩)
              refine wp_region_held_drew (S := (fun wz => wz.cell? ⟨B, 0, none⟩ = some (.int .i64 e.seq) ∧ wz.cell? ⟨B, 1, none⟩ = some (.int .i64 e.time) ∧ wz.cell? ⟨B, 2, none⟩ = some (.int .u8 e.cpu) ∧ wz.cell? ⟨B, 3, none⟩ = some (.int .u8 e.kind) ∧ wz.cell? ⟨B, 4, none⟩ = some (.int .i64 e.task) ∧ wz.cell? ⟨B, 5, none⟩ = some (.int .i64 e.grp) ∧ wz.cell? ⟨B, 6, none⟩ = some (.int .i64 e.to) ∧ wz.cell? ⟨B, 7, none⟩ = some (.int .i64 e.wt) ∧ wz.cell? ⟨B, 8, none⟩ = some (.int .i64 e.ticks) ∧ wz.cell? ⟨B, 9, none⟩ = some (.int .u64 e.mask) ∧ wz.cell? ⟨B, 10, none⟩ = some (.int .i64 e.got) ∧ wz.cell? ⟨b, off + (j - 1) * 11, none⟩ = some (.int .i64 p.seq) ∧ Below w2.heap.size w2 wz)) (by kernel_rfl) (HS.out _ (below_drew (Below.refl _ _))) (fun hh => ?_)
              refine wpAnyH_takeW (i := 0) (d := some 68) (v := ?_) (by kernel_rfl) (by kernel_rfl) (by kernel_rfl) (by kernel_rfl) (fun _ _ _ h => h) ?_ hh ?_
              rotate_left
              · (intro o ho w hSw; obtain rfl := Option.some.inj ho; clear ho; (try dsimp only at hSw ⊢); go_simp; (try with_reducible rfl))
              simp only [Act.put, List.setIfInBounds_toArray, List.set_cons_zero, List.set_cons_succ]
              refine wpAnyH_ready (rs := [1]) (by kernel_rfl) (by simp) (AllReadyH.cons rfl (fun K hK => ?_) AllReadyH.nil)
              have HKK := Lib.hid hK
              clear hK
              go_simp
              refine (HCK.out _).mono ?_
              rintro r wz ⟨rfl, hbz⟩
              have HBZ := Lib.hid (below_drew (Below.refl w2.heap.size w2) |>.trans hbz)
              clear hbz
              refine HKK.out _ _ (HS.out _ HBZ.out) (fun hh2 => ?_)
              clear HKK K hh
              have hh := hh2
              clear hh2
              try simp only [Act.put, List.setIfInBounds_toArray, List.set_cons_zero, List.set_cons_succ]
              refine wpAnyH_takeW (i := 2) (d := some 70) (v := ?_) (by kernel_rfl) (by kernel_rfl) (by kernel_rfl) (by kernel_rfl) (fun _ _ _ h => h) ?_ hh ?_
              rotate_left
              · (intro o ho w hSw; obtain rfl := Option.some.inj ho; clear ho; (try dsimp only at hSw ⊢); go_simp; (try with_reducible rfl))
              simp only [Act.put, List.setIfInBounds_toArray, List.set_cons_zero, List.set_cons_succ]
              refine wpAnyH_takeW (i := 3) (d := some 71) (v := ?_) (by kernel_rfl) (by kernel_rfl) (by kernel_rfl) (by kernel_rfl) (fun _ _ _ h => h) ?_ hh ?_
              rotate_left
              · (intro o ho w hSw; obtain rfl := Option.some.inj ho; clear ho; (try dsimp only at hSw ⊢); go_simp; (try with_reducible rfl))
              simp only [Act.put, List.setIfInBounds_toArray, List.set_cons_zero, List.set_cons_succ]
              refine wpAnyH_takeW (i := 4) (d := some 72) (v := ?_) (by kernel_rfl) (by kernel_rfl) (by kernel_rfl) (by kernel_rfl) (fun _ _ _ h => h) ?_ hh ?_
              rotate_left
              · (intro o ho w hSw; obtain rfl := Option.some.inj ho; clear ho; (try dsimp only at hSw ⊢); go_simp; (try with_reducible rfl))
              simp only [Act.put, List.setIfInBounds_toArray, List.set_cons_zero, List.set_cons_succ]
              refine wpAnyH_takeW (i := 5) (d := some 73) (v := ?_) (by kernel_rfl) (by kernel_rfl) (by kernel_rfl) (by kernel_rfl) (fun _ _ _ h => h) ?_ hh ?_
              rotate_left
              · (intro o ho w hSw; obtain rfl := Option.some.inj ho; clear ho; (try dsimp only at hSw ⊢); go_simp; (try with_reducible rfl))
              simp only [Act.put, List.setIfInBounds_toArray, List.set_cons_zero, List.set_cons_succ]
              refine wpAnyH_takeW (i := 6) (d := some 74) (v := ?_) (by kernel_rfl) (by kernel_rfl) (by kernel_rfl) (by kernel_rfl) (fun _ _ _ h => h) ?_ hh ?_
              rotate_left
              · (intro o ho w hSw; obtain rfl := Option.some.inj ho; clear ho; (try dsimp only at hSw ⊢); go_simp; (try with_reducible rfl))
              simp only [Act.put, List.setIfInBounds_toArray, List.set_cons_zero, List.set_cons_succ]
              refine wpAnyH_takeW (i := 7) (d := some 75) (v := ?_) (by kernel_rfl) (by kernel_rfl) (by kernel_rfl) (by kernel_rfl) (fun _ _ _ h => h) ?_ hh ?_
              rotate_left
              · (intro o ho w hSw; obtain rfl := Option.some.inj ho; clear ho; (try dsimp only at hSw ⊢); go_simp; (try with_reducible rfl))
              simp only [Act.put, List.setIfInBounds_toArray, List.set_cons_zero, List.set_cons_succ]
              refine wpAnyH_takeW (i := 8) (d := some 76) (v := ?_) (by kernel_rfl) (by kernel_rfl) (by kernel_rfl) (by kernel_rfl) (fun _ _ _ h => h) ?_ hh ?_
              rotate_left
              · (intro o ho w hSw; obtain rfl := Option.some.inj ho; clear ho; (try dsimp only at hSw ⊢); go_simp; (try with_reducible rfl))
              simp only [Act.put, List.setIfInBounds_toArray, List.set_cons_zero, List.set_cons_succ]
              refine wpAnyH_takeW (i := 9) (d := some 77) (v := ?_) (by kernel_rfl) (by kernel_rfl) (by kernel_rfl) (by kernel_rfl) (fun _ _ _ h => h) ?_ hh ?_
              rotate_left
              · (intro o ho w hSw; obtain rfl := Option.some.inj ho; clear ho; (try dsimp only at hSw ⊢); go_simp; (try with_reducible rfl))
              simp only [Act.put, List.setIfInBounds_toArray, List.set_cons_zero, List.set_cons_succ]
              refine wpAnyH_takeW (i := 10) (d := some 78) (v := ?_) (by kernel_rfl) (by kernel_rfl) (by kernel_rfl) (by kernel_rfl) (fun _ _ _ h => h) ?_ hh ?_
              rotate_left
              · (intro o ho w hSw; obtain rfl := Option.some.inj ho; clear ho; (try dsimp only at hSw ⊢); go_simp; (try with_reducible rfl))
              simp only [Act.put, List.setIfInBounds_toArray, List.set_cons_zero, List.set_cons_succ]
              refine wpAnyH_takeW (i := 11) (d := some 79) (v := ?_) (by kernel_rfl) (by kernel_rfl) (by kernel_rfl) (by kernel_rfl) (fun _ _ _ h => h) ?_ hh ?_
              rotate_left
              · (intro o ho w hSw; obtain rfl := Option.some.inj ho; clear ho; (try dsimp only at hSw ⊢); go_simp; (try with_reducible rfl))
              simp only [Act.put, List.setIfInBounds_toArray, List.set_cons_zero, List.set_cons_succ]
              refine wpAnyH_takeW (i := 12) (d := some 80) (v := ?_) (by kernel_rfl) (by kernel_rfl) (by kernel_rfl) (by kernel_rfl) (fun _ _ _ h => h) ?_ hh ?_
              rotate_left
              · (intro o ho w hSw; obtain rfl := Option.some.inj ho; clear ho; (try dsimp only at hSw ⊢); go_simp; (try with_reducible rfl))
              simp only [Act.put, List.setIfInBounds_toArray, List.set_cons_zero, List.set_cons_succ]
              refine wpAnyH_takeW (i := 13) (d := some 81) (v := ?_) (by kernel_rfl) (by kernel_rfl) (by kernel_rfl) (by kernel_rfl) (fun _ _ _ h => h) ?_ hh ?_
              rotate_left
              · (intro o ho w hSw; obtain rfl := Option.some.inj ho; clear ho; (try dsimp only at hSw ⊢); go_simp; (try with_reducible rfl))
              simp only [Act.put, List.setIfInBounds_toArray, List.set_cons_zero, List.set_cons_succ]
              refine wpAnyH_takeW (i := 14) (d := some 82) (v := ?_) (by kernel_rfl) (by kernel_rfl) (by kernel_rfl) (by kernel_rfl) (fun _ _ _ h => h) ?_ hh ?_
              rotate_left
              · (intro o ho w hSw; obtain rfl := Option.some.inj ho; clear ho; (try dsimp only at hSw ⊢); go_simp; (try with_reducible rfl))
              simp only [Act.put, List.setIfInBounds_toArray, List.set_cons_zero, List.set_cons_succ]
              refine wpAnyH_takeW (i := 15) (d := some 83) (v := ?_) (by kernel_rfl) (by kernel_rfl) (by kernel_rfl) (by kernel_rfl) (fun _ _ _ h => h) ?_ hh ?_
              rotate_left
              · (intro o ho w hSw; obtain rfl := Option.some.inj ho; clear ho; (try dsimp only at hSw ⊢); go_simp; (try with_reducible rfl))
              simp only [Act.put, List.setIfInBounds_toArray, List.set_cons_zero, List.set_cons_succ]
              refine wpAnyH_takeW (i := 16) (d := some 84) (v := ?_) (by kernel_rfl) (by kernel_rfl) (by kernel_rfl) (by kernel_rfl) (fun _ _ _ h => h) ?_ hh ?_
              rotate_left
              · (intro o ho w hSw; obtain rfl := Option.some.inj ho; clear ho; (try dsimp only at hSw ⊢); go_simp; (try with_reducible rfl))
              simp only [Act.put, List.setIfInBounds_toArray, List.set_cons_zero, List.set_cons_succ]
              refine wpAnyH_takeW (i := 17) (d := some 85) (v := ?_) (by kernel_rfl) (by kernel_rfl) (by kernel_rfl) (by kernel_rfl) (fun _ _ _ h => h) ?_ hh ?_
              rotate_left
              · (intro o ho w hSw; obtain rfl := Option.some.inj ho; clear ho; (try dsimp only at hSw ⊢); go_simp; (try with_reducible rfl))
              simp only [Act.put, List.setIfInBounds_toArray, List.set_cons_zero, List.set_cons_succ]
              refine wpAnyH_done (by kernel_rfl) ?_ _
              clear hh HS
              go_wp2
              go_meet
              exact ⟨HBZ.out, .inr ⟨rfl, hc, HX.out⟩⟩
        · have hcd : (chkEv e != 0) = true := by simp [hc]
          have cp := c0
          have HX := Lib.hid (HR.out.bad1 hc)
          clear hc
          skip
          have HS := Lib.hid (fun (wz : World) (h : Below w2.heap.size w2 wz) => show (fun wz => wz.cell? ⟨B, 0, none⟩ = some (.int .i64 e.seq) ∧ wz.cell? ⟨B, 1, none⟩ = some (.int .i64 e.time) ∧ wz.cell? ⟨B, 2, none⟩ = some (.int .u8 e.cpu) ∧ wz.cell? ⟨B, 3, none⟩ = some (.int .u8 e.kind) ∧ wz.cell? ⟨B, 4, none⟩ = some (.int .i64 e.task) ∧ wz.cell? ⟨B, 5, none⟩ = some (.int .i64 e.grp) ∧ wz.cell? ⟨B, 6, none⟩ = some (.int .i64 e.to) ∧ wz.cell? ⟨B, 7, none⟩ = some (.int .i64 e.wt) ∧ wz.cell? ⟨B, 8, none⟩ = some (.int .i64 e.ticks) ∧ wz.cell? ⟨B, 9, none⟩ = some (.int .u64 e.mask) ∧ wz.cell? ⟨B, 10, none⟩ = some (.int .i64 e.got) ∧ wz.cell? ⟨B, 0, none⟩ = some (.int .i64 e.seq) ∧ Below w2.heap.size w2 wz) wz from ⟨below_cell h c0, below_cell h c1, below_cell h c2, below_cell h c3, below_cell h c4, below_cell h c5, below_cell h c6, below_cell h c7, below_cell h c8, below_cell h c9, below_cell h c10, below_cell h cp, h⟩)
          refine wp_region_held_drew (S := (fun wz => wz.cell? ⟨B, 0, none⟩ = some (.int .i64 e.seq) ∧ wz.cell? ⟨B, 1, none⟩ = some (.int .i64 e.time) ∧ wz.cell? ⟨B, 2, none⟩ = some (.int .u8 e.cpu) ∧ wz.cell? ⟨B, 3, none⟩ = some (.int .u8 e.kind) ∧ wz.cell? ⟨B, 4, none⟩ = some (.int .i64 e.task) ∧ wz.cell? ⟨B, 5, none⟩ = some (.int .i64 e.grp) ∧ wz.cell? ⟨B, 6, none⟩ = some (.int .i64 e.to) ∧ wz.cell? ⟨B, 7, none⟩ = some (.int .i64 e.wt) ∧ wz.cell? ⟨B, 8, none⟩ = some (.int .i64 e.ticks) ∧ wz.cell? ⟨B, 9, none⟩ = some (.int .u64 e.mask) ∧ wz.cell? ⟨B, 10, none⟩ = some (.int .i64 e.got) ∧ wz.cell? ⟨B, 0, none⟩ = some (.int .i64 e.seq) ∧ Below w2.heap.size w2 wz)) (by kernel_rfl) (HS.out _ (below_drew (Below.refl _ _))) (fun hh => ?_)
          refine wpAnyH_takeW (i := 0) (d := some 68) (v := ?_) (by kernel_rfl) (by kernel_rfl) (by kernel_rfl) (by kernel_rfl) (fun _ _ _ h => h) ?_ hh ?_
          rotate_left
          · (intro o ho w hSw; obtain rfl := Option.some.inj ho; clear ho; (try dsimp only at hSw ⊢); go_simp; (try with_reducible rfl))
          simp only [Act.put, List.setIfInBounds_toArray, List.set_cons_zero, List.set_cons_succ]
          refine wpAnyH_ready (rs := [1]) (by kernel_rfl) (by simp) (AllReadyH.cons rfl (fun K hK => ?_) AllReadyH.nil)
          have HKK := Lib.hid hK
          clear hK
          go_simp
          refine (HCK.out _).mono ?_
          rintro r wz ⟨rfl, hbz⟩
          have HBZ := Lib.hid (below_drew (Below.refl w2.heap.size w2) |>.trans hbz)
          clear hbz
          refine HKK.out _ _ (HS.out _ HBZ.out) (fun hh2 => ?_)
          clear HKK K hh
          have hh := hh2
          clear hh2
          try simp only [Act.put, List.setIfInBounds_toArray, List.set_cons_zero, List.set_cons_succ]
          refine wpAnyH_takeW (i := 2) (d := some 70) (v := ?_) (by kernel_rfl) (by kernel_rfl) (by kernel_rfl) (by kernel_rfl) (fun _ _ _ h => h) ?_ hh ?_
          rotate_left
          · (intro o ho w hSw; obtain rfl := Option.some.inj ho; clear ho; (try dsimp only at hSw ⊢); go_simp; (try with_reducible rfl))
          simp only [Act.put, List.setIfInBounds_toArray, List.set_cons_zero, List.set_cons_succ]
          refine wpAnyH_takeW (i := 3) (d := some 71) (v := ?_) (by kernel_rfl) (by kernel_rfl) (by kernel_rfl) (by kernel_rfl) (fun _ _ _ h => h) ?_ hh ?_
          rotate_left
          · (intro o ho w hSw; obtain rfl := Option.some.inj ho; clear ho; (try dsimp only at hSw ⊢); go_simp; (try with_reducible rfl))
          simp only [Act.put, List.setIfInBounds_toArray, List.set_cons_zero, List.set_cons_succ]
          refine wpAnyH_takeU (i := 4) (d := some 72) (by kernel_rfl) (by kernel_rfl) (by kernel_rfl) (by kernel_rfl) (fun _ _ _ h => h) hh ?_
          simp only [Act.put, List.setIfInBounds_toArray, List.set_cons_zero, List.set_cons_succ]
          refine wpAnyH_takeU (i := 5) (d := some 73) (by kernel_rfl) (by kernel_rfl) (by kernel_rfl) (by kernel_rfl) (fun _ _ _ h => h) hh ?_
          simp only [Act.put, List.setIfInBounds_toArray, List.set_cons_zero, List.set_cons_succ]
          refine wpAnyH_takeU (i := 6) (d := some 74) (by kernel_rfl) (by kernel_rfl) (by kernel_rfl) (by kernel_rfl) (fun _ _ _ h => h) hh ?_
          simp only [Act.put, List.setIfInBounds_toArray, List.set_cons_zero, List.set_cons_succ]
          refine wpAnyH_takeU (i := 7) (d := some 75) (by kernel_rfl) (by kernel_rfl) (by kernel_rfl) (by kernel_rfl) (fun _ _ _ h => h) hh ?_
          simp only [Act.put, List.setIfInBounds_toArray, List.set_cons_zero, List.set_cons_succ]
          refine wpAnyH_takeU (i := 8) (d := some 76) (by kernel_rfl) (by kernel_rfl) (by kernel_rfl) (by kernel_rfl) (fun _ _ _ h => h) hh ?_
          simp only [Act.put, List.setIfInBounds_toArray, List.set_cons_zero, List.set_cons_succ]
          refine wpAnyH_takeU (i := 9) (d := some 77) (by kernel_rfl) (by kernel_rfl) (by kernel_rfl) (by kernel_rfl) (fun _ _ _ h => h) hh ?_
          simp only [Act.put, List.setIfInBounds_toArray, List.set_cons_zero, List.set_cons_succ]
          refine wpAnyH_takeU (i := 10) (d := some 78) (by kernel_rfl) (by kernel_rfl) (by kernel_rfl) (by kernel_rfl) (fun _ _ _ h => h) hh ?_
          simp only [Act.put, List.setIfInBounds_toArray, List.set_cons_zero, List.set_cons_succ]
          refine wpAnyH_takeU (i := 11) (d := some 79) (by kernel_rfl) (by kernel_rfl) (by kernel_rfl) (by kernel_rfl) (fun _ _ _ h => h) hh ?_
          simp only [Act.put, List.setIfInBounds_toArray, List.set_cons_zero, List.set_cons_succ]
          refine wpAnyH_takeU (i := 12) (d := some 80) (by kernel_rfl) (by kernel_rfl) (by kernel_rfl) (by kernel_rfl) (fun _ _ _ h => h) hh ?_
          simp only [Act.put, List.setIfInBounds_toArray, List.set_cons_zero, List.set_cons_succ]
          refine wpAnyH_takeU (i := 13) (d := some 81) (by kernel_rfl) (by kernel_rfl) (by kernel_rfl) (by kernel_rfl) (fun _ _ _ h => h) hh ?_
          simp only [Act.put, List.setIfInBounds_toArray, List.set_cons_zero, List.set_cons_succ]
          refine wpAnyH_takeU (i := 14) (d := some 82) (by kernel_rfl) (by kernel_rfl) (by kernel_rfl) (by kernel_rfl) (fun _ _ _ h => h) hh ?_
          simp only [Act.put, List.setIfInBounds_toArray, List.set_cons_zero, List.set_cons_succ]
          refine wpAnyH_takeU (i := 15) (d := some 83) (by kernel_rfl) (by kernel_rfl) (by kernel_rfl) (by kernel_rfl) (fun _ _ _ h => h) hh ?_
          simp only [Act.put, List.setIfInBounds_toArray, List.set_cons_zero, List.set_cons_succ]
          refine wpAnyH_takeU (i := 16) (d := some 84) (by kernel_rfl) (by kernel_rfl) (by kernel_rfl) (by kernel_rfl) (fun _ _ _ h => h) hh ?_
          simp only [Act.put, List.setIfInBounds_toArray, List.set_cons_zero, List.set_cons_succ]
          refine wpAnyH_takeW (i := 17) (d := some 85) (v := ?_) (by kernel_rfl) (by kernel_rfl) (by kernel_rfl) (by kernel_rfl) (fun _ _ _ h => h) ?_ hh ?_
          rotate_left
          · (intro o ho w hSw; obtain rfl := Option.some.inj ho; clear ho; (try dsimp only at hSw ⊢); go_simp; (try with_reducible rfl))
          simp only [Act.put, List.setIfInBounds_toArray, List.set_cons_zero, List.set_cons_succ]
          refine wpAnyH_done (by kernel_rfl) ?_ _
          clear hh HS
          go_wp2
          go_meet
          exact ⟨HBZ.out, .inl ⟨rfl, HX.out⟩⟩
      case rest =>
        obtain ⟨hb3, hbad⟩ := hcut
        obtain ⟨w3, hw3⟩ : ∃ w3, w3 = wc := ⟨_, rfl⟩
        subst hw3
        have HB3 := Lib.hid (HB2.out.trans (hb3.mono HB2.out.size))
        have HTH3 := Lib.hid (HTH2.out.below hb3)
        have HOU3 := Lib.hid (HOU2.out.below hb3)
        have HEP3 := Lib.hid (HEP.out.below hb3 HEP.out.lt)
        clear hb3 HTH2 HOU2 HB2 HEP HCK
        rcases hbad with ⟨rfl, hdead⟩ | ⟨rfl, hc, hseq⟩
        · have HD := Lib.hid (HR.out.dead HE.out hdead)
          clear hdead
          go_wp2
          exact FIN0.out HD.out _ HB3.out
        · have HC := Lib.hid hc
          have HSQ := Lib.hid hseq
          clear hc hseq
          have c0 := HEP3.out.c0
          have c1 := HEP3.out.c1
          have c2 := HEP3.out.c2
          have c3 := HEP3.out.c3
          have c8 := HEP3.out.c8
          have hti := (chk_facts HC.out).2.1
          have htk := ticks_nn HC.out
          have htk2 : e.ticks ≤ 4294967295 := by
            by_cases hk : e.kind = 5
            · exact (chk_tick HC.out hk).1.2
            · rw [chk_noticks HC.out hk]; omega
          have hws : IntKind.i64.wrap (e.time - e.ticks) = e.time - e.ticks := IntWalk.i64_in _ (by omega)
          go_upto_if 90 with fail
          go_cut [14] (fun v wx => v = .int .i64 (e.time - e.ticks) ∧ wx = w3)
          case first =>
            by_cases hk : e.kind = 5
            · rw [hk] at c3
              go_wp2
              go_meet
              exact ⟨rfl, rfl⟩
            · have hk2 : (e.kind == 5) = false := by simp [hk]
              have ht0 := chk_noticks HC.out hk
              go_wp2
              go_meet
              exact ⟨by rw [ht0]; simp, rfl⟩
          case rest =>
            obtain ⟨rfl, rfl⟩ := hcut
            clear c0 c1 c2 c3 c8 hti htk htk2 hws
            obtain ⟨bg, hbg⟩ : ∃ bg, e.time - e.ticks = bg := ⟨_, rfl⟩
            have HBG := Lib.hid hbg
            rw [hbg]
            clear hbg
            by_cases hneg : bg < 0
            · have HD := Lib.hid (HR.out.dead HE.out (HR.out.bad3 (by rw [HBG.out]; exact hneg)))
              go_wp2
              exact FIN0.out HD.out _ HB3.out
            · have hnn : 0 ≤ bg := by omega
              have HNN := Lib.hid hnn
              clear hneg
              go_upto_block 4 with fail
              obtain ⟨w4, hw4⟩ : ∃ w4, w4 = wc := ⟨_, rfl⟩
              subst hw4
              clear hnn
              go_cut [] (fun wx => Below w4.heap.size w4 wx ∧ s.clk e.cpu ≤ bg)
              case first =>
                go_wp2
                go_loopg [15] j (fun k i wq => ∃ q : Nat, q + k = j ∧ i = .int .i64 q ∧ (∀ m, m < q → ∀ p, l[m]? = some p → p.cpu = e.cpu → p.time ≤ bg) ∧ Below w4.heap.size w4 wq)
                case atStart => exact ⟨0, by omega, rfl, fun m hm => by omega, Below.refl _ _⟩
                case round =>
                  obtain ⟨q, hq, rfl, ha, hbq⟩ := hrel
                  have HQ := Lib.hid hq
                  have HA := Lib.hid ha
                  have HBQ := Lib.hid hbq
                  clear hq ha hbq
                  by_cases hql : q < j
                  · obtain ⟨p, hp⟩ : ∃ p, l[q]? = some p := ⟨_, List.getElem?_eq_getElem (by rw [HL.out.2.1]; omega)⟩
                    obtain ⟨_, p1, p2, _⟩ := (HRW.out wr (HB3.out.trans (HBQ.out.mono HB3.out.size))).ev hp
                    have c2 := below_cell HBQ.out HEP3.out.c2
                    have HP := Lib.hid hp
                    have q1 : (0 : Int) ≤ (q : Int) := by omega
                    have q2 : (q : Int) < (n : Int) := by omega
                    have q3 : (q : Int).toNat = q := by omega
                    clear hp
                    by_cases hcp : p.cpu = e.cpu
                    · have d1 : (p.cpu == e.cpu) = true := by simp [hcp]
                      by_cases htm : bg < p.time
                      · have d2 : decide (bg < p.time) = true := by simp [htm]
                        have HD := Lib.hid (HR.out.dead HE.out (HR.out.bad4 hql HP.out hcp (by rw [HBG.out]; exact htm)))
                        clear hcp htm
                        go_wp2_with fail
                        go_quiet (fail)
                        go_wp2
                        exact FIN0.out HD.out _ (below_drewN (HB3.out.trans (HBQ.out.mono HB3.out.size)) _)
                      · have d2 : decide (bg < p.time) = false := by simp; omega
                        have HTM := Lib.hid htm
                        clear hcp htm
                        go_wp2_with fail
                        go_quiet (fail)
                        go_wp2
                        go_roundg (gk - 1)
                        case measure => have := HQ.out; omega
                        case rel =>
                          refine ⟨q + 1, by have := HQ.out; omega, by go_num, fun m hm y hy hyc => ?_, below_drewN HBQ.out _⟩
                          rcases Nat.lt_or_ge m q with h | h
                          · exact HA.out m h y hy hyc
                          · obtain rfl : m = q := by omega
                            rw [HP.out] at hy
                            cases hy
                            have := HTM.out
                            omega
                    · have d1 : (p.cpu == e.cpu) = false := by simp [hcp]
                      have HCP := Lib.hid hcp
                      clear hcp
                      go_wp2_with fail
                      go_quiet (fail)
                      go_wp2
                      go_roundg (gk - 1)
                      case measure => have := HQ.out; omega
                      case rel =>
                        refine ⟨q + 1, by have := HQ.out; omega, by go_num, fun m hm y hy hyc => ?_, below_drewN HBQ.out _⟩
                        rcases Nat.lt_or_ge m q with h | h
                        · exact HA.out m h y hy hyc
                        · obtain rfl : m = q := by omega
                          rw [HP.out] at hy
                          cases hy
                          exact absurd hyc HCP.out
                  · obtain rfl : j = q := by have := HQ.out; omega
                    go_wp2
                    go_meet
                    exact ⟨HBQ.out, by have := HR.out.clkOk (e := e) (by rw [HBG.out]; exact HNN.out) (by rw [HBG.out]; exact HA.out); rw [HBG.out] at this; exact this⟩
              case rest =>
                obtain ⟨hb5, hck⟩ := hcut
                obtain ⟨w5, hw5⟩ : ∃ w5, w5 = wc := ⟨_, rfl⟩
                subst hw5
                have HB5 := Lib.hid (HB3.out.trans (hb5.mono HB3.out.size))
                have HTH5 := Lib.hid (HTH3.out.below hb5)
                have HOU5 := Lib.hid (HOU3.out.below hb5)
                have HEP5 := Lib.hid (HEP3.out.below hb5 HEP3.out.lt)
                have HCK5 := Lib.hid hck
                have HTL := Lib.hid (show th.length ≤ 1000000 from by have h1 := HR.out.len; have h2 := HT.out.2.2.1; have h3 := HJ.out; omega)
                clear hb5 hck HTH3 HOU3 HEP3 HB3
                go_upto_region 26 with fail
                go_cut [16] (fun v wx => v = .int .i64 (homeZ th e.got) ∧ wx = w5)
                case first =>
                  have c10 := HEP5.out.c10
                  go_wp2_with fail
                  refine (rhome_ok w5 _ th e.got (HTH5.out.ev encG_len) HTL.out).mono ?_
                  rintro r w6 ⟨rfl, rfl⟩
                  go_wp2
                  go_meet
                  exact ⟨rfl, rfl⟩
                case rest =>
                  obtain ⟨rfl, rfl⟩ := hcut
                  have c3 := HEP5.out.c3
                  have c4 := HEP5.out.c4
                  have c5 := HEP5.out.c5
                  have c10 := HEP5.out.c10
                  have hzb := homeZ_bd (th := th) (x := e.got) HTL.out
                  have HNXT := Lib.hid (fun (th' : List (Int × Int)) (hd : doesL G (ofT th) e = some (ofT th')) hnd hlen => HR.out.next (th' := th') HE.out HEO.out HC.out HSQ.out (by rw [HBG.out]; exact HCK5.out) (by rw [HR.out.T]; exact hd) hnd hlen)
                  rw [HR.out.T] at HNXT
                  have HDX := Lib.hid (fun (hd : doesL G (ofT th) e = none) => HR.out.dead HE.out (RLk.bad5 (by rw [HR.out.T]; exact hd)))
                  have HO7 := Lib.hid HOU5.out
                  by_cases h3 : e.kind = 3
                  · rw [h3] at c3
                    have HNR := Lib.hid (show ranOf (ofT th) e = [] from by unfold ranOf; rw [if_neg (by omega)])
                    by_cases hz : homeZ th e.got < 0
                    · have HD := Lib.hid (HDX.out (does_block_no h3 (homeZ_none hz)))
                      go_wp2
                      exact FIN0.out HD.out _ HB5.out
                    · have HNX := Lib.hid (HNXT.out th (does_block h3 (homeZ_some.2 (by omega))) HR.out.nd (by omega))
                      have HT7 := Lib.hid HTH5.out
                      have HB7 := Lib.hid HB5.out
                      skip
                      go_wp2
                      go_roundg (gk - 1)
                      case measure => have := HJ.out; omega
                      case rel => exact ⟨j + 1, _, _, by have := HJ.out; omega, by go_num, HNX.out, HT7.out, by rw [HNR.out, List.append_nil]; exact HO7.out, HB7.out⟩
                  by_cases h4 : e.kind = 4
                  · rw [h4] at c3
                    have HNR := Lib.hid (show ranOf (ofT th) e = [] from by unfold ranOf; rw [if_neg (by omega)])
                    by_cases hz : homeZ th e.got < 0
                    · have HD := Lib.hid (HDX.out (does_exit_no h4 (homeZ_none hz)))
                      go_wp2
                      exact FIN0.out HD.out _ HB5.out
                    · obtain ⟨k, g, z1, z2, z3, z4⟩ := homeZ_get (th := th) (x := e.got) (by omega)
                      have HNX := Lib.hid (HNXT.out _ (does_exit h4 HR.out.nd z3 z4) (ofT_erase HR.out.nd z3).2 (by simp; omega))
                      have HWO := Lib.hid (without_ok _ _ th k (HTH5.out.ev encG_len) z2 HTL.out)
                      rw [z1] at hz hzb ⊢
                      clear z1 z3 z4
                      go_wp2_with fail
                      refine HWO.out.mono ?_
                      rintro r w6 ⟨v6, rfl, o6, b6⟩
                      have HT7 := Lib.hid (o6.base_le HB5.out.size)
                      have HB7 := Lib.hid (HB5.out.trans (b6.mono HB5.out.size))
                      replace HO7 := Lib.hid (HOU5.out.below b6)
                      clear o6 b6 HWO
                      skip
                      go_wp2
                      go_roundg (gk - 1)
                      case measure => have := HJ.out; omega
                      case rel => exact ⟨j + 1, _, _, by have := HJ.out; omega, by go_num, HNX.out, HT7.out, by rw [HNR.out, List.append_nil]; exact HO7.out, HB7.out⟩
                  by_cases h5 : e.kind = 5
                  · rw [h5] at c3
                    have hgt := (chk_tick HC.out h5).2
                    have HGT := Lib.hid hgt
                    by_cases hg0 : e.got = 0
                    · have HNR := Lib.hid (show ranOf (ofT th) e = [] from by unfold ranOf; rw [if_neg (by omega)])
                      have HNX := Lib.hid (HNXT.out th (does_tickT h5 (.inl hg0)) HR.out.nd (by omega))
                      have HT7 := Lib.hid HTH5.out
                      have HB7 := Lib.hid HB5.out
                      rw [hg0] at c10
                      clear hgt
                      skip
                      go_wp2
                      go_roundg (gk - 1)
                      case measure => have := HJ.out; omega
                      case rel => exact ⟨j + 1, _, _, by have := HJ.out; omega, by go_num, HNX.out, HT7.out, by rw [HNR.out, List.append_nil]; exact HO7.out, HB7.out⟩
                    · have hgp : 0 < e.got := by omega
                      by_cases hz : homeZ th e.got < 0
                      · have HD := Lib.hid (HDX.out (does_tickT_no h5 hg0 (homeZ_none hz)))
                        go_wp2
                        exact FIN0.out HD.out _ HB5.out
                      · obtain ⟨k, g, z1, z2, z3, z4⟩ := homeZ_get (th := th) (x := e.got) (by omega)
                        have HNX := Lib.hid (HNXT.out th (does_tickT h5 (.inr (by rw [z4]; rfl))) HR.out.nd (by omega))
                        have HNR := Lib.hid (show ranOf (ofT th) e = [⟨e.cpu, e.time, e.ticks, g⟩] from by unfold ranOf; rw [if_pos ⟨h5, hgp⟩, z4]; rfl)
                        obtain ⟨bt, ot, ct, hvt, hct, hrt⟩ := (HTH5.out.ev encG_len).row (by omega)
                        obtain ⟨_, tg⟩ := hrt.grp z3
                        obtain ⟨TL, hTL⟩ : ∃ TL, th.length = TL := ⟨_, rfl⟩
                        rw [hTL] at hvt hct z2
                        rw [z1] at hz hzb ⊢
                        rw [hvt] at HTH5 ⊢
                        dsimp only at tg
                        clear z1 z3 z4 hrt hTL hvt
                        go_wp2_with fail
                        have HOL := Lib.hid (show s.out.length ≤ 100000 from by have := HR.out.outlen; omega)
                        have XW := Lib.hid (show IntKind.i64.wrap e.cpu = e.cpu from IntWalk.i64_in _ (by have := HEO.out.cpu; omega))
                        have K1 := Lib.hid (show (0 : Int) ≤ (k : Int) ∧ (k : Int) < (TL : Int) ∧ (k : Int).toNat = k from by omega)
                        refine wp_region_dag (by kernel_rfl) 17 rfl (fun i => i == 14 || i == 15 || i == 16) (fun x => ⟨#[.slice Ag G cg, u1, .slice (some ⟨b, off, none⟩) n ce, u3, u4, u5, u6, u7, .slice (some ⟨bt, ot, none⟩) TL ct, u9, u10, x 16, .int .i64 (j : Nat), .pointer (some ⟨B, 0, none⟩), .int .i64 bg, u15, .int .i64 (k : Nat), u17, u18, u19, u20, u21, u22, u23, u24, u25, u26, u27, u28, u29, u30, u31, u32, u33, u34, u35, u36, u37, u38, u39, u40, u41, u42, u43, u44, u45, u46, u47, u48, u49, u50, u51, u52, u53, u54, u55, u56, u57, u58, u59, u60, u61, u62, u63, u64, u65, u66, u67, u68, u69, u70, u71, u72, u73, u74, u75, u76, u77, u78, u79, u80, u81, u82, u83, u84, u85, u86, u87, u88, u89, u90, u91, u92, u93, u94, u95, u96, u97, u98, u99, u100, u101, u102, u103, u104, u105, u106, u107, u108, u109, u110, u111, u112, u113, u114, u115, u116, u117, u118, u119, u120, u121, u122, u123, .pointer (some ⟨B, 3, none⟩), .int .u8 5, .bool false, .bool false, u128, u129, u130, u131, u132, u133, u134, u135, u136, u137, u138, u139, u140, u141, u142, u143, u144, u145, u146, u147, u148, u149, .bool false, .bool false, u152, u153, .bool false, .bool false, u156, u157, u158, u159, u160, .bool true, .bool true, .pointer (some ⟨B, 10, none⟩), .int .i64 e.got, .bool true, .bool true, .int .i64 (k : Nat), .bool false, .bool false, .pointer (some ⟨B, 10, none⟩), .int .i64 e.got, .bool true, x 0, x 1, x 2, x 3, x 4, x 5, x 6, x 7, x 8, x 9, x 10, x 11, x 12, x 13, x 14, x 15, u189], []⟩) (fun iF vF => match iF with | 0 => vF = u11 | 1 => vF = .pointer (some ⟨B, 2, none⟩) | 2 => vF = .int .u8 e.cpu | 3 => vF = .int .i64 e.cpu | 4 => vF = .pointer (some ⟨B, 1, none⟩) | 5 => vF = .int .i64 e.time | 6 => vF = .pointer (some ⟨B, 8, none⟩) | 7 => vF = .int .i64 e.ticks | 8 => vF = .slice (some ⟨bt, ot, none⟩) TL ct | 9 => vF = .int .i64 (k : Nat) | 10 => vF = .pointer (some ⟨bt, ot + k * 2, none⟩) | 11 => vF = .pointer (some ⟨bt, ot + k * 2 + 1, none⟩) | 12 => vF = .int .i64 g | 13 => vF = .agg #[.int .i64 e.cpu, .int .i64 e.time, .int .i64 e.ticks, .int .i64 g] | _ => True)
                          (fun d x W => (d 15 = false → Below wc.heap.size wc W) ∧ (d 14 = true → d 15 = false → EV encRn 4 W (x 14) [(⟨e.cpu, e.time, e.ticks, g⟩ : Rn)]) ∧ (d 15 = true → OV encRn 4 165 w.heap.size W (x 15) (s.out ++ [⟨e.cpu, e.time, e.ticks, g⟩]) ∧ Below w.heap.size w W ∧ OV encG 2 121 w.heap.size W (.slice (some ⟨bt, ot, none⟩) TL ct) th) ∧ (d 16 = true → x 16 = x 15) ∧ (d 16 = false → x 16 = u11)) ?hB (by kernel_rfl) (by kernel_rfl) ?hpure ?hmem ?hend (fun i => (#[u173, u174, u175, u176, u177, u178, u179, u180, u181, u182, u183, u184, u185, u186, u187, u188, u11] : Array Value).getD i undef) rfl ?hstart
                        case hstart =>
                          try dsimp only
                          exact ⟨fun _ => below_drew (Below.refl _ _), fun h => (by cases h), fun h => (by cases h), fun h => (by cases h), fun _ => rfl⟩
                        case hB =>
                          intro d d' x i v W hi hm h
                          have g14 : ¬ 14 = i := by rintro rfl; exact absurd (show true = false from hi) (by simp)
                          have e14 : d' 14 = d 14 := hm 14 rfl
                          have g15 : ¬ 15 = i := by rintro rfl; exact absurd (show true = false from hi) (by simp)
                          have e15 : d' 15 = d 15 := hm 15 rfl
                          have g16 : ¬ 16 = i := by rintro rfl; exact absurd (show true = false from hi) (by simp)
                          have e16 : d' 16 = d 16 := hm 16 rfl
                          try dsimp only at h ⊢
                          rw [upd_ne g14, upd_ne g15, upd_ne g16, e14, e15, e16]
                          exact h
                        case hpure =>
                          intro iF o hi hnm ho d x W hB hd hdn hnd hcl K hK
                          rcases (show iF = 0 ∨ iF = 1 ∨ iF = 2 ∨ iF = 3 ∨ iF = 4 ∨ iF = 5 ∨ iF = 6 ∨ iF = 7 ∨ iF = 8 ∨ iF = 9 ∨ iF = 10 ∨ iF = 11 ∨ iF = 12 ∨ iF = 13 ∨ iF = 14 ∨ iF = 15 ∨ iF = 16 by omega) with rfl | rfl | rfl | rfl | rfl | rfl | rfl | rfl | rfl | rfl | rfl | rfl | rfl | rfl | rfl | rfl | rfl
                          · obtain rfl := Option.some.inj ho
                            have hm16 : d 16 = false := notyet (i := 16) hcl (hnd 15 (by kernel_rfl)) (by kernel_rfl)
                            have e16 := hB.2.2.2.2 hm16
                            clear ho hd hdn hnd hcl hB hnm hi
                            simp only [upd, reduceIte, Nat.reduceEqDiff, e16] at hK
                            try dsimp only
                            try rw [e16]
                            go_simp
                            exact hK _ (by first | rfl | exact e16)
                          · obtain rfl := Option.some.inj ho
                            clear ho hd hdn hnd hcl hB hnm hi
                            simp only [upd, reduceIte, Nat.reduceEqDiff] at hK
                            try dsimp only
                            go_simp
                            exact hK _ rfl
                          · obtain rfl := Option.some.inj ho
                            have e1 : x 1 = .pointer (some ⟨B, 2, none⟩) := hd 1 (by kernel_rfl) (by kernel_rfl)
                            have hm15 : d 15 = false := notyet (i := 15) hcl (notyet (i := 14) hcl (notyet (i := 13) hcl (hnd 3 (by kernel_rfl)) (by kernel_rfl)) (by kernel_rfl)) (by kernel_rfl)
                            have hb := hB.1 hm15
                            have q1 := below_cell hb HEP5.out.c1
                            have q2 := below_cell hb HEP5.out.c2
                            have q8 := below_cell hb HEP5.out.c8
                            have qt := below_cell hb tg
                            clear ho hd hdn hnd hcl hB hnm hi
                            simp only [upd, reduceIte, Nat.reduceEqDiff, e1] at hK
                            try dsimp only
                            go_simp
                            exact hK _ rfl
                          · obtain rfl := Option.some.inj ho
                            have e2 : x 2 = .int .u8 e.cpu := hd 2 (by kernel_rfl) (by kernel_rfl)
                            have xw := XW.out
                            clear ho hd hdn hnd hcl hB hnm hi
                            simp only [upd, reduceIte, Nat.reduceEqDiff, e2] at hK
                            try dsimp only
                            go_simp
                            exact hK _ rfl
                          · obtain rfl := Option.some.inj ho
                            clear ho hd hdn hnd hcl hB hnm hi
                            simp only [upd, reduceIte, Nat.reduceEqDiff] at hK
                            try dsimp only
                            go_simp
                            exact hK _ rfl
                          · obtain rfl := Option.some.inj ho
                            have e4 : x 4 = .pointer (some ⟨B, 1, none⟩) := hd 4 (by kernel_rfl) (by kernel_rfl)
                            have hm15 : d 15 = false := notyet (i := 15) hcl (notyet (i := 14) hcl (hnd 13 (by kernel_rfl)) (by kernel_rfl)) (by kernel_rfl)
                            have hb := hB.1 hm15
                            have q1 := below_cell hb HEP5.out.c1
                            have q2 := below_cell hb HEP5.out.c2
                            have q8 := below_cell hb HEP5.out.c8
                            have qt := below_cell hb tg
                            clear ho hd hdn hnd hcl hB hnm hi
                            simp only [upd, reduceIte, Nat.reduceEqDiff, e4] at hK
                            try dsimp only
                            go_simp
                            exact hK _ rfl
                          · obtain rfl := Option.some.inj ho
                            clear ho hd hdn hnd hcl hB hnm hi
                            simp only [upd, reduceIte, Nat.reduceEqDiff] at hK
                            try dsimp only
                            go_simp
                            exact hK _ rfl
                          · obtain rfl := Option.some.inj ho
                            have e6 : x 6 = .pointer (some ⟨B, 8, none⟩) := hd 6 (by kernel_rfl) (by kernel_rfl)
                            have hm15 : d 15 = false := notyet (i := 15) hcl (notyet (i := 14) hcl (hnd 13 (by kernel_rfl)) (by kernel_rfl)) (by kernel_rfl)
                            have hb := hB.1 hm15
                            have q1 := below_cell hb HEP5.out.c1
                            have q2 := below_cell hb HEP5.out.c2
                            have q8 := below_cell hb HEP5.out.c8
                            have qt := below_cell hb tg
                            clear ho hd hdn hnd hcl hB hnm hi
                            simp only [upd, reduceIte, Nat.reduceEqDiff, e6] at hK
                            try dsimp only
                            go_simp
                            exact hK _ rfl
                          · obtain rfl := Option.some.inj ho
                            clear ho hd hdn hnd hcl hB hnm hi
                            simp only [upd, reduceIte, Nat.reduceEqDiff] at hK
                            try dsimp only
                            go_simp
                            exact hK _ rfl
                          · obtain rfl := Option.some.inj ho
                            clear ho hd hdn hnd hcl hB hnm hi
                            simp only [upd, reduceIte, Nat.reduceEqDiff] at hK
                            try dsimp only
                            go_simp
                            exact hK _ rfl
                          · obtain rfl := Option.some.inj ho
                            have e8 : x 8 = .slice (some ⟨bt, ot, none⟩) TL ct := hd 8 (by kernel_rfl) (by kernel_rfl)
                            have e9 : x 9 = .int .i64 (k : Nat) := hd 9 (by kernel_rfl) (by kernel_rfl)
                            have i1 := K1.out
                            clear ho hd hdn hnd hcl hB hnm hi
                            simp only [upd, reduceIte, Nat.reduceEqDiff, e8, e9] at hK
                            try dsimp only
                            go_simp
                            exact hK _ rfl
                          · obtain rfl := Option.some.inj ho
                            have e10 : x 10 = .pointer (some ⟨bt, ot + k * 2, none⟩) := hd 10 (by kernel_rfl) (by kernel_rfl)
                            clear ho hd hdn hnd hcl hB hnm hi
                            simp only [upd, reduceIte, Nat.reduceEqDiff, e10] at hK
                            try dsimp only
                            go_simp
                            exact hK _ rfl
                          · obtain rfl := Option.some.inj ho
                            have e11 : x 11 = .pointer (some ⟨bt, ot + k * 2 + 1, none⟩) := hd 11 (by kernel_rfl) (by kernel_rfl)
                            have hm15 : d 15 = false := notyet (i := 15) hcl (notyet (i := 14) hcl (hnd 13 (by kernel_rfl)) (by kernel_rfl)) (by kernel_rfl)
                            have hb := hB.1 hm15
                            have q1 := below_cell hb HEP5.out.c1
                            have q2 := below_cell hb HEP5.out.c2
                            have q8 := below_cell hb HEP5.out.c8
                            have qt := below_cell hb tg
                            clear ho hd hdn hnd hcl hB hnm hi
                            simp only [upd, reduceIte, Nat.reduceEqDiff, e11] at hK
                            try dsimp only
                            go_simp
                            exact hK _ rfl
                          · obtain rfl := Option.some.inj ho
                            have e3 : x 3 = .int .i64 e.cpu := hd 3 (by kernel_rfl) (by kernel_rfl)
                            have e5 : x 5 = .int .i64 e.time := hd 5 (by kernel_rfl) (by kernel_rfl)
                            have e7 : x 7 = .int .i64 e.ticks := hd 7 (by kernel_rfl) (by kernel_rfl)
                            have e12 : x 12 = .int .i64 g := hd 12 (by kernel_rfl) (by kernel_rfl)
                            clear ho hd hdn hnd hcl hB hnm hi
                            simp only [upd, reduceIte, Nat.reduceEqDiff, e3, e5, e7, e12] at hK
                            try dsimp only
                            go_simp
                            exact hK _ rfl
                          · exact absurd (show true = false from hnm) (by simp)
                          · exact absurd (show true = false from hnm) (by simp)
                          · exact absurd (show true = false from hnm) (by simp)
                        case hmem =>
                          intro iF o hi hmm ho d d' x W hB hd hdn hnd hdi hdi' hdm hcl K hK
                          rcases (show iF = 0 ∨ iF = 1 ∨ iF = 2 ∨ iF = 3 ∨ iF = 4 ∨ iF = 5 ∨ iF = 6 ∨ iF = 7 ∨ iF = 8 ∨ iF = 9 ∨ iF = 10 ∨ iF = 11 ∨ iF = 12 ∨ iF = 13 ∨ iF = 14 ∨ iF = 15 ∨ iF = 16 by omega) with rfl | rfl | rfl | rfl | rfl | rfl | rfl | rfl | rfl | rfl | rfl | rfl | rfl | rfl | rfl | rfl | rfl
                          · exact absurd (show false = true from hmm) (by simp)
                          · exact absurd (show false = true from hmm) (by simp)
                          · exact absurd (show false = true from hmm) (by simp)
                          · exact absurd (show false = true from hmm) (by simp)
                          · exact absurd (show false = true from hmm) (by simp)
                          · exact absurd (show false = true from hmm) (by simp)
                          · exact absurd (show false = true from hmm) (by simp)
                          · exact absurd (show false = true from hmm) (by simp)
                          · exact absurd (show false = true from hmm) (by simp)
                          · exact absurd (show false = true from hmm) (by simp)
                          · exact absurd (show false = true from hmm) (by simp)
                          · exact absurd (show false = true from hmm) (by simp)
                          · exact absurd (show false = true from hmm) (by simp)
                          · exact absurd (show false = true from hmm) (by simp)
                          · obtain rfl := Option.some.inj ho
                            have e13 : x 13 = .agg #[.int .i64 e.cpu, .int .i64 e.time, .int .i64 e.ticks, .int .i64 g] := hd 13 (by kernel_rfl) (by kernel_rfl)
                            have dm15 : d' 15 = d 15 := hdm 15 (by omega)
                            have dm16 : d' 16 = d 16 := hdm 16 (by omega)
                            have dz15 : d 15 = false := hnd 15 (by kernel_rfl)
                            have dz16 : d 16 = false := notyet (i := 16) hcl dz15 (by kernel_rfl)
                            obtain ⟨hb, _, _, _, h16n⟩ := hB
                            have H16N := Lib.hid h16n
                            clear h16n
                            have hb := hb dz15
                            clear ho hd hdn hnd hcl hmm
                            simp only [upd, reduceIte, Nat.reduceEqDiff, e13] at hK
                            try dsimp only
                            go_simp
                            refine hK _ _ ?_
                            try dsimp only
                            rw [dm15, dm16, hdi']
                            exact ⟨fun _ => hb.trans (((Below.refl _ W).alloc (Nat.le_refl _) _).mono hb.size), fun _ _ => new_rn rfl, fun h => (by rw [dz15] at h; cases h), fun h => (by rw [dz16] at h; cases h), H16N.out⟩
                          · obtain rfl := Option.some.inj ho
                            have e0 : x 0 = u11 := hd 0 (by kernel_rfl) (by kernel_rfl)
                            have dm14 : d' 14 = d 14 := hdm 14 (by omega)
                            have dm16 : d' 16 = d 16 := hdm 16 (by omega)
                            have dn14 : d 14 = true := hdn 14 (by kernel_rfl)
                            have dz16 : d 16 = false := hnd 16 (by kernel_rfl)
                            obtain ⟨hb, h14, _, _, h16n⟩ := hB
                            have H16N := Lib.hid h16n
                            clear h16n
                            have hb := hb hdi
                            have e14 := h14 dn14 hdi
                            clear ho hd hdn hnd hcl hmm
                            simp only [upd, reduceIte, Nat.reduceEqDiff, e0] at hK
                            try dsimp only
                            refine wp_app elemRR encRn_len encRn_one (.tmp 173) (.tmp 187) rfl u11 (x 14) (by rw [← e0]; rfl) rfl (HOU5.out.below hb) e14 (by have := HOL.out; simp; omega) (Nat.le_trans HB5.out.size hb.size) ?_
                            intro v1 w1 o1 g1
                            go_simp
                            refine hK _ _ ?_
                            try dsimp only
                            rw [dm14, dm16, hdi']
                            exact ⟨fun h => (by cases h), fun _ h => (by cases h), fun _ => ⟨o1, (HB5.out.trans (hb.mono HB5.out.size)).grown g1 (Nat.le_trans HB5.out.size hb.size) (fun q hq => (HOU5.out.block q hq).1), (HTH5.out.below hb).keep g1 ((HTH5.out.below hb).ne (HOU5.out.below hb) (by decide))⟩, fun h => (by rw [dz16] at h; cases h), H16N.out⟩
                          · obtain rfl := Option.some.inj ho
                            have dm14 : d' 14 = d 14 := hdm 14 (by omega)
                            have dm15 : d' 15 = d 15 := hdm 15 (by omega)
                            have dn15 : d 15 = true := hdn 15 (by kernel_rfl)
                            obtain ⟨_, _, h15, _, _⟩ := hB
                            clear ho hd hdn hnd hcl hmm
                            simp only [upd, reduceIte, Nat.reduceEqDiff] at hK
                            try dsimp only
                            go_simp
                            refine hK _ _ ?_
                            try dsimp only
                            rw [dm14, dm15, hdi']
                            exact ⟨fun h => (by rw [dn15] at h; cases h), fun _ h => (by rw [dn15] at h; cases h), h15, fun _ => rfl, fun h => (by cases h)⟩
                        case hend =>
                          intro d x W hall hB hd
                          obtain ⟨_, _, h15, h16, _⟩ := hB
                          obtain ⟨o15, b15, t15⟩ := h15 (hall 15 (by omega))
                          have e16 := h16 (hall 16 (by omega))
                          clear hd
                          try dsimp only
                          rw [e16]
                          generalize x 15 = v15 at o15 ⊢
                          generalize x 0 = y0
                          generalize x 1 = y1
                          generalize x 2 = y2
                          generalize x 3 = y3
                          generalize x 4 = y4
                          generalize x 5 = y5
                          generalize x 6 = y6
                          generalize x 7 = y7
                          generalize x 8 = y8
                          generalize x 9 = y9
                          generalize x 10 = y10
                          generalize x 11 = y11
                          generalize x 12 = y12
                          generalize x 13 = y13
                          generalize x 14 = y14
                          clear hall
                          have HO9 := Lib.hid o15
                          have HB9 := Lib.hid b15
                          have HT9 := Lib.hid t15
                          go_wp2
                          go_roundg (gk - 1)
                          case measure => have := HJ.out; omega
                          case rel => exact ⟨j + 1, _, _, by have := HJ.out; omega, by go_num, HNX.out, HT9.out, by rw [HNR.out]; exact HO9.out, HB9.out⟩
                  by_cases h1 : e.kind = 1
                  · rw [h1] at c3
                    have HNR := Lib.hid (show ranOf (ofT th) e = [] from by unfold ranOf; rw [if_neg (by omega)])
                    have HHT := Lib.hid (fun W (h : EV encG 2 W u8 th) => rhome_ok W u8 th e.task h HTL.out)
                    have hzb2 := homeZ_bd (th := th) (x := e.task) HTL.out
                    have hgb := (chk_spawn HC.out h1).2
                    by_cases hz2 : homeZ th e.task < 0
                    · have hno := homeZ_none hz2
                      have hneg1 := homeZ_neg hz2
                      rw [hneg1] at HHT
                      by_cases hgg : e.grp < (G : Int)
                      · have HNX := Lib.hid (HNXT.out _ (does_spawn (n := G) h1 hno hgg) (keys_snoc HR.out.nd hno) (by simp))
                        clear hno hneg1 hz2
                        go_wp2_with fail
                        refine (HHT.out _ (HTH5.out.ev encG_len)).mono ?_
                        rintro r w6 ⟨rfl, rfl⟩
                        go_wp2_with fail
                        refine wp_region_dag (by kernel_rfl) 11 rfl (fun i => i == 0 || i == 2 || i == 8 || i == 9 || i == 10) (fun x => ⟨#[.slice Ag G cg, u1, .slice (some ⟨b, off, none⟩) n ce, u3, u4, u5, u6, u7, x 10, u9, u10, u11, .int .i64 (j : Nat), .pointer (some ⟨B, 0, none⟩), .int .i64 bg, u15, .int .i64 (homeZ th e.got), u17, u18, u19, u20, u21, u22, u23, u24, u25, u26, u27, u28, u29, u30, u31, u32, u33, u34, u35, u36, u37, u38, u39, u40, u41, u42, u43, u44, u45, u46, u47, u48, u49, u50, u51, u52, u53, u54, u55, u56, u57, u58, u59, u60, u61, u62, u63, u64, u65, u66, u67, u68, u69, u70, u71, u72, u73, u74, u75, u76, u77, u78, u79, u80, u81, u82, u83, u84, u85, u86, u87, u88, u89, u90, u91, u92, u93, u94, u95, u96, u97, u98, u99, u100, u101, u102, u103, u104, u105, u106, u107, u108, u109, u110, u111, u112, u113, u114, u115, u116, u117, u118, u119, u120, u121, u122, u123, .pointer (some ⟨B, 3, none⟩), .int .u8 1, .bool true, .bool true, u8, .pointer (some ⟨B, 4, none⟩), .int .i64 e.task, .int .i64 (-1), .bool false, .bool false, .pointer (some ⟨B, 5, none⟩), .int .i64 e.grp, .slice Ag G cg, .int .i64 (G : Nat), .bool (decide ((G : Int) ≤ e.grp)), .bool (decide ((G : Int) ≤ e.grp)), x 0, x 1, x 2, x 3, x 4, x 5, x 6, x 7, x 8, x 9, u150, u151, u152, u153, u154, u155, u156, u157, u158, u159, u160, u161, u162, u163, u164, u165, u166, u167, u168, u169, u170, u171, u172, u173, u174, u175, u176, u177, u178, u179, u180, u181, u182, u183, u184, u185, u186, u187, u188, u189], []⟩) (fun iF vF => match iF with | 1 => vF = u8 | 3 => vF = .pointer (some ⟨B, 4, none⟩) | 4 => vF = .int .i64 e.task | 5 => vF = .pointer (some ⟨B, 5, none⟩) | 6 => vF = .int .i64 e.grp | 7 => vF = .agg #[.int .i64 e.task, .int .i64 e.grp] | _ => True)
                          (fun d x W => AL encG 2 121 w6 th [(e.task, e.grp)] (d 0) (d 2) (d 8) (d 9) (x 0) (x 2) (x 8) (x 9) W ∧ (d 10 = true → x 10 = x 9) ∧ (d 10 = false → x 10 = u8)) ?hB (by kernel_rfl) (by kernel_rfl) ?hpure ?hmem ?hend (fun i => (#[u140, u141, u142, u143, u144, u145, u146, u147, u148, u149, u8] : Array Value).getD i undef) rfl ?hstart
                        case hstart =>
                          try dsimp only
                          exact ⟨AL.start, fun h => (by cases h), fun _ => rfl⟩
                        case hB =>
                          intro d d' x i v W hi hm h
                          have g0 : ¬ 0 = i := by rintro rfl; exact absurd (show true = false from hi) (by simp)
                          have e0 : d' 0 = d 0 := hm 0 rfl
                          have g2 : ¬ 2 = i := by rintro rfl; exact absurd (show true = false from hi) (by simp)
                          have e2 : d' 2 = d 2 := hm 2 rfl
                          have g8 : ¬ 8 = i := by rintro rfl; exact absurd (show true = false from hi) (by simp)
                          have e8 : d' 8 = d 8 := hm 8 rfl
                          have g9 : ¬ 9 = i := by rintro rfl; exact absurd (show true = false from hi) (by simp)
                          have e9 : d' 9 = d 9 := hm 9 rfl
                          have g10 : ¬ 10 = i := by rintro rfl; exact absurd (show true = false from hi) (by simp)
                          have e10 : d' 10 = d 10 := hm 10 rfl
                          try dsimp only at h ⊢
                          rw [upd_ne g0, upd_ne g2, upd_ne g8, upd_ne g9, upd_ne g10, e0, e2, e8, e9, e10]
                          exact h
                        case hpure =>
                          intro iF o hi hnm ho d x W hB hd hdn hnd hcl K hK
                          rcases (show iF = 0 ∨ iF = 1 ∨ iF = 2 ∨ iF = 3 ∨ iF = 4 ∨ iF = 5 ∨ iF = 6 ∨ iF = 7 ∨ iF = 8 ∨ iF = 9 ∨ iF = 10 by omega) with rfl | rfl | rfl | rfl | rfl | rfl | rfl | rfl | rfl | rfl | rfl
                          · exact absurd (show true = false from hnm) (by simp)
                          · obtain rfl := Option.some.inj ho
                            have hm10 : d 10 = false := notyet (i := 10) hcl (notyet (i := 9) hcl (hnd 2 (by kernel_rfl)) (by kernel_rfl)) (by kernel_rfl)
                            have e10 := hB.2.2 hm10
                            clear ho hd hdn hnd hcl hB hnm hi
                            simp only [upd, reduceIte, Nat.reduceEqDiff, e10] at hK
                            try dsimp only
                            try rw [e10]
                            go_simp
                            exact hK _ (by first | rfl | exact e10)
                          · exact absurd (show true = false from hnm) (by simp)
                          · obtain rfl := Option.some.inj ho
                            clear ho hd hdn hnd hcl hB hnm hi
                            simp only [upd, reduceIte, Nat.reduceEqDiff] at hK
                            try dsimp only
                            go_simp
                            exact hK _ rfl
                          · obtain rfl := Option.some.inj ho
                            have e3 : x 3 = .pointer (some ⟨B, 4, none⟩) := hd 3 (by kernel_rfl) (by kernel_rfl)
                            have hm9 : d 9 = false := notyet (i := 9) hcl (notyet (i := 8) hcl (hnd 7 (by kernel_rfl)) (by kernel_rfl)) (by kernel_rfl)
                            have hb := hB.1.bel
                            have q4 := below_cell hb HEP5.out.c4
                            have q5 := below_cell hb HEP5.out.c5
                            clear ho hd hdn hnd hcl hB hnm hi
                            simp only [upd, reduceIte, Nat.reduceEqDiff, e3] at hK
                            try dsimp only
                            go_simp
                            exact hK _ rfl
                          · obtain rfl := Option.some.inj ho
                            clear ho hd hdn hnd hcl hB hnm hi
                            simp only [upd, reduceIte, Nat.reduceEqDiff] at hK
                            try dsimp only
                            go_simp
                            exact hK _ rfl
                          · obtain rfl := Option.some.inj ho
                            have e5 : x 5 = .pointer (some ⟨B, 5, none⟩) := hd 5 (by kernel_rfl) (by kernel_rfl)
                            have hm9 : d 9 = false := notyet (i := 9) hcl (notyet (i := 8) hcl (hnd 7 (by kernel_rfl)) (by kernel_rfl)) (by kernel_rfl)
                            have hb := hB.1.bel
                            have q4 := below_cell hb HEP5.out.c4
                            have q5 := below_cell hb HEP5.out.c5
                            clear ho hd hdn hnd hcl hB hnm hi
                            simp only [upd, reduceIte, Nat.reduceEqDiff, e5] at hK
                            try dsimp only
                            go_simp
                            exact hK _ rfl
                          · obtain rfl := Option.some.inj ho
                            have e4 : x 4 = .int .i64 e.task := hd 4 (by kernel_rfl) (by kernel_rfl)
                            have e6 : x 6 = .int .i64 e.grp := hd 6 (by kernel_rfl) (by kernel_rfl)
                            clear ho hd hdn hnd hcl hB hnm hi
                            simp only [upd, reduceIte, Nat.reduceEqDiff, e4, e6] at hK
                            try dsimp only
                            go_simp
                            exact hK _ rfl
                          · exact absurd (show true = false from hnm) (by simp)
                          · exact absurd (show true = false from hnm) (by simp)
                          · exact absurd (show true = false from hnm) (by simp)
                        case hmem =>
                          intro iF o hi hmm ho d d' x W hB hd hdn hnd hdi hdi' hdm hcl K hK
                          rcases (show iF = 0 ∨ iF = 1 ∨ iF = 2 ∨ iF = 3 ∨ iF = 4 ∨ iF = 5 ∨ iF = 6 ∨ iF = 7 ∨ iF = 8 ∨ iF = 9 ∨ iF = 10 by omega) with rfl | rfl | rfl | rfl | rfl | rfl | rfl | rfl | rfl | rfl | rfl
                          · obtain rfl := Option.some.inj ho
                            have dm2 : d' 2 = d 2 := hdm 2 (by omega)
                            have dm8 : d' 8 = d 8 := hdm 8 (by omega)
                            have dm9 : d' 9 = d 9 := hdm 9 (by omega)
                            have dm10 : d' 10 = d 10 := hdm 10 (by omega)
                            have dz2 : d 2 = false := hnd 2 (by kernel_rfl)
                            have dz9 : d 9 = false := notyet (i := 9) hcl (hnd 2 (by kernel_rfl)) (by kernel_rfl)
                            have dz10 : d 10 = false := notyet (i := 10) hcl (notyet (i := 9) hcl (hnd 2 (by kernel_rfl)) (by kernel_rfl)) (by kernel_rfl)
                            obtain ⟨hAL, h10, h10n⟩ := hB
                            have H10 := Lib.hid h10
                            have H10N := Lib.hid h10n
                            clear h10 h10n
                            rw [hdi, dz2, dz9] at hAL
                            clear ho hd hdn hnd hcl hmm
                            simp only [upd, reduceIte, Nat.reduceEqDiff] at hK
                            try dsimp only
                            go_simp
                            refine hK _ _ ?_
                            try dsimp only
                            rw [hdi', dm2, dm8, dm9, dm10, dz2, dz9]
                            exact ⟨AL.b0 hAL rfl rfl, fun h => (by rw [dz10] at h; cases h), H10N.out⟩
                          · exact absurd (show false = true from hmm) (by simp)
                          · obtain rfl := Option.some.inj ho
                            have e1 : x 1 = u8 := hd 1 (by kernel_rfl) (by kernel_rfl)
                            have dm0 : d' 0 = d 0 := hdm 0 (by omega)
                            have dm8 : d' 8 = d 8 := hdm 8 (by omega)
                            have dm9 : d' 9 = d 9 := hdm 9 (by omega)
                            have dm10 : d' 10 = d 10 := hdm 10 (by omega)
                            have dn0 : d 0 = true := hdn 0 (by kernel_rfl)
                            have dz9 : d 9 = false := hnd 9 (by kernel_rfl)
                            have dz10 : d 10 = false := notyet (i := 10) hcl (hnd 9 (by kernel_rfl)) (by kernel_rfl)
                            obtain ⟨hAL, h10, h10n⟩ := hB
                            have H10 := Lib.hid h10
                            have H10N := Lib.hid h10n
                            clear h10 h10n
                            rw [dn0, hdi, dz9] at hAL
                            clear ho hd hdn hnd hcl hmm
                            simp only [upd, reduceIte, Nat.reduceEqDiff, e1] at hK
                            try dsimp only
                            refine wp_app_at elemRH encG_len encG_one (.tmp 140) (.tmp 141) rfl (x 0) u8 rfl (by rw [← e1]; rfl) (hAL.p0 rfl rfl) ((HTH5.out.ev encG_len).below hAL.bel) (by have := HTL.out; simp; omega) hAL.bel.size ?_
                            intro v1 w1 o1 g1 a1
                            go_simp
                            refine hK _ _ ?_
                            try dsimp only
                            rw [hdi', dm0, dm8, dm9, dm10, dn0, dz9]
                            exact ⟨AL.app1 hAL rfl (by simpa using o1) g1 a1, fun h => (by rw [dz10] at h; cases h), H10N.out⟩
                          · exact absurd (show false = true from hmm) (by simp)
                          · exact absurd (show false = true from hmm) (by simp)
                          · exact absurd (show false = true from hmm) (by simp)
                          · exact absurd (show false = true from hmm) (by simp)
                          · exact absurd (show false = true from hmm) (by simp)
                          · obtain rfl := Option.some.inj ho
                            have e7 : x 7 = .agg #[.int .i64 e.task, .int .i64 e.grp] := hd 7 (by kernel_rfl) (by kernel_rfl)
                            have dm0 : d' 0 = d 0 := hdm 0 (by omega)
                            have dm2 : d' 2 = d 2 := hdm 2 (by omega)
                            have dm9 : d' 9 = d 9 := hdm 9 (by omega)
                            have dm10 : d' 10 = d 10 := hdm 10 (by omega)
                            have dz9 : d 9 = false := hnd 9 (by kernel_rfl)
                            have dz10 : d 10 = false := notyet (i := 10) hcl (hnd 9 (by kernel_rfl)) (by kernel_rfl)
                            obtain ⟨hAL, h10, h10n⟩ := hB
                            have H10 := Lib.hid h10
                            have H10N := Lib.hid h10n
                            clear h10 h10n
                            rw [hdi, dz9] at hAL
                            clear ho hd hdn hnd hcl hmm
                            simp only [upd, reduceIte, Nat.reduceEqDiff, e7] at hK
                            try dsimp only
                            go_simp
                            refine hK _ _ ?_
                            try dsimp only
                            rw [hdi', dm0, dm2, dm9, dm10, dz9]
                            exact ⟨AL.b8 hAL rfl (new_rhomeM rfl), fun h => (by rw [dz10] at h; cases h), H10N.out⟩
                          · obtain rfl := Option.some.inj ho
                            have dm0 : d' 0 = d 0 := hdm 0 (by omega)
                            have dm2 : d' 2 = d 2 := hdm 2 (by omega)
                            have dm8 : d' 8 = d 8 := hdm 8 (by omega)
                            have dm10 : d' 10 = d 10 := hdm 10 (by omega)
                            have dn2 : d 2 = true := hdn 2 (by kernel_rfl)
                            have dn8 : d 8 = true := hdn 8 (by kernel_rfl)
                            have dz10 : d 10 = false := hnd 10 (by kernel_rfl)
                            have dn0 : d 0 = true := hcl 2 dn2 0 (by kernel_rfl)
                            obtain ⟨hAL, h10, h10n⟩ := hB
                            have H10 := Lib.hid h10
                            have H10N := Lib.hid h10n
                            clear h10 h10n
                            rw [dn0, dn2, dn8, hdi] at hAL
                            clear ho hd hdn hnd hcl hmm
                            simp only [upd, reduceIte, Nat.reduceEqDiff] at hK
                            try dsimp only
                            refine wp_app elemRH encG_len encG_one (.tmp 142) (.tmp 148) rfl (x 2) (x 8) rfl rfl (hAL.p2 rfl rfl) (hAL.p8 rfl rfl).1 (by have := HTL.out; simp; omega) hAL.bel.size ?_
                            intro v1 w1 o1 g1
                            go_simp
                            refine hK _ _ ?_
                            try dsimp only
                            rw [hdi', dm0, dm2, dm8, dm10, dn0, dn2, dn8]
                            exact ⟨AL.app2 hAL o1 g1 rfl, fun h => (by rw [dz10] at h; cases h), H10N.out⟩
                          · obtain rfl := Option.some.inj ho
                            have dm0 : d' 0 = d 0 := hdm 0 (by omega)
                            have dm2 : d' 2 = d 2 := hdm 2 (by omega)
                            have dm8 : d' 8 = d 8 := hdm 8 (by omega)
                            have dm9 : d' 9 = d 9 := hdm 9 (by omega)
                            have dn9 : d 9 = true := hdn 9 (by kernel_rfl)
                            obtain ⟨hAL, h10, h10n⟩ := hB
                            clear h10 h10n
                            clear ho hd hdn hnd hcl hmm
                            simp only [upd, reduceIte, Nat.reduceEqDiff] at hK
                            try dsimp only
                            go_simp
                            refine hK _ _ ?_
                            try dsimp only
                            rw [hdi', dm0, dm2, dm8, dm9]
                            exact ⟨hAL, fun _ => rfl, fun h => (by cases h)⟩
                        case hend =>
                          intro d x W hall hB hd
                          obtain ⟨hAL, h10, _⟩ := hB
                          have e10 := h10 (hall 10 (by omega))
                          have o9 := hAL.p9 (hall 9 (by omega))
                          have b9 := hAL.bel
                          clear hd hAL h10
                          try dsimp only
                          rw [e10]
                          clear e10 hall
                          generalize x 9 = v9 at o9 ⊢
                          generalize x 0 = y0
                          generalize x 1 = y1
                          generalize x 2 = y2
                          generalize x 3 = y3
                          generalize x 4 = y4
                          generalize x 5 = y5
                          generalize x 6 = y6
                          generalize x 7 = y7
                          generalize x 8 = y8
                          have HT7 := Lib.hid (o9.base_le HB5.out.size)
                          have HB7 := Lib.hid (HB5.out.trans (b9.mono HB5.out.size))
                          replace HO7 := Lib.hid (HOU5.out.below b9)
                          clear o9 b9
                          go_wp2
                          go_roundg (gk - 1)
                          case measure => have := HJ.out; omega
                          case rel => exact ⟨j + 1, _, _, by have := HJ.out; omega, by go_num, HNX.out, HT7.out, by rw [HNR.out, List.append_nil]; exact HO7.out, HB7.out⟩
                      · have HD := Lib.hid (HDX.out (does_spawn_no (n := G) h1 (.inr (by omega))))
                        have hgd : decide ((G : Int) ≤ e.grp) = true := by simp; omega
                        clear hno hneg1 hz2
                        go_wp2_with fail
                        refine (HHT.out _ (HTH5.out.ev encG_len)).mono ?_
                        rintro r w6 ⟨rfl, rfl⟩
                        go_wp2
                        exact FIN0.out HD.out _ HB5.out
                    · have HD := Lib.hid (HDX.out (does_spawn_no (n := G) h1 (.inl (homeZ_some.2 (by omega)))))
                      have hz3 : (0 : Int) ≤ homeZ th e.task := by omega
                      clear hz2
                      go_wp2_with fail
                      refine (HHT.out _ (HTH5.out.ev encG_len)).mono ?_
                      rintro r w6 ⟨rfl, rfl⟩
                      go_wp2
                      exact FIN0.out HD.out _ HB5.out
                  have HNR := Lib.hid (show ranOf (ofT th) e = [] from by unfold ranOf; rw [if_neg (by omega)])
                  have HNX := Lib.hid (HNXT.out th (does_none h1 h3 h4 h5) HR.out.nd (by omega))
                  have HT7 := Lib.hid HTH5.out
                  have HB7 := Lib.hid HB5.out
                  have k1 : (e.kind == 1) = false := by simp [h1]
                  have k3 : (e.kind == 3) = false := by simp [h3]
                  have k4 : (e.kind == 4) = false := by simp [h4]
                  have k5 : (e.kind == 5) = false := by simp [h5]
                  clear h1 h3 h4 h5
                  go_wp2
                  go_roundg (gk - 1)
                  case measure => have := HJ.out; omega
                  case rel => exact ⟨j + 1, _, _, by have := HJ.out; omega, by go_num, HNX.out, HT7.out, by rw [HNR.out, List.append_nil]; exact HO7.out, HB7.out⟩
    · obtain rfl : n = j := by have := HJ.out; omega
      have HF := Lib.hid HR.out
      rw [← HL.out.2.1] at HF
      have HF2 := Lib.hid HF.out.fin
      clear HF
      go_wp2
      exact FIN1.out s HF2.out _ _ HOU.out HBW.out
end Go.Proofs.YtaplangfppohdaaDoor
