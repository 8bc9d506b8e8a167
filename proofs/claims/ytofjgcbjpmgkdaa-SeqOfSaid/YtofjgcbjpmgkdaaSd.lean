/- package seq: borders, both. -/
import Derived.Test.YtofjgcbjpmgkdaaSc
set_option linter.unusedVariables false
set_option linter.unusedSimpArgs false
set_option linter.unusedSectionVars false
namespace Go.Proofs.Ytofjgcbjpmgkdaa
open Go.RowKit Go.Shelf
attribute [local go_sem] Oper.semAt_some

set_option maxHeartbeats 400000 in
theorem borders_ok (w : World) (A B : Option Addr) (n c m d : Nat) :
    CallsIn W0 0 Try.prog 63 #[.slice A n c, .slice B m d] w fun e w' => e = .returned (.func (.func 68) #[] #[.pointer (some ⟨w.heap.size, 0, none⟩), .pointer (some ⟨w.heap.size + 1, 0, none⟩)]) ∧
      (w.alloc (Obj.cells #[.slice A n c] 22)).alloc (Obj.cells #[.slice B m d] 22) = w' := by
  have hd0 : W0.depth = none := rfl
  have hfn : ∀ f, W0.fn f := fun _ => trivial
  refine callsIn_of_wp Try.func63 rfl trivial ?_ rfl
  simp only [Try.ntmps63, List.size_toArray, List.length_cons, List.length_nil, Nat.reduceAdd, Nat.reduceSub, Array.replicate_succ, Array.replicate_zero, List.push_toArray, List.append_toArray, List.nil_append, List.cons_append]
  gi_wp2
  go_ret
  exact ⟨rfl, rfl⟩

theorem rerr_two {a b : List (Int × Int)} : rerr [a, b] = 0 ↔ rightB a = true ∧ rightB b = true := by unfold rerr; simp

theorem Boxed.frz {w : World} {B : Nat} {t : TypeId} {v : Value} (h : Boxed w B t v) : w.frozen? ⟨B, 0, none⟩ = false := h.frozen

theorem own_cells {e : TypeId} {base : Nat} {w : World} {v : Value} {xs : List (Int × Int)} (h : OV encP 2 e base w v xs) {g : Nat} (hg : v.ownBlock = some g) : ∃ o, w.heap[g]? = some o ∧ isBook o = false := by
  rcases h.2 with ⟨rfl, _⟩ | ⟨g', cap, cur, rfl, _, hh, _⟩
  · simp [Value.ownBlock] at hg
  · simp [Value.ownBlock] at hg; subst hg; exact ⟨_, hh, rfl⟩
theorem own_ne_bool {base : Nat} {w : World} {v : Value} {xs : List (Int × Int)} (h : OV encP 2 35 base w v xs) {g : Nat} (hg : v.ownBlock = some g) {cs : Array Value} (hb : w.heap[g]? = some (.cells cs 99 (0, 0))) : False := by
  rcases h.2 with ⟨rfl, _⟩ | ⟨g', cap, cur, rfl, _, hh, _⟩
  · simp [Value.ownBlock] at hg
  · simp [Value.ownBlock] at hg; subst hg; rw [hh] at hb; simp at hb

set_option maxRecDepth 100000 in
set_option maxHeartbeats 4000000 in
theorem both_ok (w : World) (va vb : Value) (a b : List (Int × Int)) (gt : Nat) (tk : Bool → Bool → Bool) (ha : EV encP 2 w va a) (hb : EV encP 2 w vb b) (la : a.length ≤ 100000000) (lb : b.length ≤ 100000000)
    (eg : ∀ args w, (callFunc gt args).run Try.prog w = .ok (.enter gt args) w) (htk : ∀ (x y : Bool) (W : World), Calls Try.prog gt #[.bool x, .bool y] W fun e W' => e = .returned (.bool (tk x y)) ∧ W = W') (ht : tk false false = false) :
    Calls Try.prog 42 #[va, vb, .func (.func gt) #[] #[]] w fun e w' => ∃ r, e = .returned (.tuple #[r, .int .i64 (rerr [a, b])]) ∧ OV encP 2 35 w.heap.size w' r (if rerr [a, b] = 0 then bothL tk a b else []) ∧ Below w.heap.size w w' := by
  obtain ⟨Aa, xa, rfl⟩ := ha.shape
  obtain ⟨Ab, xb, rfl⟩ := hb.shape
  have HA := Lib.hid ha
  have HB := Lib.hid hb
  have HTK := Lib.hid (fun x y W => in_of (htk x y W))
  have HT := Lib.hid ht
  have RT := Lib.hid (fun (w1 : World) (h : Below w.heap.size w w1) (m : Nat) (hm : w1.heap.size = m) => hm ▸ right_two w1 _ _ a b (ha.below h) (hb.below h) (by omega) (by omega))
  by_cases he : rerr [a, b] = 0
  · rw [if_pos he]
    obtain ⟨hra, hrb⟩ := rerr_two.1 he
    obtain ⟨hla, hca⟩ := right_iff.1 hra
    obtain ⟨hlb, hcb⟩ := right_iff.1 hrb
    have HCA := Lib.hid hca
    have HCB := Lib.hid hcb
    rw [he] at RT ⊢
    have BN := Lib.hid (boN_spec hca hcb)
    have BK_ := Lib.hid (boIt_ok ht hca hcb)
    have HO := Lib.hid (show (boIt tk (st0 a b) (boN a b)).out = bothL tk a b from rfl)
    clear he hra hrb hca hcb ha hb htk ht
    refine of_in ?_
    have hfn : ∀ f, W0.fn f := fun _ => trivial
    have hd0 : W0.depth = none := rfl
    refine callsIn_of_wp_marks Try.func42 rfl trivial ?_ rfl
    simp only [Try.ntmps42, List.size_toArray, List.length_cons, List.length_nil, Nat.reduceAdd, Nat.reduceSub, Array.replicate_succ, Array.replicate_zero, List.push_toArray, List.append_toArray, List.nil_append, List.cons_append]
    gi_wp2
    have b1 : Below w.heap.size w (w.alloc (.cells #[.func (.func gt) #[] #[]] 73)) := (Below.refl _ _).alloc (Nat.le_refl _) _
    have x1 : Boxed (w.alloc (.cells #[.func (.func gt) #[] #[]] 73)) w.heap.size 73 (.func (.func gt) #[] #[]) := Boxed.new _ _ _
    have z1 : (w.alloc (.cells #[.func (.func gt) #[] #[]] 73)).heap.size = w.heap.size + 1 := World.size_alloc _ _
    generalize w.alloc (.cells #[.func (.func gt) #[] #[]] 73) = w1 at b1 x1 z1 ⊢
    refine (in_of (RT.out w1 b1 _ z1)).mono ?_
    rintro e w2 ⟨rfl, b2⟩
    rw [← z1] at b2
    have x2 := x1.below b2
    have s2 := b2.size
    have b2 := b1.trans (b2.mono b1.size)
    have hb5 : w.heap.size < w2.heap.size := by omega
    clear RT x1 b1 z1
    gi_wp2
    refine (borders_ok _ _ _ _ _ _ _).mono ?_
    rintro e w3 ⟨rfl, hw3⟩
    obtain ⟨m, hm⟩ : ∃ m, w2.heap.size = m := ⟨_, rfl⟩
    have hz3 : w3.heap.size = m + 5 := by rw [← hw3, ← hm]; simp
    have b3 : Below w2.heap.size w2 w3 := by rw [← hw3]; exact (((((Below.refl _ _).alloc (Nat.le_refl _) _).alloc (by simp) _).alloc (by simp; omega) _).alloc (by simp; omega) _).alloc (by simp; omega) _
    have y9 : Boxed w3 m 22 (.slice none 0 0) := by rw [← hw3, ← hm]; exact ((((Boxed.new _ _ _).alloc _).alloc _).alloc _).alloc _
    have y10 : Boxed w3 (m + 1) 3 (.int .i64 0) := by
      rw [← hw3, ← hm]
      have := Boxed.new (w2.alloc (.cells #[.slice none 0 0] 22)) 3 (.int .i64 0)
      rw [World.size_alloc] at this
      exact ((this.alloc _).alloc _).alloc _
    have y11 : Boxed w3 (m + 2) 4 (.bool false) := by
      rw [← hw3, ← hm]
      have := Boxed.new ((w2.alloc (.cells #[.slice none 0 0] 22)).alloc (.cells #[.int .i64 0] 3)) 4 (.bool false)
      rw [World.size_alloc, World.size_alloc] at this
      exact (this.alloc _).alloc _
    have yA : Boxed w3 (m + 3) 22 (.slice Aa a.length xa) := by
      rw [← hw3, ← hm]
      have := Boxed.new (((w2.alloc (.cells #[.slice none 0 0] 22)).alloc (.cells #[.int .i64 0] 3)).alloc (.cells #[.bool false] 4)) 22 (.slice Aa a.length xa)
      rw [World.size_alloc, World.size_alloc, World.size_alloc] at this
      exact this.alloc _
    have yB : Boxed w3 (m + 4) 22 (.slice Ab b.length xb) := by
      rw [← hw3, ← hm]
      have := Boxed.new ((((w2.alloc (.cells #[.slice none 0 0] 22)).alloc (.cells #[.int .i64 0] 3)).alloc (.cells #[.bool false] 4)).alloc (.cells #[.slice Aa a.length xa] 22)) 22 (.slice Ab b.length xb)
      rw [World.size_alloc, World.size_alloc, World.size_alloc, World.size_alloc] at this
      exact this
    have x3 := x2.below b3
    have B3 := b2.trans (b3.mono b2.size)
    simp only [World.size_alloc, Nat.add_assoc, Nat.reduceAdd]
    rw [hm]
    rw [hm] at hb5
    have it3 := borders_iter w3 (m + 3) (m + 4) _ _ a b HCA.out HCB.out yA.cell yB.cell (HA.out.below B3) (HB.out.below B3) la lb
    have rowA : ∀ k o n c, a ≠ [] → Value.slice Aa a.length xa = .slice (some ⟨k, o, none⟩) n c → k < w.heap.size := fun k o n c h1 h2 => by
      obtain ⟨b', o', c', hv, _, r⟩ := HA.out.row (by cases a with | nil => exact absurd rfl h1 | cons r l => simp)
      rw [hv] at h2
      simp only [Value.slice.injEq, Option.some.injEq, Addr.mk.injEq, and_true] at h2
      rw [← h2.1.1]
      exact r.lt (by cases a with | nil => exact absurd rfl h1 | cons r l => simp) (fun _ => by simp [encP_len])
    have rowB : ∀ k o n c, b ≠ [] → Value.slice Ab b.length xb = .slice (some ⟨k, o, none⟩) n c → k < w.heap.size := fun k o n c h1 h2 => by
      obtain ⟨b', o', c', hv, _, r⟩ := HB.out.row (by cases b with | nil => exact absurd rfl h1 | cons r l => simp)
      rw [hv] at h2
      simp only [Value.slice.injEq, Option.some.injEq, Addr.mk.injEq, and_true] at h2
      rw [← h2.1.1]
      exact r.lt (by cases b with | nil => exact absurd rfl h1 | cons r l => simp) (fun _ => by simp [encP_len])
    obtain ⟨S, hS⟩ : ∃ S, S = bordS (m + 3) (m + 4) (.slice Aa a.length xa) (.slice Ab b.length xb) a b := ⟨_, rfl⟩
    have HSL := Lib.hid (show ∀ k, S k → k < w.heap.size ∨ k = m + 3 ∨ k = m + 4 from fun k h => by
      rw [hS] at h
      rcases h with h | h | ⟨h0, o, n, c, h⟩ | ⟨h0, o, n, c, h⟩
      · exact .inr (.inl h)
      · exact .inr (.inr h)
      · exact .inl (rowA _ _ _ _ h0 h)
      · exact .inl (rowB _ _ _ _ h0 h))
    rw [← hS] at it3
    have HM := Lib.hid hm
    have HZ3 := Lib.hid hz3
    clear hw3 b2 b3 x2 yA yB rowA rowB hS hm hz3
    gi_wp2
    have hsw : w.heap.size ≤ w3.heap.size := B3.size
    refine wp_rangeP (xs := fun k => #[.int .i64 ((st0 a b).it k).q, .agg #[.bool ((st0 a b).it (k + 1)).a, .bool ((st0 a b).it (k + 1)).b]]) rfl (enters_of Try.func68 (by kernel_rfl) rfl) it3
      (fun k e => e.elim) (fun k e => by have := HSL.out k e; have := HZ3.out; omega) (fun k => rfl)
      (fun p k W => ∃ v, Boxed W m 22 v ∧ Boxed W (m + 1) 3 (.int .i64 (boIt tk (st0 a b) k).from_) ∧ Boxed W (m + 2) 4 (.bool (boIt tk (st0 a b) k).tk) ∧ Boxed W w.heap.size 73 (.func (.func gt) #[] #[]) ∧
        OV encP 2 35 p W v (boIt tk (st0 a b) k).out ∧ Below w.heap.size w W ∧ m + 5 ≤ W.heap.size) (fun _ _ _ => False)
      (fun p k W1 W2 h hc => ?stab) (fun _ _ _ _ h _ => h) (fun p => ⟨_, y9, y10, y11, x3, OV.nil _ _, B3, by have := HZ3.out; omega⟩) ?round ?done (fun _ _ _ _ h => h.elim)
    case stab =>
      obtain ⟨v, h9, h10, h11, h5, ho, hbw, hsz⟩ := h
      have hz := HZ3.out
      have nt : ∀ i, i < w3.heap.size → ¬ (False ∨ (w3.heap.size + 2 ≤ i ∧ i < p)) := fun i hi t => t.elim (fun t => t) (fun t => by omega)
      exact ⟨v, h9.chg hc (nt _ (by omega)), h10.chg hc (nt _ (by omega)), h11.chg hc (nt _ (by omega)), h5.chg hc (nt _ (by omega)), ho.chg hc (fun g hg t => by
          have := (ho.block g hg).1
          exact Or.elim (show False ∨ (w3.heap.size + 2 ≤ g ∧ g < p) from t) (fun t => t) (fun t => by omega)),
        hc.below hbw (Nat.le_refl _) hsw (fun k e => by
          exact Or.elim (show False ∨ (w3.heap.size + 2 ≤ k ∧ k < p) from e) (fun t => t.elim) (fun t => by omega)), Nat.le_trans hsz hc.size⟩
    case round =>
      rintro p l k W hk hl hl2 hp1 hp2 ⟨v, h9, h10, h11, h5, ho, hbw, hsz⟩
      clear y9 y10 y11 x3 B3 it3 b2
      have hz3 := HZ3.out
      rw [hz3] at hp1 hl hsw
      gi_wp2
      refine ⟨BK.alloc _, fun W2 hc hq => ?_⟩
      clear hq
      have hc0 : Chg w3.heap.size (fun _ => False) W (W.alloc (.cells #[.bool ((st0 a b).it (k + 1)).a, .bool ((st0 a b).it (k + 1)).b] 99)) := Chg.of_mod (Mod.alloc _)
      have h13 : W2.heap[W.heap.size]? = some (.cells #[.bool ((st0 a b).it (k + 1)).a, .bool ((st0 a b).it (k + 1)).b] 99 (0, 0)) := hc.cells (heap_alloc_new W _) (fun t => t)
      have hcc := hc0.trans hc
      have g9 := h9.chg hcc (fun t => t)
      have g10 := h10.chg hcc (fun t => t)
      have g11 := h11.chg hcc (fun t => t)
      have g5 := h5.chg hcc (fun t => t)
      have go := ho.chg hcc (fun _ _ t => t)
      have gb := hcc.below hbw (Nat.le_refl _) (by rw [hz3]; omega) (fun k t => t.elim)
      have gz : m + 5 ≤ W2.heap.size := Nat.le_trans hsz hcc.size
      have gz2 : W.heap.size < W2.heap.size := (Array.getElem?_eq_some_iff.1 h13).1
      have hpz : p ≤ W2.heap.size := by omega
      have BO := Lib.hid (BK_.out k (by omega))
      have hemp := BN.out.2.1 k hk
      have hq := St.q_gt BO.out.ok BO.out.hi hemp
      have hlo := BO.out.lo
      have hln := boIt_len (take := tk) (st0 a b) k
      have hN := BN.out.2.2
      have HNX := Lib.hid (show boIt tk (st0 a b) (k + 1) = boStep tk (boIt tk (st0 a b) k) ((st0 a b).it k).q ((st0 a b).it (k + 1)).a ((st0 a b).it (k + 1)).b from rfl)
      have HCAN := Lib.hid BO.out.can
      have hends := BO.out.ends
      clear hc hc0 hcc h9 h10 h11 h5 ho hbw BO hemp hsz BK_ BN HO
      generalize boIt tk (st0 a b) k = o at *
      generalize ((st0 a b).it k).q = q at *
      generalize ((st0 a b).it (k + 1)).a = fa at *
      generalize ((st0 a b).it (k + 1)).b = fb at *
      obtain ⟨out, fr, tkk⟩ := o
      dsimp only at *
      cases tkk with
      | false =>
        all_goals
          have c10 := g10.cell
          have f10 := g10.frozen
          have f11 := g11.frozen
          have c5 := g5.cell
          have k0 := cell_of_row W2 W.heap.size 0 _ _ (0, 0) h13
          have k1 := cell_of_row W2 W.heap.size 1 _ _ (0, 0) h13
          have k0 := k0.trans rfl
          have k1 := k1.trans rfl
          have c11 := g11.cell
          gi_wp2
          refine (HTK.out fa fb _).mono ?_
          rintro e W9 ⟨rfl, rfl⟩
          have c10 := g10.cell
          have f10 := g10.frozen
          have f11 := g11.frozen
          have c11 := g11.cell
          have BB := Lib.hid (BK.refl (fun b => S b ∨ (w3.heap.size + 2 ≤ b ∧ b < p)) W2)
          have G9' := Lib.hid g9
          have G10' := Lib.hid g10
          have G11' := Lib.hid g11
          have G5' := Lib.hid g5
          have GO' := Lib.hid go
          have GB' := Lib.hid gb
          have GZ' := Lib.hid gz
          gi_wp2
          refine ⟨?_, v, ?_, ?_, ?_, ?_, ?_, ?_, ?_⟩
          · refine BB.out.trans ((BK.setCell (p := ⟨m + 1, 0, none⟩) _ c10 ?_).trans (BK.setCell (p := ⟨m + 2, 0, none⟩) (u := .bool false) _ ?_ ?_))
            · intro h
              rcases h with h | h
              · have := HSL.out _ h; simp at this; omega
              · simp at h; omega
            · exact (World.cell?_setCell_other _ _ _ _ (fun e => by simp at e)).trans c11
            · intro h
              rcases h with h | h
              · have := HSL.out _ h; simp at this; omega
              · simp at h; omega
          · exact (G9'.out.setOther (p := ⟨m + 1, 0, none⟩) (by simp)).setOther (p := ⟨m + 2, 0, none⟩) (by simp)
          · rw [HNX.out]
            exact Boxed.setOther (p := ⟨m + 2, 0, none⟩) (Blk.set_ (G10'.out) 0 _) (by simp)
          · rw [HNX.out]
            exact Blk.set_ (G11'.out.setOther (p := ⟨m + 1, 0, none⟩) (by simp)) 0 _
          · exact (G5'.out.setOther (p := ⟨m + 1, 0, none⟩) (by simp; omega)).setOther (p := ⟨m + 2, 0, none⟩) (by simp; omega)
          · rw [HNX.out]
            exact GO'.out.same fun g o hg ho => (Below.heap_setCell _ _ _ _ (by have := (GO'.out.block g hg).1; simp; omega)).trans ((Below.heap_setCell _ _ _ _ (by have := (GO'.out.block g hg).1; simp; omega)).trans ho)
          · exact (GB'.out.setCell (by simp; omega) _).setCell (by simp; omega) _
          · simpa [World.setCell] using GZ'.out
      | true =>
        have c9 := g9.cell
        have c10 := g10.cell
        have c11 := g11.cell
        have hsp := addR_len out (fr, q - fr)
        have hpos : 0 < (addR out (fr, q - fr)).length := by
          rcases List.eq_nil_or_concat out with h | ⟨l', s, h⟩
          · rw [h]; simp [addR]
          · rw [h, List.concat_eq_append, addR_snoc]; split <;> simp
        have d1 : 0 ≤ q - fr := by omega
        have d2 : q - fr ≤ 281474976710657 := by omega
        gi_wp2
        refine (in_of (add_ok W2 v out fr (q - fr) p go HCAN.out (by omega) hpz (by omega) (by omega) (by omega) (by omega))).mono ?_
        rintro e W3 ⟨v', rfl, go3, hmod⟩
        obtain ⟨g', cap', hv', -, -⟩ := go3.form hpos
        obtain ⟨n', hn'⟩ : ∃ n, (addR out (fr, q - fr)).length = n := ⟨_, rfl⟩
        rw [hn'] at hv'
        have hob : ∀ x, v.ownBlock = some x → p ≤ x ∧ x < W2.heap.size := fun x hx => go.block x hx
        have tb : ∀ x, x < p → ¬ v.ownBlock = some x := fun x hx h => by have := hob x h; omega
        have i9 := g9.mod hmod (tb _ (by omega))
        have i10 := g10.mod hmod (tb _ (by omega))
        have i11 := g11.mod hmod (tb _ (by omega))
        have i5 := g5.mod hmod (tb _ (by omega))
        have i13 : W3.heap[W.heap.size]? = some (.cells #[.bool fa, .bool fb] 99 (0, 0)) := by
          by_cases hw : v.ownBlock = some W.heap.size
          · exfalso
            exact own_ne_bool go hw h13
          · exact (hmod.block _ gz2 hw).trans h13
        have ib := gb.trans (hmod.below (B := w.heap.size) (fun x hx => tb x (by omega)) gb.size)
        have iz := Nat.le_trans gz hmod.size
        have ipz := Nat.le_trans hpz hmod.size
        have bk3 : BK (fun b => S b ∨ (w3.heap.size + 2 ≤ b ∧ b < p)) W2 W3 := BK.of_mod hmod fun x hx h => ⟨fun hs => by
            have := hob x h
            rcases hs with hs | hs
            · have := HSL.out _ hs; omega
            · omega, own_cells go h⟩
        have j9f := i9.frozen
        have j9c := i9.cell
        clear c9 c10 c11 g9 g10 g11 g5 go gb gz h13 hmod hn' hob
        subst hv'
        have j5c := i5.cell
        have k0 := cell_of_row W3 W.heap.size 0 _ _ (0, 0) i13
        have k1 := cell_of_row W3 W.heap.size 1 _ _ (0, 0) i13
        have k0 := k0.trans rfl
        have k1 := k1.trans rfl
        have hn1 : ¬ w.heap.size = m := by omega
        have hn2 : ¬ W.heap.size = m := by omega
        have hn3 : ¬ m = w.heap.size := by omega
        have hn4 : ¬ m = W.heap.size := by omega
        gi_wp2
        have k9 : Boxed (W3.setCell ⟨m, 0, none⟩ (.slice (some ⟨g', 0, none⟩) n' cap')) m 22 (.slice (some ⟨g', 0, none⟩) n' cap') := Blk.set_ i9 0 _
        have k10 := i10.setOther (p := ⟨m, 0, none⟩) (u := .slice (some ⟨g', 0, none⟩) n' cap') (by simp)
        have k11 := i11.setOther (p := ⟨m, 0, none⟩) (u := .slice (some ⟨g', 0, none⟩) n' cap') (by simp)
        have k5 := i5.setOther (p := ⟨m, 0, none⟩) (u := .slice (some ⟨g', 0, none⟩) n' cap') (by simp; omega)
        have k13 := (Below.heap_setCell W3 ⟨m, 0, none⟩ (.slice (some ⟨g', 0, none⟩) n' cap') W.heap.size (by simp; omega)).trans i13
        have ko : OV encP 2 35 p (W3.setCell ⟨m, 0, none⟩ (.slice (some ⟨g', 0, none⟩) n' cap')) (.slice (some ⟨g', 0, none⟩) n' cap') (addR out (fr, q - fr)) :=
          go3.same fun g o hg ho => (Below.heap_setCell _ _ _ _ (by have := (go3.block g hg).1; simp; omega)).trans ho
        have kb := ib.setCell (p := ⟨m, 0, none⟩) (by simp; omega) (.slice (some ⟨g', 0, none⟩) n' cap')
        have kz : m + 5 ≤ (W3.setCell ⟨m, 0, none⟩ (.slice (some ⟨g', 0, none⟩) n' cap')).heap.size := by simpa [World.setCell] using iz
        have kpz : p ≤ (W3.setCell ⟨m, 0, none⟩ (.slice (some ⟨g', 0, none⟩) n' cap')).heap.size := by simpa [World.setCell] using ipz
        have bk4 := bk3.trans (BK.setCell (p := ⟨m, 0, none⟩) (.slice (some ⟨g', 0, none⟩) n' cap') j9c (by
          intro h
          rcases h with h | h
          · have := HSL.out _ h; simp at this; omega
          · simp at h; omega))
        generalize W3.setCell ⟨m, 0, none⟩ (.slice (some ⟨g', 0, none⟩) n' cap') = W5 at k9 k10 k11 k5 k13 ko kb kz kpz bk4 ⊢
        clear i9 i10 i11 i5 i13 ib iz ipz bk3 j9f j9c go3 tb
        all_goals
          refine (HTK.out fa fb _).mono ?_
          rintro e W9 ⟨rfl, rfl⟩
          have c10 := k10.cell
          have f10 := k10.frozen
          have f11 := k11.frozen
          have c11 := k11.cell
          have BB := Lib.hid (bk4)
          have G9' := Lib.hid k9
          have G10' := Lib.hid k10
          have G11' := Lib.hid k11
          have G5' := Lib.hid k5
          have GO' := Lib.hid ko
          have GB' := Lib.hid kb
          have GZ' := Lib.hid kz
          gi_wp2
          refine ⟨?_, (.slice (some ⟨g', 0, none⟩) n' cap'), ?_, ?_, ?_, ?_, ?_, ?_, ?_⟩
          · refine BB.out.trans ((BK.setCell (p := ⟨m + 1, 0, none⟩) _ c10 ?_).trans (BK.setCell (p := ⟨m + 2, 0, none⟩) (u := .bool true) _ ?_ ?_))
            · intro h
              rcases h with h | h
              · have := HSL.out _ h; simp at this; omega
              · simp at h; omega
            · exact (World.cell?_setCell_other _ _ _ _ (fun e => by simp at e)).trans c11
            · intro h
              rcases h with h | h
              · have := HSL.out _ h; simp at this; omega
              · simp at h; omega
          · exact (G9'.out.setOther (p := ⟨m + 1, 0, none⟩) (by simp)).setOther (p := ⟨m + 2, 0, none⟩) (by simp)
          · rw [HNX.out]
            exact Boxed.setOther (p := ⟨m + 2, 0, none⟩) (Blk.set_ (G10'.out) 0 _) (by simp)
          · rw [HNX.out]
            exact Blk.set_ (G11'.out.setOther (p := ⟨m + 1, 0, none⟩) (by simp)) 0 _
          · exact (G5'.out.setOther (p := ⟨m + 1, 0, none⟩) (by simp; omega)).setOther (p := ⟨m + 2, 0, none⟩) (by simp; omega)
          · rw [HNX.out]
            exact GO'.out.same fun g o hg ho => (Below.heap_setCell _ _ _ _ (by have := (GO'.out.block g hg).1; simp; omega)).trans ((Below.heap_setCell _ _ _ _ (by have := (GO'.out.block g hg).1; simp; omega)).trans ho)
          · exact (GB'.out.setCell (by simp; omega) _).setCell (by simp; omega) _
          · simpa [World.setCell] using GZ'.out
    case done =>
      rintro p D W ⟨v, h9, h10, h11, h5, ho, hbw, hsz⟩ hD hD2 hp hK
      have h9c := h9.cell
      rw [HO.out] at ho
      clear y9 y10 y11 x3 B3 it3 b2
      gi_wp2
      refine post_mark hK (fun w' => results_tmp2 rfl _ _ w') ⟨_, rfl, (ho.chg (Chg.putObj (B := 0) hK rfl (Nat.zero_le _)) (fun _ _ t => t)).base_le (by omega), below_putObj hbw (by omega) _⟩
  · rw [if_neg he]
    have hne : (rerr [a, b] != 0) = true := by simp [he]
    clear he ha hb htk ht HTK HT
    generalize rerr [a, b] = re at *
    go_enter Try.func42, Try.ntmps42
    go_wp2_with fail
    have b1 : Below w.heap.size w (w.alloc (.cells #[.func (.func gt) #[] #[]] 73)) := (Below.refl _ _).alloc (Nat.le_refl _) _
    refine (RT.out _ b1 _ (World.size_alloc _ _)).mono ?_
    rintro e w2 ⟨rfl, b2⟩
    have b3 := b1.trans (b2.mono (by simp))
    go_wp2
    go_ret2
    exact ⟨_, rfl, OV.nil _ _, b3⟩
end Go.Proofs.Ytofjgcbjpmgkdaa
