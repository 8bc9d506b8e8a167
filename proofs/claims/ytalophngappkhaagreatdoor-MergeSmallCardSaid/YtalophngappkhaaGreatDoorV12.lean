/- package seq: borders, both | package seq: Union, Common, Without, Missing, First, Count | package seq: Count, Has | slices.Values, slices.Sorted; plain laws for package seq's Of. -/
import Derived.Test.YtalophngappkhaaGreatDoorV11
import Derived.Test.YtalophngappkhaaGreatDoorV3
set_option linter.unusedVariables false
set_option linter.unusedSimpArgs false
set_option linter.unusedSectionVars false
namespace Go.Proofs.YtalophngappkhaaGreatDoor
open Go.RowKit Go.Shelf
attribute [local go_sem] Oper.semAt_some

set_option maxHeartbeats 400000 in
theorem borders_ok (w : World) (A B : Option Addr) (n c m d : Nat) :
  CallsIn W0 0 Tryz.prog 97 #[.slice A n c, .slice B m d] w fun e w' => e = .returned (.func (.func 122) #[] #[.pointer (some ⟨w.heap.size, 0, none⟩), .pointer (some ⟨w.heap.size + 1, 0, none⟩)]) ∧
   (w.alloc (Obj.cells #[.slice A n c] 35)).alloc (Obj.cells #[.slice B m d] 35) = w' := by
 have hd0 : W0.depth = none := rfl
 have hfn : ∀ f, W0.fn f := fun _ => trivial
 refine callsIn_of_wp Tryz.func97 rfl trivial ?_ rfl
 simp only [Tryz.ntmps97, List.size_toArray, List.length_cons, List.length_nil, Nat.reduceAdd, Nat.reduceSub, Array.replicate_succ, Array.replicate_zero, List.push_toArray, List.append_toArray, List.nil_append, List.cons_append]
 gi_wp2
 go_ret
 exact ⟨rfl, rfl⟩

theorem rerr_two {a b : List (Int × Int)} : rerr [a, b] = 0 ↔ rightB a = true ∧ rightB b = true := by unfold rerr; simp

theorem own_cells {e : TypeId} {base : Nat} {w : World} {v : Value} {xs : List (Int × Int)} (h : OV encP 2 e base w v xs) {g : Nat} (hg : v.ownBlock = some g) : ∃ o, w.heap[g]? = some o ∧ isBook o = false := by
 rcases h.2 with ⟨rfl, _⟩ | ⟨g', cap, cur, rfl, _, hh, _⟩
 ·simp [Value.ownBlock] at hg
 ·simp [Value.ownBlock] at hg; subst hg; exact ⟨_, hh, rfl⟩
theorem own_ne_bool {base : Nat} {w : World} {v : Value} {xs : List (Int × Int)} (h : OV encP 2 34 base w v xs) {g : Nat} (hg : v.ownBlock = some g) {cs : Array Value} (hb : w.heap[g]? = some (.cells cs 163 (0, 0))) : False := by
 rcases h.2 with ⟨rfl, _⟩ | ⟨g', cap, cur, rfl, _, hh, _⟩
 ·simp [Value.ownBlock] at hg
 ·simp [Value.ownBlock] at hg; subst hg; rw [hh] at hb; simp at hb

set_option maxRecDepth 100000 in
set_option maxHeartbeats 4000000 in
theorem both_ok (w : World) (va vb : Value) (a b : List (Int × Int)) (gt : Nat) (tk : Bool → Bool → Bool) (ha : EV encP 2 w va a) (hb : EV encP 2 w vb b) (la : a.length ≤ 100000000) (lb : b.length ≤ 100000000)
  (eg : ∀ args w, (callFunc gt args).run Tryz.prog w = .ok (.enter gt args) w) (htk : ∀ (x y : Bool) (W : World), Calls Tryz.prog gt #[.bool x, .bool y] W fun e W' => e = .returned (.bool (tk x y)) ∧ W = W') (ht : tk false false = false) :
  Calls Tryz.prog 68 #[va, vb, .func (.func gt) #[] #[]] w fun e w' => ∃ r, e = .returned (.tuple #[r, .int .i64 (rerr [a, b])]) ∧ OV encP 2 34 w.heap.size w' r (if rerr [a, b] = 0 then bothL tk a b else []) ∧ Below w.heap.size w w' := by
 obtain ⟨Aa, xa, rfl⟩ := ha.shape
 obtain ⟨Ab, xb, rfl⟩ := hb.shape
 have HA := Lib.hid ha
 have HB := Lib.hid hb
 have HTK := Lib.hid (fun x y W => in_of (htk x y W))
 have HT := Lib.hid ht
 have RT := Lib.hid (fun (w1 : World) (h : Below w.heap.size w w1) (m : Nat) (hm : w1.heap.size = m) => hm ▸ right_two w1 _ _ a b (ha.below h) (hb.below h) (by omega) (by omega))
 by_cases he : rerr [a, b] = 0
 ·rw [if_pos he]
  obtain ⟨hra, hrb⟩ := rerr_two.1 he
  obtain ⟨hla, hca⟩ := right_iff.1 hra
  obtain ⟨hlb, hcb⟩ := right_iff.1 hrb
  have HCA := Lib.hid hca
  have HCB := Lib.hid hcb
  rw [he] at RT ⊢
  have BN := Lib.hid (boN_spec hca hcb)
  have BK_ := Lib.hid (boIt_ok ht hca hcb)
  have HO := Lib.hid (show (boIt tk (st0 a b) (boN a b)).out = bothL tk a b from rfl)
  clear he hra hrb hca hcb ha hb htk ht
  refine of_in ?_
  have hfn : ∀ f, W0.fn f := fun _ => trivial
  have hd0 : W0.depth = none := rfl
  refine callsIn_of_wp_marks Tryz.func68 rfl trivial ?_ rfl
  simp only [Tryz.ntmps68, List.size_toArray, List.length_cons, List.length_nil, Nat.reduceAdd, Nat.reduceSub, Array.replicate_succ, Array.replicate_zero, List.push_toArray, List.append_toArray, List.nil_append, List.cons_append]
  gi_wp2
  have b1 : Below w.heap.size w (w.alloc (.cells #[.func (.func gt) #[] #[]] 128)) := (Below.refl _ _).alloc (Nat.le_refl _) _
  have x1 : Boxed (w.alloc (.cells #[.func (.func gt) #[] #[]] 128)) w.heap.size 128 (.func (.func gt) #[] #[]) := Boxed.new _ _ _
  have z1 : (w.alloc (.cells #[.func (.func gt) #[] #[]] 128)).heap.size = w.heap.size + 1 := World.size_alloc _ _
  generalize w.alloc (.cells #[.func (.func gt) #[] #[]] 128) = w1 at b1 x1 z1 ⊢
  refine (in_of (RT.out w1 b1 _ z1)).mono ?_
  rintro e w2 ⟨rfl, b2⟩
  rw [← z1] at b2
  have x2 := x1.below b2
  have s2 := b2.size
  have b2 := b1.trans (b2.mono b1.size)
  have hb5 : w.heap.size < w2.heap.size := by omega
  clear RT x1 b1 z1
  gi_wp2
  refine (borders_ok _ _ _ _ _ _ _).mono ?_
  rintro e w3 ⟨rfl, hw3⟩
  obtain ⟨m, hm⟩ : ∃ m, w2.heap.size = m := ⟨_, rfl⟩
  have hz3 : w3.heap.size = m + 5 := by rw [← hw3, ← hm]; simp
  have b3 : Below w2.heap.size w2 w3 := by rw [← hw3]; exact (((((Below.refl _ _).alloc (Nat.le_refl _) _).alloc (by simp) _).alloc (by simp; omega) _).alloc (by simp; omega) _).alloc (by simp; omega) _
  have y9 : Boxed w3 m 35 (.slice none 0 0) := by rw [← hw3, ← hm]; exact ((((Boxed.new _ _ _).alloc _).alloc _).alloc _).alloc _
  have y10 : Boxed w3 (m + 1) 3 (.int .i64 0) := by
   rw [← hw3, ← hm]
   have := Boxed.new (w2.alloc (.cells #[.slice none 0 0] 35)) 3 (.int .i64 0)
   rw [World.size_alloc] at this
   exact ((this.alloc _).alloc _).alloc _
  have y11 : Boxed w3 (m + 2) 4 (.bool false) := by
   rw [← hw3, ← hm]
   have := Boxed.new ((w2.alloc (.cells #[.slice none 0 0] 35)).alloc (.cells #[.int .i64 0] 3)) 4 (.bool false)
   rw [World.size_alloc, World.size_alloc] at this
   exact (this.alloc _).alloc _
  have yA : Boxed w3 (m + 3) 35 (.slice Aa a.length xa) := by
   rw [← hw3, ← hm]
   have := Boxed.new (((w2.alloc (.cells #[.slice none 0 0] 35)).alloc (.cells #[.int .i64 0] 3)).alloc (.cells #[.bool false] 4)) 35 (.slice Aa a.length xa)
   rw [World.size_alloc, World.size_alloc, World.size_alloc] at this
   exact this.alloc _
  have yB : Boxed w3 (m + 4) 35 (.slice Ab b.length xb) := by
   rw [← hw3, ← hm]
   have := Boxed.new ((((w2.alloc (.cells #[.slice none 0 0] 35)).alloc (.cells #[.int .i64 0] 3)).alloc (.cells #[.bool false] 4)).alloc (.cells #[.slice Aa a.length xa] 35)) 35 (.slice Ab b.length xb)
   rw [World.size_alloc, World.size_alloc, World.size_alloc, World.size_alloc] at this
   exact this
  have x3 := x2.below b3
  have B3 := b2.trans (b3.mono b2.size)
  simp only [World.size_alloc, Nat.add_assoc, Nat.reduceAdd]
  rw [hm]
  rw [hm] at hb5
  have it3 := borders_iter w3 (m + 3) (m + 4) _ _ a b HCA.out HCB.out yA.cell yB.cell (HA.out.below B3) (HB.out.below B3) la lb
  have rowA : ∀ k o n c, a ≠ [] → Value.slice Aa a.length xa = .slice (some ⟨k, o, none⟩) n c → k < w.heap.size := fun k o n c h1 h2 => by
   obtain ⟨b', o', c', hv, _, r⟩ := HA.out.row (by cases a with | nil => exact absurd rfl h1 | cons r l => simp)
   rw [hv] at h2
   simp only [Value.slice.injEq, Option.some.injEq, Addr.mk.injEq, and_true] at h2
   rw [← h2.1.1]
   exact r.lt (by cases a with | nil => exact absurd rfl h1 | cons r l => simp) (fun _ => by simp [encP_len])
  have rowB : ∀ k o n c, b ≠ [] → Value.slice Ab b.length xb = .slice (some ⟨k, o, none⟩) n c → k < w.heap.size := fun k o n c h1 h2 => by
   obtain ⟨b', o', c', hv, _, r⟩ := HB.out.row (by cases b with | nil => exact absurd rfl h1 | cons r l => simp)
   rw [hv] at h2
   simp only [Value.slice.injEq, Option.some.injEq, Addr.mk.injEq, and_true] at h2
   rw [← h2.1.1]
   exact r.lt (by cases b with | nil => exact absurd rfl h1 | cons r l => simp) (fun _ => by simp [encP_len])
  obtain ⟨S, hS⟩ : ∃ S, S = bordS (m + 3) (m + 4) (.slice Aa a.length xa) (.slice Ab b.length xb) a b := ⟨_, rfl⟩
  have HSL := Lib.hid (show ∀ k, S k → k < w.heap.size ∨ k = m + 3 ∨ k = m + 4 from fun k h => by
   rw [hS] at h
   rcases h with h | h | ⟨h0, o, n, c, h⟩ | ⟨h0, o, n, c, h⟩
   ·exact .inr (.inl h)
   ·exact .inr (.inr h)
   ·exact .inl (rowA _ _ _ _ h0 h)
   ·exact .inl (rowB _ _ _ _ h0 h))
  rw [← hS] at it3
  have HM := Lib.hid hm
  have HZ3 := Lib.hid hz3
  clear hw3 b2 b3 x2 yA yB rowA rowB hS hm hz3
  gi_wp2
  have hsw : w.heap.size ≤ w3.heap.size := B3.size
  refine wp_rangeP (xs := fun k => #[.int .i64 ((st0 a b).it k).q, .agg #[.bool ((st0 a b).it (k + 1)).a, .bool ((st0 a b).it (k + 1)).b]]) rfl (enters_of Tryz.func122 (by kernel_rfl) rfl) it3
   (fun k e => e.elim) (fun k e => by have := HSL.out k e; have := HZ3.out; omega) (fun k => rfl)
   (fun p k W => ∃ v, Boxed W m 35 v ∧ Boxed W (m + 1) 3 (.int .i64 (boIt tk (st0 a b) k).from_) ∧ Boxed W (m + 2) 4 (.bool (boIt tk (st0 a b) k).tk) ∧ Boxed W w.heap.size 128 (.func (.func gt) #[] #[]) ∧
    OV encP 2 34 p W v (boIt tk (st0 a b) k).out ∧ Below w.heap.size w W ∧ m + 5 ≤ W.heap.size) (fun _ _ _ => False)
   (fun p k W1 W2 h hc => ?stab) (fun _ _ _ _ h _ => h) (fun p => ⟨_, y9, y10, y11, x3, OV.nil _ _, B3, by have := HZ3.out; omega⟩) ?round ?done (fun _ _ _ _ h => h.elim)
  case stab =>
   obtain ⟨v, h9, h10, h11, h5, ho, hbw, hsz⟩ := h
   have hz := HZ3.out
   have nt : ∀ i, i < w3.heap.size → ¬ (False ∨ (w3.heap.size + 2 ≤ i ∧ i < p)) := fun i hi t => t.elim (fun t => t) (fun t => by omega)
   exact ⟨v, h9.chg hc (nt _ (by omega)), h10.chg hc (nt _ (by omega)), h11.chg hc (nt _ (by omega)), h5.chg hc (nt _ (by omega)), ho.chg hc (fun g hg t => by
     have := (ho.block g hg).1
     exact Or.elim (show False ∨ (w3.heap.size + 2 ≤ g ∧ g < p) from t) (fun t => t) (fun t => by omega)),
    hc.below hbw (Nat.le_refl _) hsw (fun k e => by
     exact Or.elim (show False ∨ (w3.heap.size + 2 ≤ k ∧ k < p) from e) (fun t => t.elim) (fun t => by omega)), Nat.le_trans hsz hc.size⟩
  case round =>
   rintro p l k W hk hl hl2 hp1 hp2 ⟨v, h9, h10, h11, h5, ho, hbw, hsz⟩
   clear y9 y10 y11 x3 B3 it3 b2
   have hz3 := HZ3.out
   rw [hz3] at hp1 hl hsw
   gi_wp2
   refine ⟨BK.alloc _, fun W2 hc hq => ?_⟩
   clear hq
   have hc0 : Chg w3.heap.size (fun _ => False) W (W.alloc (.cells #[.bool ((st0 a b).it (k + 1)).a, .bool ((st0 a b).it (k + 1)).b] 163)) := Chg.of_mod (Mod.alloc _)
   have h13 : W2.heap[W.heap.size]? = some (.cells #[.bool ((st0 a b).it (k + 1)).a, .bool ((st0 a b).it (k + 1)).b] 163 (0, 0)) := hc.cells (heap_alloc_new W _) (fun t => t)
   have hcc := hc0.trans hc
   have g9 := h9.chg hcc (fun t => t)
   have g10 := h10.chg hcc (fun t => t)
   have g11 := h11.chg hcc (fun t => t)
   have g5 := h5.chg hcc (fun t => t)
   have go := ho.chg hcc (fun _ _ t => t)
   have gb := hcc.below hbw (Nat.le_refl _) (by rw [hz3]; omega) (fun k t => t.elim)
   have gz : m + 5 ≤ W2.heap.size := Nat.le_trans hsz hcc.size
   have gz2 : W.heap.size < W2.heap.size := (Array.getElem?_eq_some_iff.1 h13).1
   have hpz : p ≤ W2.heap.size := by omega
   have BO := Lib.hid (BK_.out k (by omega))
   have hemp := BN.out.2.1 k hk
   have hq := St.q_gt BO.out.ok BO.out.hi hemp
   have hlo := BO.out.lo
   have hln := boIt_len (take := tk) (st0 a b) k
   have hN := BN.out.2.2
   have HNX := Lib.hid (show boIt tk (st0 a b) (k + 1) = boStep tk (boIt tk (st0 a b) k) ((st0 a b).it k).q ((st0 a b).it (k + 1)).a ((st0 a b).it (k + 1)).b from rfl)
   have HCAN := Lib.hid BO.out.can
   have hends := BO.out.ends
   clear hc hc0 hcc h9 h10 h11 h5 ho hbw BO hemp hsz BK_ BN HO
   generalize boIt tk (st0 a b) k = o at *
   generalize ((st0 a b).it k).q = q at *
   generalize ((st0 a b).it (k + 1)).a = fa at *
   generalize ((st0 a b).it (k + 1)).b = fb at *
   obtain ⟨out, fr, tkk⟩ := o
   dsimp only at *
   cases tkk with
   | false =>
    all_goals
     have c10 := g10.cell
     have f10 := g10.frozen
     have f11 := g11.frozen
     have c5 := g5.cell
     have k0 := cell_of_row W2 W.heap.size 0 _ _ (0, 0) h13
     have k1 := cell_of_row W2 W.heap.size 1 _ _ (0, 0) h13
     have k0 := k0.trans rfl
     have k1 := k1.trans rfl
     have c11 := g11.cell
     gi_wp2
     refine (HTK.out fa fb _).mono ?_
     rintro e W9 ⟨rfl, rfl⟩
     have c10 := g10.cell
     have f10 := g10.frozen
     have f11 := g11.frozen
     have c11 := g11.cell
     have BB := Lib.hid (BK.refl (fun b => S b ∨ (w3.heap.size + 2 ≤ b ∧ b < p)) W2)
     have G9' := Lib.hid g9
     have G10' := Lib.hid g10
     have G11' := Lib.hid g11
     have G5' := Lib.hid g5
     have GO' := Lib.hid go
     have GB' := Lib.hid gb
     have GZ' := Lib.hid gz
     gi_wp2
     refine ⟨?_, v, ?_, ?_, ?_, ?_, ?_, ?_, ?_⟩
     ·refine BB.out.trans ((BK.setCell (p := ⟨m + 1, 0, none⟩) _ c10 ?_).trans (BK.setCell (p := ⟨m + 2, 0, none⟩) (u := .bool false) _ ?_ ?_))
      ·intro h
       rcases h with h | h
       ·have := HSL.out _ h; simp at this; omega
       ·simp at h; omega
      ·exact (World.cell?_setCell_other _ _ _ _ (fun e => by simp at e)).trans c11
      ·intro h
       rcases h with h | h
       ·have := HSL.out _ h; simp at this; omega
       ·simp at h; omega
     ·exact (G9'.out.setOther (p := ⟨m + 1, 0, none⟩) (by simp)).setOther (p := ⟨m + 2, 0, none⟩) (by simp)
     ·rw [HNX.out]
      exact Boxed.setOther (p := ⟨m + 2, 0, none⟩) (Blk.set_ (G10'.out) 0 _) (by simp)
     ·rw [HNX.out]
      exact Blk.set_ (G11'.out.setOther (p := ⟨m + 1, 0, none⟩) (by simp)) 0 _
     ·exact (G5'.out.setOther (p := ⟨m + 1, 0, none⟩) (by simp; omega)).setOther (p := ⟨m + 2, 0, none⟩) (by simp; omega)
     ·rw [HNX.out]
      exact GO'.out.same fun g o hg ho => (Below.heap_setCell _ _ _ _ (by have := (GO'.out.block g hg).1; simp; omega)).trans ((Below.heap_setCell _ _ _ _ (by have := (GO'.out.block g hg).1; simp; omega)).trans ho)
     ·exact (GB'.out.setCell (by simp; omega) _).setCell (by simp; omega) _
     ·simpa [World.setCell] using GZ'.out
   | true =>
    have c9 := g9.cell
    have c10 := g10.cell
    have c11 := g11.cell
    have hsp := addR_len out (fr, q - fr)
    have hpos : 0 < (addR out (fr, q - fr)).length := by
     rcases List.eq_nil_or_concat out with h | ⟨l', s, h⟩
     ·rw [h]; simp [addR]
     ·rw [h, List.concat_eq_append, addR_snoc]; split <;> simp
    have d1 : 0 ≤ q - fr := by omega
    have d2 : q - fr ≤ 281474976710657 := by omega
    gi_wp2
    refine (in_of (add_ok W2 v out fr (q - fr) p go HCAN.out (by omega) hpz (by omega) (by omega) (by omega) (by omega))).mono ?_
    rintro e W3 ⟨v', rfl, go3, hmod⟩
    obtain ⟨g', cap', hv', -, -⟩ := go3.form hpos
    obtain ⟨n', hn'⟩ : ∃ n, (addR out (fr, q - fr)).length = n := ⟨_, rfl⟩
    rw [hn'] at hv'
    have hob : ∀ x, v.ownBlock = some x → p ≤ x ∧ x < W2.heap.size := fun x hx => go.block x hx
    have tb : ∀ x, x < p → ¬ v.ownBlock = some x := fun x hx h => by have := hob x h; omega
    have i9 := g9.mod hmod (tb _ (by omega))
    have i10 := g10.mod hmod (tb _ (by omega))
    have i11 := g11.mod hmod (tb _ (by omega))
    have i5 := g5.mod hmod (tb _ (by omega))
    have i13 : W3.heap[W.heap.size]? = some (.cells #[.bool fa, .bool fb] 163 (0, 0)) := by
     by_cases hw : v.ownBlock = some W.heap.size
     ·exfalso
      exact own_ne_bool go hw h13
     ·exact (hmod.block _ gz2 hw).trans h13
    have ib := gb.trans (hmod.below (B := w.heap.size) (fun x hx => tb x (by omega)) gb.size)
    have iz := Nat.le_trans gz hmod.size
    have ipz := Nat.le_trans hpz hmod.size
    have bk3 : BK (fun b => S b ∨ (w3.heap.size + 2 ≤ b ∧ b < p)) W2 W3 := BK.of_mod hmod fun x hx h => ⟨fun hs => by
      have := hob x h
      rcases hs with hs | hs
      ·have := HSL.out _ hs; omega
      ·omega, own_cells go h⟩
    have j9f := i9.frozen
    have j9c := i9.cell
    clear c9 c10 c11 g9 g10 g11 g5 go gb gz h13 hmod hn' hob
    subst hv'
    have j5c := i5.cell
    have k0 := cell_of_row W3 W.heap.size 0 _ _ (0, 0) i13
    have k1 := cell_of_row W3 W.heap.size 1 _ _ (0, 0) i13
    have k0 := k0.trans rfl
    have k1 := k1.trans rfl
    have hn1 : ¬ w.heap.size = m := by omega
    have hn2 : ¬ W.heap.size = m := by omega
    have hn3 : ¬ m = w.heap.size := by omega
    have hn4 : ¬ m = W.heap.size := by omega
    gi_wp2
    have k9 : Boxed (W3.setCell ⟨m, 0, none⟩ (.slice (some ⟨g', 0, none⟩) n' cap')) m 35 (.slice (some ⟨g', 0, none⟩) n' cap') := Blk.set_ i9 0 _
    have k10 := i10.setOther (p := ⟨m, 0, none⟩) (u := .slice (some ⟨g', 0, none⟩) n' cap') (by simp)
    have k11 := i11.setOther (p := ⟨m, 0, none⟩) (u := .slice (some ⟨g', 0, none⟩) n' cap') (by simp)
    have k5 := i5.setOther (p := ⟨m, 0, none⟩) (u := .slice (some ⟨g', 0, none⟩) n' cap') (by simp; omega)
    have k13 := (Below.heap_setCell W3 ⟨m, 0, none⟩ (.slice (some ⟨g', 0, none⟩) n' cap') W.heap.size (by simp; omega)).trans i13
    have ko : OV encP 2 34 p (W3.setCell ⟨m, 0, none⟩ (.slice (some ⟨g', 0, none⟩) n' cap')) (.slice (some ⟨g', 0, none⟩) n' cap') (addR out (fr, q - fr)) :=
     go3.same fun g o hg ho => (Below.heap_setCell _ _ _ _ (by have := (go3.block g hg).1; simp; omega)).trans ho
    have kb := ib.setCell (p := ⟨m, 0, none⟩) (by simp; omega) (.slice (some ⟨g', 0, none⟩) n' cap')
    have kz : m + 5 ≤ (W3.setCell ⟨m, 0, none⟩ (.slice (some ⟨g', 0, none⟩) n' cap')).heap.size := by simpa [World.setCell] using iz
    have kpz : p ≤ (W3.setCell ⟨m, 0, none⟩ (.slice (some ⟨g', 0, none⟩) n' cap')).heap.size := by simpa [World.setCell] using ipz
    have bk4 := bk3.trans (BK.setCell (p := ⟨m, 0, none⟩) (.slice (some ⟨g', 0, none⟩) n' cap') j9c (by
     intro h
     rcases h with h | h
     ·have := HSL.out _ h; simp at this; omega
     ·simp at h; omega))
    generalize W3.setCell ⟨m, 0, none⟩ (.slice (some ⟨g', 0, none⟩) n' cap') = W5 at k9 k10 k11 k5 k13 ko kb kz kpz bk4 ⊢
    clear i9 i10 i11 i5 i13 ib iz ipz bk3 j9f j9c go3 tb
    all_goals
     refine (HTK.out fa fb _).mono ?_
     rintro e W9 ⟨rfl, rfl⟩
     have c10 := k10.cell
     have f10 := k10.frozen
     have f11 := k11.frozen
     have c11 := k11.cell
     have BB := Lib.hid (bk4)
     have G9' := Lib.hid k9
     have G10' := Lib.hid k10
     have G11' := Lib.hid k11
     have G5' := Lib.hid k5
     have GO' := Lib.hid ko
     have GB' := Lib.hid kb
     have GZ' := Lib.hid kz
     gi_wp2
     refine ⟨?_, (.slice (some ⟨g', 0, none⟩) n' cap'), ?_, ?_, ?_, ?_, ?_, ?_, ?_⟩
     ·refine BB.out.trans ((BK.setCell (p := ⟨m + 1, 0, none⟩) _ c10 ?_).trans (BK.setCell (p := ⟨m + 2, 0, none⟩) (u := .bool true) _ ?_ ?_))
      ·intro h
       rcases h with h | h
       ·have := HSL.out _ h; simp at this; omega
       ·simp at h; omega
      ·exact (World.cell?_setCell_other _ _ _ _ (fun e => by simp at e)).trans c11
      ·intro h
       rcases h with h | h
       ·have := HSL.out _ h; simp at this; omega
       ·simp at h; omega
     ·exact (G9'.out.setOther (p := ⟨m + 1, 0, none⟩) (by simp)).setOther (p := ⟨m + 2, 0, none⟩) (by simp)
     ·rw [HNX.out]
      exact Boxed.setOther (p := ⟨m + 2, 0, none⟩) (Blk.set_ (G10'.out) 0 _) (by simp)
     ·rw [HNX.out]
      exact Blk.set_ (G11'.out.setOther (p := ⟨m + 1, 0, none⟩) (by simp)) 0 _
     ·exact (G5'.out.setOther (p := ⟨m + 1, 0, none⟩) (by simp; omega)).setOther (p := ⟨m + 2, 0, none⟩) (by simp; omega)
     ·rw [HNX.out]
      exact GO'.out.same fun g o hg ho => (Below.heap_setCell _ _ _ _ (by have := (GO'.out.block g hg).1; simp; omega)).trans ((Below.heap_setCell _ _ _ _ (by have := (GO'.out.block g hg).1; simp; omega)).trans ho)
     ·exact (GB'.out.setCell (by simp; omega) _).setCell (by simp; omega) _
     ·simpa [World.setCell] using GZ'.out
  case done =>
   rintro p D W ⟨v, h9, h10, h11, h5, ho, hbw, hsz⟩ hD hD2 hp hK
   have h9c := h9.cell
   rw [HO.out] at ho
   clear y9 y10 y11 x3 B3 it3 b2
   gi_wp2
   refine post_mark hK (fun w' => results_tmp2 rfl _ _ w') ⟨_, rfl, (ho.chg (Chg.putObj (B := 0) hK rfl (Nat.zero_le _)) (fun _ _ t => t)).base_le (by omega), below_putObj hbw (by omega) _⟩
 ·rw [if_neg he]
  have hne : (rerr [a, b] != 0) = true := by simp [he]
  clear he ha hb htk ht HTK HT
  generalize rerr [a, b] = re at *
  go_enter Tryz.func68, Tryz.ntmps68
  go_wp2_with fail
  have b1 : Below w.heap.size w (w.alloc (.cells #[.func (.func gt) #[] #[]] 128)) := (Below.refl _ _).alloc (Nat.le_refl _) _
  refine (RT.out _ b1 _ (World.size_alloc _ _)).mono ?_
  rintro e w2 ⟨rfl, b2⟩
  have b3 := b1.trans (b2.mono (by simp))
  go_wp2
  go_ret2
  exact ⟨_, rfl, OV.nil _ _, b3⟩
end Go.Proofs.YtalophngappkhaaGreatDoor
namespace Go.Proofs.YtalophngappkhaaGreatDoor
open Go.RowKit Go.Shelf

def tkU (a b : Bool) : Bool := a || b
def tkW (a b : Bool) : Bool := a && !b
theorem without_tk (x y : Bool) (W : World) : Calls Tryz.prog 117 #[.bool x, .bool y] W fun e W' => e = .returned (.bool (tkW x y)) ∧ W = W' := by
 cases x <;> cases y
 all_goals
  go_enter Tryz.func117, Tryz.ntmps117
  go_wp2
  go_ret
  exact ⟨rfl, rfl⟩
set_option maxHeartbeats 400000 in
theorem without_ok (w : World) (va vb : Value) (a b : List (Int × Int)) (ha : EV encP 2 w va a) (hb : EV encP 2 w vb b) (la : a.length ≤ 100000000) (lb : b.length ≤ 100000000) :
  Calls Tryz.prog 91 #[va, vb] w fun e w' => ∃ r, e = .returned (.tuple #[r, .int .i64 (rerr [a, b])]) ∧ OV encP 2 34 w.heap.size w' r (if rerr [a, b] = 0 then bothL tkW a b else []) ∧ Below w.heap.size w w' := by
 have H := Lib.hid (both_ok w va vb a b 117 tkW ha hb la lb (enters_of Tryz.func117 (by kernel_rfl) rfl) without_tk rfl)
 generalize (if rerr [a, b] = 0 then bothL tkW a b else []) = res at H ⊢
 clear ha hb
 go_enter Tryz.func91, Tryz.ntmps91
 go_wp2_with fail
 refine H.out.mono ?_
 rintro e w' ⟨r, rfl, ho, hb⟩
 clear H
 go_wp2
 go_ret2
 exact ⟨_, rfl, ho, hb⟩

/-- The error of what is missing between two numbers. -/
def missE (l : List (Int × Int)) (f n : Int) : Int := if rerr [l] ≠ 0 then 90 else if f < 1 ∨ n < f ∨ 281474976710657 < n then 2 else 0
def missL (l : List (Int × Int)) (f n : Int) : List (Int × Int) := if missE l f n ≠ 0 then [] else if f = n then [] else bothL tkW [(f, n - f)] l
theorem rerr_one {l : List (Int × Int)} : rerr [l] = if rightB l then 0 else 90 := by unfold rerr; simp
theorem rerr_vals (ls : List (List (Int × Int))) : rerr ls = 0 ∨ rerr ls = 90 := by unfold rerr; split <;> simp
theorem right_span {f n : Int} (h1 : 1 ≤ f) (h2 : f < n) (h3 : n ≤ 281474976710657) : rightB [(f, n - f)] = true :=
 right_iff.2 ⟨by simp, can_cons.2 ⟨by show 0 < f; omega, rok_iff.2 ⟨h1, by show f ≤ _; omega, by show 1 ≤ n - f; omega, by show n - f ≤ _ - f; omega⟩, can_nil _⟩⟩

set_option maxHeartbeats 1000000 in
theorem missing_ok (w : World) (v : Value) (l : List (Int × Int)) (f n : Int) (hv : EV encP 2 w v l) (hlen : l.length ≤ 100000000) :
  Calls Tryz.prog 57 #[v, .int .i64 f, .int .i64 n] w fun e w' => ∃ r, e = .returned (.tuple #[r, .int .i64 (missE l f n)]) ∧ OV encP 2 34 w.heap.size w' r (missL l f n) ∧ Below w.heap.size w w' := by
 obtain ⟨A, c, rfl⟩ := hv.shape
 have RT := Lib.hid (right_one w _ l hv (by omega))
 have HV := Lib.hid hv
 have HE := Lib.hid (show missE l f n = if rerr [l] ≠ 0 then 90 else if f < 1 ∨ n < f ∨ 281474976710657 < n then 2 else 0 from rfl)
 have HL := Lib.hid (show missL l f n = if missE l f n ≠ 0 then [] else if f = n then [] else bothL tkW [(f, n - f)] l from rfl)
 by_cases he : rerr [l] = 0
 ·rw [he, if_neg (by simp)] at HE
  rw [he] at RT
  have hr : rightB l = true := by rw [rerr_one] at he; cases h : rightB l with
   | true => rfl
   | false => rw [h] at he; simp at he
  have HR := Lib.hid hr
  clear hr he hv
  by_cases hbad : f < 1 ∨ n < f ∨ 281474976710657 < n
  ·rw [if_pos hbad] at HE
   rw [HE.out, if_pos (by simp)] at HL
   rw [HE.out, HL.out]
   clear HE HL
   rcases (by omega : f < 1 ∨ (¬ f < 1 ∧ n < f) ∨ (¬ f < 1 ∧ ¬ n < f ∧ 281474976710657 < n)) with h | ⟨h, h2⟩ | ⟨h, h2, h3⟩
   all_goals
    clear hbad
    go_enter Tryz.func57, Tryz.ntmps57
    go_wp2_with fail
    refine RT.out.mono ?_
    rintro e w1 ⟨rfl, b1⟩
    go_wp2
    go_ret2
    exact ⟨_, rfl, OV.nil _ _, b1⟩
  ·rw [if_neg hbad] at HE
   rw [HE.out, if_neg (by simp)] at HL
   rw [HE.out]
   have h1 : ¬ f < 1 := fun h => hbad (.inl h)
   have h2 : ¬ n < f := fun h => hbad (.inr (.inl h))
   have h3 : ¬ 281474976710657 < n := fun h => hbad (.inr (.inr h))
   have h4 : 1 ≤ f := by omega
   have h5 : f ≤ n := by omega
   have h6 : n ≤ 281474976710657 := by omega
   clear hbad HE
   by_cases hfn : f = n
   ·subst hfn
    rw [if_pos rfl] at HL
    rw [HL.out]
    clear HL
    go_enter Tryz.func57, Tryz.ntmps57
    go_wp2_with fail
    refine RT.out.mono ?_
    rintro e w1 ⟨rfl, b1⟩
    go_wp2
    go_ret2
    exact ⟨_, rfl, OV.nil _ _, b1⟩
   ·have hd : (f == n) = false := by simp [hfn]
    have hr2 : rerr [[(f, n - f)], l] = 0 := rerr_two.2 ⟨right_span h4 (by omega) h6, HR.out⟩
    rw [if_neg hfn] at HL
    rw [HL.out]
    clear HL hfn
    have WO := Lib.hid (fun (w1 : World) (h : Below w.heap.size w w1) (m : Nat) (hm : w1.heap.size = m) => without_ok (w1.alloc (.cells #[.int .i64 f, .int .i64 (n - f)] 34)) (.slice (some ⟨m, 0, none⟩) 1 1) _ [(f, n - f)] l (hm ▸ new_pair) ((HV.out.below h).below ((Below.refl _ _).alloc (Nat.le_refl _) _)) (by simp) hlen)
    rw [hr2, if_pos rfl] at WO
    clear hr2
    go_enter Tryz.func57, Tryz.ntmps57
    go_wp2_with fail
    refine RT.out.mono ?_
    rintro e w1 ⟨rfl, b1⟩
    have s1 := b1.size
    go_wp2_with fail
    refine (WO.out w1 b1 _ rfl).mono ?_
    rintro e w2 ⟨r, rfl, o2, b2⟩
    have b3 := (b1.alloc s1 (.cells #[.int .i64 f, .int .i64 (n - f)] 34)).trans (b2.mono (by simp; omega))
    have o3 := o2.base_le (base' := w.heap.size) (by simp; omega)
    clear b2 o2 WO
    go_wp2
    go_ret2
    exact ⟨_, rfl, o3, b3⟩
 ·have hne : (rerr [l] != 0) = true := by simp [he]
  have h90 : rerr [l] = 90 := (rerr_vals [l]).resolve_left he
  rw [if_pos he] at HE
  rw [HE.out, if_pos (by simp)] at HL
  rw [HE.out, HL.out]
  rw [h90] at RT
  clear he hne h90 HE HL hv
  go_enter Tryz.func57, Tryz.ntmps57
  go_wp2_with fail
  refine RT.out.mono ?_
  rintro e w1 ⟨rfl, b1⟩
  go_wp2
  go_ret2
  exact ⟨_, rfl, OV.nil _ _, b1⟩

end Go.Proofs.YtalophngappkhaaGreatDoor
namespace Go.Proofs.YtalophngappkhaaGreatDoor
open Go.RowKit Go.Shelf

theorem can_get : ∀ {l : List (Int × Int)} {lo : Int}, Can lo l → ∀ {i : Nat} {r : Int × Int}, l[i]? = some r → rokB r = true ∧ lo < r.1
 | [], _, _, i, r, h => by simp at h
 | s :: l, lo, hc, 0, r, h => by
  obtain ⟨a, b, c⟩ := can_cons.1 hc
  simp at h; subst h; exact ⟨b, a⟩
 | s :: l, lo, hc, i + 1, r, h => by
  obtain ⟨a, b, c⟩ := can_cons.1 hc
  have := can_get c (i := i) (r := r) (by simpa using h)
  have := nxt_gt b
  exact ⟨(can_get c (i := i) (r := r) (by simpa using h)).1, by omega⟩
end Go.Proofs.YtalophngappkhaaGreatDoor
namespace Go.Proofs.YtalophngappkhaaGreatDoor
open Go.RowKit Go.Shelf

def valS (B : Nat) (v : Value) (xs : List Int) (k : Nat) : Prop := k = B ∨ (xs ≠ [] ∧ ∃ o n c, v = .slice (some ⟨k, o, none⟩) n c)

set_option maxHeartbeats 400000 in
theorem values1_iter (w : World) (B : Nat) (v : Value) (xs : List Int) (h1 : w.cell? ⟨B, 0, none⟩ = some v) (hv : EV encI 1 w v xs) (hlen : xs.length ≤ 1000000000) :
  Iter Tryz.prog 96 #[.pointer (some ⟨B, 0, none⟩)] (fun k => #[.int .i64 (xs[k]?.getD 0)]) xs.length (valS B v xs) (fun _ => False) w := by
 intro l J Jx W hsz hW hJ hJx hY h0
 have H1 : W.cell? ⟨B, 0, none⟩ = some v := by
  obtain ⟨o, ho, _⟩ := cells_of_cell h1
  exact (World.cell?_of_block (w := w) (by rw [hW _ o ho (.inl rfl), ho])).trans h1
 have HV : EV encI 1 W v xs := by
  rcases hv with h | ⟨k1, b1, off, c, rfl, k3, k4⟩
  ·exact .inl h
  ·refine .inr ⟨k1, b1, off, c, rfl, k3, k4.keep fun p u hp hc => ?_⟩
   obtain ⟨o, ho, _⟩ := cells_of_cell hc
   exact (World.cell?_of_block (w := w) (by rw [hW _ o ho (.inr ⟨k1, off, _, c, by rw [hp]⟩), ho])).trans hc
 clear h1 hv hW hsz
 have hd0 : W0.depth = none := rfl
 have hfn : ∀ f, W0.fn f := fun _ => trivial
 obtain ⟨A, c, rfl⟩ := HV.shape
 refine callsIn_of_wp Tryz.func96 rfl trivial ?_ rfl
 simp only [Tryz.ntmps96, List.size_toArray, List.length_cons, List.length_nil, Nat.reduceAdd, Nat.reduceSub, Array.replicate_succ, Array.replicate_zero, List.push_toArray, List.append_toArray, List.nil_append, List.cons_append]
 gi_wp2
 have HY := Lib.hid hY
 clear hY
 gi_loopg [4, 7] xs.length (fun g _ i wr => ∃ j : Nat, j + g = xs.length ∧ i = .int .i64 j ∧ J j wr ∧ EV encI 1 wr (.slice A xs.length c) xs)
 case atStart => exact ⟨0, by omega, rfl, h0, HV⟩
 case round =>
  clear HV H1 h0
  obtain ⟨j, hj, rfl, hjj, hev⟩ := hrel
  have HJ := Lib.hid hj
  clear hj
  by_cases hlt : j < xs.length
  ·obtain ⟨b, off, c', hvv, -, rr⟩ := hev.row (by omega)
   simp only [Value.slice.injEq] at hvv
   obtain ⟨rfl, -, rfl⟩ := hvv
   obtain ⟨x, hx, cx⟩ := rr.get1 hlt
   have hYk := HY.out j wr hlt hjj
   simp only [hx, Option.getD_some] at hYk
   obtain ⟨fn, tmps, assign, body, hy, hR⟩ := hYk
   have HEV := Lib.hid hev
   clear hx rr hev
   gi_wp2
   refine hR.mono ?_
   rintro e W' ⟨hsz, hS, hres⟩
   have hev' : EV encI 1 W' (.slice (some ⟨b, off, none⟩) xs.length c) xs := by
    rcases HEV.out with h | ⟨k1, b1, off1, c1, hv1, k3, k4⟩
    ·exact .inl h
    ·refine .inr ⟨k1, b1, off1, c1, hv1, k3, k4.keep fun p u hp hc => ?_⟩
     obtain ⟨o, ho, _⟩ := cells_of_cell hc
     exact (World.cell?_of_block (w := wr) (by rw [hS _ o ho (.inr ⟨k1, off1, _, c1, by rw [hp]; exact hv1⟩), ho])).trans hc
   clear hy hR hS cx HEV
   rcases hres with ⟨rfl, hj'⟩ | ⟨rfl, hjx⟩
   ·gi_wp2
    gi_roundg (gk - 1)
    case measure => have := HJ.out; omega
    case rel => exact ⟨j + 1, by have := HJ.out; omega, by go_num, hj', hev'⟩
   ·gi_wp2
    refine bodyPost_ret (results_none rfl _ _ _) rfl ?_
    exact ⟨⟨_, rfl⟩, .inr hjx⟩
  ·obtain rfl : j = xs.length := by have := HJ.out; omega
   gi_wp2
   go_end0
   exact ⟨⟨_, rfl⟩, .inl hjj⟩

set_option maxHeartbeats 400000 in
theorem values_ok (w : World) (A : Option Addr) (n c : Nat) :
  Calls Tryz.prog 66 #[.slice A n c] w fun e w' => e = .returned (.func (.func 96) #[] #[.pointer (some ⟨w.heap.size, 0, none⟩)]) ∧ w.alloc (Obj.cells #[.slice A n c] 32) = w' := by
 go_enter Tryz.func66, Tryz.ntmps66
 go_wp2
 go_ret
 exact ⟨rfl, rfl⟩

/-- slices.Sorted of the values of a slice. -/
theorem sorted_vals (w : World) (A : Option Addr) (n c : Nat) (xs : List Int) (hv : EV encI 1 w (.slice A n c) xs) (hlen : xs.length ≤ 1000000) :
  Calls Tryz.prog 65 #[.func (.func 96) #[] #[.pointer (some ⟨w.heap.size, 0, none⟩)]] (w.alloc (Obj.cells #[.slice A n c] 32)) fun e w' =>
   ∃ r, e = .returned r ∧ OV encI 1 3 w.heap.size w' r (srtI xs) ∧ Below w.heap.size w w' := by
 have b0 : Below w.heap.size w (w.alloc (Obj.cells #[.slice A n c] 32)) := (Below.refl _ _).alloc (Nat.le_refl _) _
 have bx : Boxed (w.alloc (Obj.cells #[.slice A n c] 32)) w.heap.size 32 (.slice A n c) := Boxed.new _ _ _
 have hz : (w.alloc (Obj.cells #[.slice A n c] 32)).heap.size = w.heap.size + 1 := World.size_alloc _ _
 have hev := hv.below b0
 have rowlt : ∀ k o m d, xs ≠ [] → Value.slice A n c = .slice (some ⟨k, o, none⟩) m d → k < w.heap.size := fun k o m d h1 h2 => by
  have hp : 0 < xs.length := by cases xs with | nil => exact absurd rfl h1 | cons r l => simp
  obtain ⟨b', o', c', hv', _, r⟩ := hv.row hp
  rw [hv'] at h2
  simp only [Value.slice.injEq, Option.some.injEq, Addr.mk.injEq, and_true] at h2
  rw [← h2.1.1]
  exact r.lt hp (fun _ => by simp [encI_len])
 generalize w.alloc (Obj.cells #[.slice A n c] 32) = w1 at b0 bx hz hev ⊢
 have C := Lib.hid (collect_int w1 _ #[.pointer (some ⟨w.heap.size, 0, none⟩)] (fun k => xs[k]?.getD 0) xs.length (valS w.heap.size (.slice A n c) xs) (fun _ => False) (enters_of Tryz.func96 (by kernel_rfl) rfl)
  (values1_iter w1 w.heap.size _ xs bx.cell hev (by omega)) (fun k h => h.elim) (fun k h => by
   rcases h with h | ⟨h0, o, m, d, h⟩
   ·omega
   ·have := rowlt _ _ _ _ h0 h; omega) hlen)
 rw [upto_list] at C
 have s0 := b0.size
 have B0 := Lib.hid b0
 clear bx hev rowlt hv hz b0
 go_enter Tryz.func65, Tryz.ntmps65
 go_wp2_with fail
 refine C.out.mono ?_
 rintro e w2 ⟨r, rfl, o2, m2⟩
 have b2 : Below w.heap.size w w2 := B0.out.trans (m2.below (fun k _ h => h) s0)
 have o2 := o2.base_le s0
 have SO := Lib.hid (sort_int w2 r xs _ o2 (by omega))
 have hbk := o2.block
 clear m2 C
 go_wp2_with fail
 refine SO.out.mono ?_
 rintro e w3 ⟨rfl, o3, g3⟩
 have b3 := b2.grown g3 b2.size (fun k hk => (hbk k hk).1)
 clear SO hbk g3
 go_wp2
 go_ret
 exact ⟨_, rfl, o3, b3⟩
end Go.Proofs.YtalophngappkhaaGreatDoor
