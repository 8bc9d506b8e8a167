/- package seq: the iterator of the borders of two sets. -/
import Derived.Test.YtalophngappkhaaGreatDoorV10
import Derived.Test.YtalophngappkhaaGreatDoorV4
import Derived.Sort.LoopGhostIn
import Derived.Sort.CutIn
import Derived.Stop.RegionWithIn
set_option linter.unusedVariables false
set_option linter.unusedSimpArgs false
set_option linter.unusedSectionVars false
namespace Go.Proofs.YtalophngappkhaaGreatDoor
open Go.RowKit Go.Shelf

/-- A block that is known whole. -/
def Blk (w : World) (g : Nat) (t : TypeId) (cs : Array Value) : Prop := w.heap[g]? = some (.cells cs t (0, 0))
section
variable {w w' : World} {g : Nat} {t : TypeId} {cs : Array Value}
theorem Blk.lt (h : Blk w g t cs) : g < w.heap.size := (Array.getElem?_eq_some_iff.1 h).1
theorem Blk.cell (h : Blk w g t cs) (i : Nat) {u : Value} (hu : cs[i]? = some u) : w.cell? ⟨g, i, none⟩ = some u := (cell_of_row w g i cs t (0, 0) h).trans hu
theorem Blk.frozen (h : Blk w g t cs) (i : Nat) : w.frozen? ⟨g, i, none⟩ = false := by
 unfold Blk at h
 simp [World.frozen?, h]
theorem Blk.new (w : World) (t : TypeId) (cs : Array Value) : Blk (w.alloc (.cells cs t)) w.heap.size t cs := heap_alloc_new w _
theorem Blk.alloc (h : Blk w g t cs) (o : Obj) : Blk (w.alloc o) g t cs := (Below.heap_alloc w o g h.lt).trans h
theorem Blk.set_ (h : Blk w g t cs) (i : Nat) (u : Value) : Blk (w.setCell ⟨g, i, none⟩ u) g t (cs.setIfInBounds i u) := by
 unfold Blk at h ⊢
 simp [World.setCell, Array.getElem?_modify, h]
theorem Blk.far (h : Blk w g t cs) {p : Addr} (hp : g ≠ p.block) (u : Value) : Blk (w.setCell p u) g t cs := (Below.heap_setCell w p u g hp).trans h
theorem Blk.below (h : Blk w g t cs) (hb : Below w.heap.size w w') : Blk w' g t cs := (hb.block g h.lt).trans h
end

def leastF (A : List (Int × Int)) (a : Bool) (B : List (Int × Int)) (b : Bool) (t : Nat) : Int :=
 if t = 0 then 281474976710658 else if t = 1 then min 281474976710658 (edg A a) else min (min 281474976710658 (edg A a)) (edg B b)

/-- The blocks that the iterator needs: its variables, and the rows of both sets. -/
def bordS (Ba Bb : Nat) (va vb : Value) (a b : List (Int × Int)) (k : Nat) : Prop := k = Ba ∨ k = Bb ∨ (a ≠ [] ∧ ∃ o n c, va = .slice (some ⟨k, o, none⟩) n c) ∨ (b ≠ [] ∧ ∃ o n c, vb = .slice (some ⟨k, o, none⟩) n c)
/-- A slice that reads as a list, its row in a block of S below X. -/
def EVS (S : Nat → Prop) (X : Nat) (w : World) (v : Value) (xs : List (Int × Int)) : Prop :=
 (xs = [] ∧ ∃ A c, v = .slice A 0 c) ∨ (xs ≠ [] ∧ ∃ b off c, v = .slice (some ⟨b, off, none⟩) xs.length c ∧ xs.length ≤ c ∧ S b ∧ b < X ∧ ER encP 2 w b off xs)
section
variable {S : Nat → Prop} {X : Nat} {w w' : World} {v : Value} {xs : List (Int × Int)}
theorem EVS.ev (h : EVS S X w v xs) : EV encP 2 w v xs := by
 rcases h with h | ⟨h1, b, off, c, h2, h3, _, _, h6⟩
 ·exact .inl h
 ·exact .inr ⟨h1, b, off, c, h2, h3, h6⟩
theorem EVS.keep (h : EVS S X w v xs) (hk : ∀ k o, k < X → S k → w.heap[k]? = some o → w'.heap[k]? = some o) : EVS S X w' v xs := by
 rcases h with h | ⟨h1, b, off, c, h2, h3, h4, h5, h6⟩
 ·exact .inl h
 ·refine .inr ⟨h1, b, off, c, h2, h3, h4, h5, h6.keep fun p u hp hc => ?_⟩
  obtain ⟨o, ho, _⟩ := cells_of_cell hc
  exact (World.cell?_of_block (w := w) (by rw [hk _ o (by rw [hp]; exact h5) (by rw [hp]; exact h4) ho, ho])).trans hc
theorem EVS.below (h : EVS S X w v xs) (hb : Below w.heap.size w w') : EVS S X w' v xs := h.keep fun k o _ _ ho => (hb.block k (Array.getElem?_eq_some_iff.1 ho).1).trans ho
theorem EVS.setCell (h : EVS S X w v xs) {p : Addr} (hp : X ≤ p.block) (u : Value) : EVS S X (w.setCell p u) v xs := h.keep fun k o hk _ ho => (Below.heap_setCell w p u k (by omega)).trans ho
theorem EVS.of_ev (h : EV encP 2 w v xs) (hS : xs ≠ [] → ∀ b o n c, v = .slice (some ⟨b, o, none⟩) n c → S b) (hX : w.heap.size ≤ X) : EVS S X w v xs := by
 rcases h with h | ⟨h1, b, off, c, h2, h3, h4⟩
 ·exact .inl h
 ·have := h4.lt (by cases xs with | nil => exact absurd rfl h1 | cons r l => simp) (fun _ => by simp [encP_len])
  exact .inr ⟨h1, b, off, c, h2, h3, hS h1 _ _ _ _ h2, by omega, h4⟩
theorem EVS.tail {r : Int × Int} {b off n c : Nat} (h : EVS S X w (.slice (some ⟨b, off, none⟩) n c) (r :: xs)) : EVS S X w (.slice (some ⟨b, off + 2, none⟩) (n - 1) (c - 1)) xs ∧ (c = 1 → EVS S X w (.slice (some ⟨b, off, none⟩) 0 0) xs) := by
 rcases h with ⟨h, _⟩ | ⟨_, b', off', c', hv, h3, h4, h5, h6⟩
 ·cases h
 ·simp only [Value.slice.injEq, Option.some.injEq, Addr.mk.injEq, and_true] at hv
  obtain ⟨⟨rfl, rfl⟩, rfl, rfl⟩ := hv
  simp only [List.length_cons] at h3 ⊢
  cases xs with
  | nil => exact ⟨.inl ⟨rfl, _, _, rfl⟩, fun _ => .inl ⟨rfl, _, _, rfl⟩⟩
  | cons s l =>
   refine ⟨.inr ⟨by simp, b, off + 2, c - 1, rfl, by simp at h3 ⊢; omega, h4, h5, fun i x hx j u hu => ?_⟩, fun hc => by simp at h3; omega⟩
   have := h6 (i + 1) x (by simpa using hx) j u hu
   rwa [show off + (i + 1) * 2 + j = off + 2 + i * 2 + j by omega] at this
end
theorem togL_len (A : List (Int × Int)) (f : Bool) (q : Int) : (togL A f q).length ≤ A.length := by
 cases A with
 | nil => exact Nat.le_refl _
 | cons r l => simp only [togL]; split <;> simp
theorem leastF_q {A B : List (Int × Int)} {fa fb : Bool} {p : Int} (h : St.Ok ⟨A, fa, B, fb⟩ p) (hp : p ≤ 281474976710657) : leastF A fa B fb 2 = St.q ⟨A, fa, B, fb⟩ := by
 have h1 := edg_gt h.1 hp
 have e1 : edg A fa ≤ 281474976710658 := by
  cases A with
  | nil => exact Int.le_refl _
  | cons r l => have := h1.2 (by simp); dsimp only at this; omega
 show min (min 281474976710658 (edg A fa)) (edg B fb) = min (edg A fa) (edg B fb)
 omega
theorem side_head {r : Int × Int} {l : List (Int × Int)} {f : Bool} {p : Int} (h : Side (r :: l) f p) : rokB r = true := by
 unfold Side at h
 cases f with
 | true =>
  obtain ⟨r', l', hr, _, _, h3, _⟩ := h
  injection hr with hr _; rw [hr]; exact h3
 | false => exact (can_cons.1 h).2.1

set_option maxRecDepth 100000 in
set_option maxHeartbeats 4000000 in
theorem borders_iter (w : World) (Ba Bb : Nat) (va vb : Value) (a b : List (Int × Int)) (ca : Can 0 a) (cb : Can 0 b)
  (h1 : w.cell? ⟨Ba, 0, none⟩ = some va) (h2 : w.cell? ⟨Bb, 0, none⟩ = some vb) (ha : EV encP 2 w va a) (hb : EV encP 2 w vb b) (la : a.length ≤ 100000000) (lb : b.length ≤ 100000000) :
  IterP Tryz.prog 122 #[.pointer (some ⟨Ba, 0, none⟩), .pointer (some ⟨Bb, 0, none⟩)]
   (fun k => #[.int .i64 ((st0 a b).it k).q, .agg #[.bool ((st0 a b).it (k + 1)).a, .bool ((st0 a b).it (k + 1)).b]]) (boN a b)
   (bordS Ba Bb va vb a b) (fun _ => False) w := by
 intro l J Jx W hsz hW hJ hJx hY h0
 have H1 : W.cell? ⟨Ba, 0, none⟩ = some va := by
  obtain ⟨o, ho, _⟩ := cells_of_cell h1
  exact (World.cell?_of_block (w := w) (by rw [hW _ o ho (.inl rfl), ho])).trans h1
 have H2 : W.cell? ⟨Bb, 0, none⟩ = some vb := by
  obtain ⟨o, ho, _⟩ := cells_of_cell h2
  exact (World.cell?_of_block (w := w) (by rw [hW _ o ho (.inr (.inl rfl)), ho])).trans h2
 have HA : EV encP 2 W va a := by
  rcases ha with h | ⟨k1, b1, off, c, rfl, k3, k4⟩
  ·exact .inl h
  ·refine .inr ⟨k1, b1, off, c, rfl, k3, k4.keep fun p u hp hc => ?_⟩
   obtain ⟨o, ho, _⟩ := cells_of_cell hc
   exact (World.cell?_of_block (w := w) (by rw [hW _ o ho (.inr (.inr (.inl ⟨k1, off, _, c, by rw [hp]⟩))), ho])).trans hc
 have HB : EV encP 2 W vb b := by
  rcases hb with h | ⟨k1, b1, off, c, rfl, k3, k4⟩
  ·exact .inl h
  ·refine .inr ⟨k1, b1, off, c, rfl, k3, k4.keep fun p u hp hc => ?_⟩
   obtain ⟨o, ho, _⟩ := cells_of_cell hc
   exact (World.cell?_of_block (w := w) (by rw [hW _ o ho (.inr (.inr (.inr ⟨k1, off, _, c, by rw [hp]⟩))), ho])).trans hc
 obtain ⟨Aa, xa, rfl⟩ := HA.shape
 obtain ⟨Ab, xb, rfl⟩ := HB.shape
 have HA : EVS (bordS Ba Bb (.slice Aa a.length xa) (.slice Ab b.length xb) a b) W.heap.size W (.slice Aa a.length xa) a := EVS.of_ev HA (fun h0 b' o n c h => .inr (.inr (.inl ⟨h0, o, n, c, h⟩))) (Nat.le_refl _)
 have HB : EVS (bordS Ba Bb (.slice Aa a.length xa) (.slice Ab b.length xb) a b) W.heap.size W (.slice Ab b.length xb) b := EVS.of_ev HB (fun h0 b' o n c h => .inr (.inr (.inr ⟨h0, o, n, c, h⟩))) (Nat.le_refl _)
 generalize bordS Ba Bb (.slice Aa a.length xa) (.slice Ab b.length xb) a b = S at HA HB hY
 have hd0 : W0.depth = none := rfl
 have hfn : ∀ f, W0.fn f := fun _ => trivial
 clear h1 h2 ha hb hW
 refine callsIn_of_wp Tryz.func122 rfl trivial ?_ rfl
 simp only [Tryz.ntmps122, List.size_toArray, List.length_cons, List.length_nil, Nat.reduceAdd, Nat.reduceSub, Array.replicate_succ, Array.replicate_zero, List.push_toArray, List.append_toArray, List.nil_append, List.cons_append]
 gi_wp2
 obtain ⟨X, hX⟩ : ∃ X, W.heap.size = X := ⟨_, rfl⟩
 rw [hX] at hJ hJx hY HA HB
 have k4 : Blk ((W.alloc (.cells #[.slice Aa a.length xa, .slice Ab b.length xb] 190)).alloc (.cells #[.bool false, .bool false] 163)) X 190 #[.slice Aa a.length xa, .slice Ab b.length xb] := by rw [← hX]; exact (Blk.new _ _ _).alloc _
 have k5 : Blk ((W.alloc (.cells #[.slice Aa a.length xa, .slice Ab b.length xb] 190)).alloc (.cells #[.bool false, .bool false] 163)) (X + 1) 163 #[.bool false, .bool false] := by
  rw [← hX]; have := Blk.new (W.alloc (.cells #[.slice Aa a.length xa, .slice Ab b.length xb] 190)) 163 #[.bool false, .bool false]; rwa [World.size_alloc] at this
 have mW : Mod (fun b => False ∨ X ≤ b ∧ b < X + 2) W ((W.alloc (.cells #[.slice Aa a.length xa, .slice Ab b.length xb] 190)).alloc (.cells #[.bool false, .bool false] 163)) := (Mod.alloc _).trans (Mod.alloc _)
 have j0 := hJ (X + 2) 0 _ _ (h0 (X + 2)) mW
 have bW : Below W.heap.size W ((W.alloc (.cells #[.slice Aa a.length xa, .slice Ab b.length xb] 190)).alloc (.cells #[.bool false, .bool false] 163)) := ((Below.refl _ _).alloc (Nat.le_refl _) _).alloc (by simp) _
 have HA := HA.below bW
 have HB := HB.below bW
 have zW : X + 2 ≤ ((W.alloc (.cells #[.slice Aa a.length xa, .slice Ab b.length xb] 190)).alloc (.cells #[.bool false, .bool false] 163)).heap.size := by simp; omega
 rw [show W.heap.size + 1 = X + 1 by omega, hX]
 generalize (W.alloc (.cells #[.slice Aa a.length xa, .slice Ab b.length xb] 190)).alloc (.cells #[.bool false, .bool false] 163) = W2 at k4 k5 j0 HA HB zW ⊢
 obtain ⟨so1, so2⟩ := st0_ok ca cb
 obtain ⟨bn1, bn2, bn3⟩ := boN_spec ca cb
 have hXw : W.heap.size ≤ X := by omega
 have BN1 := Lib.hid bn1
 have BN2 := Lib.hid bn2
 have HJ := Lib.hid hJ
 have HJX := Lib.hid hJx
 have HY := Lib.hid hY
 clear hJ hJx hY h0 hX mW bW H1 H2 bn1 bn2 bn3 hsz
 gi_loopg [6, 7, 8, 9, 10, 57, 77] ((st0 a b).m) (fun g _ _ _ _ _ _ _ wr => ∃ (k : Nat) (p : Int) (vA vB : Value), ((st0 a b).it k).Ok p ∧ p ≤ 281474976710657 ∧ ((st0 a b).it k).m ≤ g ∧ k ≤ boN a b ∧ J (X + 2) k wr ∧ X + 2 ≤ wr.heap.size ∧
   Blk wr X 190 #[vA, vB] ∧ Blk wr (X + 1) 163 #[.bool ((st0 a b).it k).a, .bool ((st0 a b).it k).b] ∧ EVS S X wr vA ((st0 a b).it k).A ∧ EVS S X wr vB ((st0 a b).it k).B ∧
   ((st0 a b).it k).A.length ≤ a.length ∧ ((st0 a b).it k).B.length ≤ b.length)
 case atStart => exact ⟨0, 0, _, _, so1, by omega, Nat.le_refl _, Nat.zero_le _, j0, zW, k4, k5, HA, HB, Nat.le_refl _, Nat.le_refl _⟩
 case round =>
  clear k4 k5 j0 HA HB zW
  obtain ⟨k, p, vA, vB, ok, hp, hm, hk, hj, hz, k4, k5, EA, EB, lA, lB⟩ := hrel
  obtain ⟨s, hs⟩ : ∃ s, (st0 a b).it k = s := ⟨_, rfl⟩
  have BN2k := BN2.out k
  have HSK := Lib.hid (show (st0 a b).it (k + 1) = ((st0 a b).it k).step from rfl)
  rw [hs] at ok hm k5 EA EB lA lB BN2k HSK
  have BN1k : k = boN a b → s.emp = true := fun h => by rw [← hs, h]; exact BN1.out
  have HS := Lib.hid hs
  clear hs
  obtain ⟨A, fa, B, fb⟩ := s
  obtain ⟨AA, cA, rfl⟩ := EA.ev.shape
  obtain ⟨AB, cB, rfl⟩ := EB.ev.shape
  dsimp only at k4 k5 lA lB EA EB
  obtain ⟨nA, hnA⟩ : ∃ n, A.length = n := ⟨_, rfl⟩
  obtain ⟨nB, hnB⟩ : ∃ n, B.length = n := ⟨_, rfl⟩
  rw [hnA] at k4 lA EA
  rw [hnB] at k4 lB EB
  have HNA := Lib.hid hnA
  have HNB := Lib.hid hnB
  clear hnA hnB
  have OK := Lib.hid ok
  have HM := Lib.hid hm
  have HJK := Lib.hid hj
  have K4 := Lib.hid k4
  have K5 := Lib.hid k5
  have c40 := k4.cell 0 rfl
  have c41 := k4.cell 1 rfl
  have c50 := k5.cell 0 rfl
  have c51 := k5.cell 1 rfl
  clear ok hm hj k4 k5
  cases he : St.emp ⟨A, fa, B, fb⟩ with
  | true =>
   have hkn : k = boN a b := by
    rcases Nat.lt_or_ge k (boN a b) with h | h
    ·rw [BN2k h] at he; cases he
    ·omega
   have HKN := Lib.hid hkn
   have h1 : A = [] ∧ B = [] := by unfold St.emp at he; simpa using he
   obtain ⟨rfl, rfl⟩ := h1
   have n1 := HNA.out
   have n2 := HNB.out
   simp only [List.length_nil] at n1 n2
   subst n1 n2
   clear he BN1k BN2k hkn
   gi_wp2
   go_end0
   exact ⟨⟨_, rfl⟩, X + 2, by omega, .inl (HKN.out ▸ HJK.out)⟩
  | false =>
   have hkn : k < boN a b := by
    rcases Nat.lt_or_ge k (boN a b) with h | h
    ·exact h
    ·rw [BN1k (by omega)] at he; cases he
   have hpos : 0 < nA + nB := by
    rw [← HNA.out, ← HNB.out]
    unfold St.emp at he
    cases A with
    | nil => cases B with
     | nil => simp at he
     | cons r l => simp
    | cons r l => simp; omega
   have d1 : decide (0 < nA + nB) = true := by simp; omega
   have d1' : decide ((0 : Int) < (nA : Int) + (nB : Int)) = true := by rw [decide_eq_true_eq]; omega
   have HE := Lib.hid he
   clear he BN1k BN2k
   gi_wp2
   have i0 : ∀ (x0 x1 : Value) (w : World), (Instr.index 190 (.agg #[x0, x1]) (.int .i64 0)).run Tryz.prog w = .ok x0 w := fun _ _ _ => by kernel_rfl
   have i1 : ∀ (x0 x1 : Value) (w : World), (Instr.index 190 (.agg #[x0, x1]) (.int .i64 1)).run Tryz.prog w = .ok x1 w := fun _ _ _ => by kernel_rfl
   gi_loopg [6, 7, 8, 23] 2 (fun g lst _ _ i wq => ∃ t z : Int, (2 - t).toNat = g ∧ 0 ≤ t ∧ t ≤ 2 ∧ i = .int .i64 t ∧ lst = .int .i64 z ∧ z = leastF A fa B fb t.toNat ∧ Below wr.heap.size wr wq)
   case atStart => exact ⟨0, _, by omega, by omega, by omega, rfl, rfl, rfl, Below.refl _ _⟩
   case round =>
    obtain ⟨t, z, ht, ht0, ht2, rfl, rfl, hz, hb⟩ := hrel
    have HTT := Lib.hid ht
    have HBQ := Lib.hid hb
    have HZ := Lib.hid hz
    have hzq := hb.size
    have e50 := below_cell hb c50
    have e51 := below_cell hb c51
    have GA := EA.below hb
    have GB := EB.below hb
    have FA := GA.ev
    have FB := GB.ev
    clear ht hb hz
    by_cases ht2 : t < 2
    ·rcases (by omega : t = 0 ∨ t = 1) with rfl | rfl
     ·obtain rfl : z = 281474976710658 := HZ.out
      cases A with
      | nil =>
       have dn : decide (0 < nA) = false := by have := HNA.out; simp at this ⊢; omega
       gi_wp2
       gi_roundg (gk - 1)
       case measure => have := HTT.out; omega
       case rel => exact ⟨1, _, by have := HTT.out; omega, by omega, by omega, rfl, rfl, rfl, HBQ.out⟩
      | cons r A' =>
       obtain ⟨r1, r2⟩ := r
       obtain ⟨ba, oa, ca', hva, -, ra⟩ := FA.row (by simp)
       simp only [Value.slice.injEq] at hva
       obtain ⟨rfl, hna, rfl⟩ := hva
       have hna2 : 0 < nA := by rw [hna]; simp
       have dn : decide (0 < nA) = true := by simp; omega
       clear hna
       obtain ⟨x0, x1⟩ := ra.prs (i := 0) (g := (r1, r2)) rfl
       simp only [Nat.zero_mul, Nat.add_zero] at x0 x1
       obtain ⟨q1, q2, q3, q4⟩ := rok_iff.1 (side_head OK.out.1)
       dsimp only at q1 q2 q3 q4
       cases fa with
       | false =>
        gi_wp2
        all_goals
         gi_roundg (gk - 1)
         case measure => have := HTT.out; omega
         case rel => exact ⟨1, _, by have := HTT.out; omega, by omega, by omega, rfl, rfl, by first | (simp [leastF, edg]; done) | (simp [leastF, edg]; omega), HBQ.out⟩
       | true =>
        gi_wp2
        refine (in_of (next_ok _ r1 r2 (by omega) (by omega) (by omega) (by omega))).mono ?_
        rintro e wz ⟨rfl, hbz⟩
        have bq := HBQ.out.trans (hbz.mono hzq)
        gi_wp2
        all_goals
         gi_roundg (gk - 1)
         case measure => have := HTT.out; omega
         case rel => exact ⟨1, _, by have := HTT.out; omega, by omega, by omega, rfl, rfl, by first | (simp [leastF, edg, nxt]; done) | (simp [leastF, edg, nxt]; omega), bq⟩
     ·have LF := Lib.hid (show leastF A fa B fb (Int.toNat 2) = min (leastF A fa B fb (Int.toNat 1)) (edg B fb) from rfl)
      rw [← HZ.out] at LF
      have hz6 : z ≤ 281474976710658 := by rw [HZ.out]; show min 281474976710658 (edg A fa) ≤ _; omega
      cases B with
      | nil =>
       have dn : decide (0 < nB) = false := by have := HNB.out; simp at this ⊢; omega
       gi_wp2
       gi_roundg (gk - 1)
       case measure => have := HTT.out; omega
       case rel => exact ⟨2, _, by have := HTT.out; omega, by omega, by omega, rfl, rfl, by rw [LF.out]; show z = min z 281474976710658; omega, HBQ.out⟩
      | cons r B' =>
       obtain ⟨r1, r2⟩ := r
       obtain ⟨bb, ob, cb', hvb, -, rb⟩ := FB.row (by simp)
       simp only [Value.slice.injEq] at hvb
       obtain ⟨rfl, hnb, rfl⟩ := hvb
       have hnb2 : 0 < nB := by rw [hnb]; simp
       have dn : decide (0 < nB) = true := by simp; omega
       clear hnb
       obtain ⟨x0, x1⟩ := rb.prs (i := 0) (g := (r1, r2)) rfl
       simp only [Nat.zero_mul, Nat.add_zero] at x0 x1
       obtain ⟨q1, q2, q3, q4⟩ := rok_iff.1 (side_head OK.out.2)
       dsimp only at q1 q2 q3 q4
       cases fb with
       | false =>
        gi_wp2
        all_goals
         gi_roundg (gk - 1)
         case measure => have := HTT.out; omega
         case rel => exact ⟨2, _, by have := HTT.out; omega, by omega, by omega, rfl, rfl, by rw [LF.out]; simp [edg]; (try omega), HBQ.out⟩
       | true =>
        gi_wp2
        refine (in_of (next_ok _ r1 r2 (by omega) (by omega) (by omega) (by omega))).mono ?_
        rintro e wz ⟨rfl, hbz⟩
        have bq := HBQ.out.trans (hbz.mono hzq)
        gi_wp2
        all_goals
         gi_roundg (gk - 1)
         case measure => have := HTT.out; omega
         case rel => exact ⟨2, _, by have := HTT.out; omega, by omega, by omega, rfl, rfl, by rw [LF.out]; simp [edg, nxt]; (try omega), bq⟩
    ·obtain rfl : t = 2 := by omega
     have hzq2 : z = St.q ⟨A, fa, B, fb⟩ := by
      rw [HZ.out]
      exact leastF_q OK.out hp
     have HZQ := Lib.hid hzq2
     have HQGT := Lib.hid (St.q_gt OK.out hp HE.out)
     rw [← hzq2] at HQGT
     obtain ⟨hz1, hz2⟩ := HQGT.out
     have e40 := below_cell HBQ.out c40
     have e41 := below_cell HBQ.out c41
     have K4q := Lib.hid (K4.out.below HBQ.out)
     have K5q := Lib.hid (K5.out.below HBQ.out)
     have hXq : X + 2 ≤ wr.heap.size := by omega
     have JQ := Lib.hid (HJ.out (X + 2) k _ _ HJK.out ((Mod.of_below HBQ.out).weaken (fun _ _ t => t)))
     clear FA FB hzq2 HZ HBQ HTT c40 c41 c50 c51 K4 K5 HJK hzq EA EB e50 e51
     gi_wp2
     gi_loopg [9, 10, 53, 57, 77] 2 (fun g _ _ i _ _ wq => ∃ (t : Int) (A1 B1 : List (Int × Int)) (fa1 fb1 : Bool) (vA1 vB1 : Value), (2 - t).toNat = g ∧ 0 ≤ t ∧ t ≤ 2 ∧ i = .int .i64 t ∧
      A1 = (if t = 0 then A else togL A fa z) ∧ fa1 = (if t = 0 then fa else togB A fa z) ∧ B1 = (if t = 2 then togL B fb z else B) ∧ fb1 = (if t = 2 then togB B fb z else fb) ∧
      Blk wq X 190 #[vA1, vB1] ∧ Blk wq (X + 1) 163 #[.bool fa1, .bool fb1] ∧ EVS S X wq vA1 A1 ∧ EVS S X wq vB1 B1 ∧ EVS S X wq (.slice AA nA cA) A ∧ EVS S X wq (.slice AB nB cB) B ∧ J (X + 2) k wq ∧ X + 2 ≤ wq.heap.size)
     case atStart => exact ⟨0, _, _, _, _, _, _, by omega, by omega, by omega, rfl, rfl, rfl, rfl, rfl, K4q.out, K5q.out, GA, GB, GA, GB, JQ.out, hXq⟩
     case round =>
      clear K4q K5q GA GB JQ hXq e40 e41 hpos d1 d1'
      obtain ⟨t, A1, B1, fa1, fb1, vA1, vB1, ht, ht0, ht2', rfl, hA1, hfa1, hB1, hfb1, k4, k5, va1, vb1, GA, GB, jq, hzq⟩ := hrel
      have HTT := Lib.hid ht
      have K4q := Lib.hid k4
      have K5q := Lib.hid k5
      have VA := Lib.hid va1
      have VB := Lib.hid vb1
      have JQ := Lib.hid jq
      clear ht k4 k5 va1 vb1 jq
      by_cases ht3 : t < 2
      ·rcases (by omega : t = 0 ∨ t = 1) with rfl | rfl
       ·rw [if_pos rfl] at hA1 hfa1
        rw [if_neg (by omega)] at hB1 hfb1
        obtain rfl : A = A1 := hA1.symm
        obtain rfl : fa = fa1 := hfa1.symm
        obtain rfl : B = B1 := hB1.symm
        obtain rfl : fb = fb1 := hfb1.symm
        have f40 := K4q.out.cell 0 rfl
        have f41 := K4q.out.cell 1 rfl
        have f50 := K5q.out.cell 0 rfl
        have f51 := K5q.out.cell 1 rfl
        have z40 := K4q.out.frozen 0
        have z41 := K4q.out.frozen 1
        have z50 := K5q.out.frozen 0
        have z51 := K5q.out.frozen 1
        cases A with
        | nil =>
         have E0 := Lib.hid (show togL [] fa z = [] from rfl)
         have E00 := Lib.hid (show togB [] fa z = fa from rfl)
         have dn : decide (0 < nA) = false := by have := HNA.out; simp at this ⊢; omega
         gi_wp2
         gi_roundg (gk - 1)
         case measure => have := HTT.out; omega
         case rel => exact ⟨1, _, _, _, _, _, _, by have := HTT.out; omega, by omega, by omega, rfl, (by rw [if_neg (by omega), E0.out]), (by rw [if_neg (by omega), E00.out]), (by rw [if_neg (by omega)]), (by rw [if_neg (by omega)]), K4q.out, K5q.out, VA.out, VB.out, GA, GB, JQ.out, hzq⟩
        | cons r A' =>
         obtain ⟨r1, r2⟩ := r
         obtain ⟨ba, oa, ca', hva, hcap, ra⟩ := GA.ev.row (by simp)
         simp only [Value.slice.injEq] at hva
         obtain ⟨rfl, hna, rfl⟩ := hva
         have hna2 : 1 ≤ nA := by rw [hna]; simp
         have hcap : nA ≤ cA := by rw [hna]; exact hcap
         have dn : decide (0 < nA) = true := by simp; omega
         have hna3 : (1 : Int) ≤ (nA : Int) := by omega
         clear hna
         obtain ⟨x0, x1⟩ := ra.prs (i := 0) (g := (r1, r2)) rfl
         simp only [Nat.zero_mul, Nat.add_zero] at x0 x1
         obtain ⟨q1, q2, q3, q4⟩ := rok_iff.1 (side_head OK.out.1)
         dsimp only at q1 q2 q3 q4
         cases fa with
         | false =>
          by_cases he : r1 = z
          ·have E0 := Lib.hid (show togL ((r1, r2) :: A') false z = (r1, r2) :: A' from by simp [togL])
           have E00 := Lib.hid (show togB ((r1, r2) :: A') false z = true from by simp [togB, he])
           have d1 : (r1 == z) = true := by simp [he]
           clear he
           gi_wp2
           gi_roundg (gk - 1)
           case measure => have := HTT.out; omega
           case rel => exact ⟨1, _, _, _, _, _, _, by have := HTT.out; omega, by omega, by omega, rfl, (by rw [if_neg (by omega), E0.out]), (by rw [if_neg (by omega), E00.out]), (by rw [if_neg (by omega)]), (by rw [if_neg (by omega)]), (K4q.out.far (p := ⟨X + 1, 0, none⟩) (by simp) _), (K5q.out.set_ 0 _), (VA.out.setCell (p := ⟨X + 1, 0, none⟩) (by simp) _), (VB.out.setCell (p := ⟨X + 1, 0, none⟩) (by simp) _), (GA.setCell (p := ⟨X + 1, 0, none⟩) (by simp) _), (GB.setCell (p := ⟨X + 1, 0, none⟩) (by simp) _), (HJ.out (X + 2) k _ _ JQ.out (Mod.setCell (p := ⟨X + 1, 0, none⟩) _ (.inr ⟨by simp, by simp⟩))), (by simpa [World.setCell] using hzq)⟩
          ·have E0 := Lib.hid (show togL ((r1, r2) :: A') false z = (r1, r2) :: A' from by simp [togL])
           have E00 := Lib.hid (show togB ((r1, r2) :: A') false z = false from by simp [togB, he])
           have d1 : (r1 == z) = false := by simp [he]
           clear he
           gi_wp2
           gi_roundg (gk - 1)
           case measure => have := HTT.out; omega
           case rel => exact ⟨1, _, _, _, _, _, _, by have := HTT.out; omega, by omega, by omega, rfl, (by rw [if_neg (by omega), E0.out]), (by rw [if_neg (by omega), E00.out]), (by rw [if_neg (by omega)]), (by rw [if_neg (by omega)]), K4q.out, K5q.out, VA.out, VB.out, GA, GB, JQ.out, hzq⟩
         | true =>
          gi_wp2
          refine (in_of (next_ok _ r1 r2 (by omega) (by omega) (by omega) (by omega))).mono ?_
          rintro e wz ⟨rfl, hbz⟩
          have VA := Lib.hid (VA.out.below hbz)
          have VB := Lib.hid (VB.out.below hbz)
          have GA := GA.below hbz
          have GB := GB.below hbz
          have K4q := Lib.hid (K4q.out.below hbz)
          have K5q := Lib.hid (K5q.out.below hbz)
          have JQ := Lib.hid (HJ.out (X + 2) k _ _ JQ.out ((Mod.of_below hbz).weaken (fun _ _ t => t)))
          have hzq : X + 2 ≤ wz.heap.size := Nat.le_trans hzq hbz.size
          have f40 := K4q.out.cell 0 rfl
          have f41 := K4q.out.cell 1 rfl
          have f50 := K5q.out.cell 0 rfl
          have f51 := K5q.out.cell 1 rfl
          have z40 := K4q.out.frozen 0
          have z41 := K4q.out.frozen 1
          have z50 := K5q.out.frozen 0
          have z51 := K5q.out.frozen 1
          clear hbz x0 x1
          by_cases he : r1 + r2 = z
          ·have E0 := Lib.hid (show togL ((r1, r2) :: A') true z = A' from by simp [togL, nxt, he])
           have E00 := Lib.hid (show togB ((r1, r2) :: A') true z = false from by simp [togB, nxt, he])
           have d1 : (r1 + r2 == z) = true := by simp [he]
           obtain ⟨T1, T2⟩ := GA.tail
           clear he
           by_cases hc1 : cA = 1
           ·have T3 := T2 hc1
            clear T1 T2
            subst hc1
            gi_wp2
            gi_region
            all_goals
             gi_wp2
             gi_roundg (gk - 1)
             case measure => have := HTT.out; omega
             case rel => first | exact ⟨1, _, _, _, _, _, _, by have := HTT.out; omega, by omega, by omega, rfl, (by rw [if_neg (by omega), E0.out]), (by rw [if_neg (by omega), E00.out]), (by rw [if_neg (by omega)]), (by rw [if_neg (by omega)]), (((K4q.out.far (p := ⟨X + 1, 0, none⟩) (by simp) _).set_ 0 _)), ((K5q.out.set_ 0 _).far (p := ⟨X, 0, none⟩) (by simp) _), ((T3.setCell (p := ⟨X + 1, 0, none⟩) (by simp) _).setCell (p := ⟨X, 0, none⟩) (by simp) _), ((VB.out.setCell (p := ⟨X + 1, 0, none⟩) (by simp) _).setCell (p := ⟨X, 0, none⟩) (by simp) _), ((GA.setCell (p := ⟨X + 1, 0, none⟩) (by simp) _).setCell (p := ⟨X, 0, none⟩) (by simp) _), ((GB.setCell (p := ⟨X + 1, 0, none⟩) (by simp) _).setCell (p := ⟨X, 0, none⟩) (by simp) _), (HJ.out (X + 2) k _ _ JQ.out ((Mod.setCell (p := ⟨X + 1, 0, none⟩) _ (.inr ⟨by simp, by simp⟩)).trans ((Mod.setCell (p := ⟨X, 0, none⟩) _ (.inr ⟨by simp, by simp⟩)).trans .drew))), (by simpa [World.setCell] using hzq)⟩ | exact ⟨1, _, _, _, _, _, _, by have := HTT.out; omega, by omega, by omega, rfl, (by rw [if_neg (by omega), E0.out]), (by rw [if_neg (by omega), E00.out]), (by rw [if_neg (by omega)]), (by rw [if_neg (by omega)]), ((K4q.out.set_ 0 _).far (p := ⟨X + 1, 0, none⟩) (by simp) _), ((K5q.out.far (p := ⟨X, 0, none⟩) (by simp) _).set_ 0 _), ((T3.setCell (p := ⟨X, 0, none⟩) (by simp) _).setCell (p := ⟨X + 1, 0, none⟩) (by simp) _), ((VB.out.setCell (p := ⟨X, 0, none⟩) (by simp) _).setCell (p := ⟨X + 1, 0, none⟩) (by simp) _), ((GA.setCell (p := ⟨X, 0, none⟩) (by simp) _).setCell (p := ⟨X + 1, 0, none⟩) (by simp) _), ((GB.setCell (p := ⟨X, 0, none⟩) (by simp) _).setCell (p := ⟨X + 1, 0, none⟩) (by simp) _), (HJ.out (X + 2) k _ _ JQ.out ((Mod.setCell (p := ⟨X, 0, none⟩) _ (.inr ⟨by simp, by simp⟩)).trans ((Mod.setCell (p := ⟨X + 1, 0, none⟩) _ (.inr ⟨by simp, by simp⟩)).trans .drew))), (by simpa [World.setCell] using hzq)⟩
           ·clear T2
            have hc2 : (1 : Int) ≤ (cA : Int) := by omega
            have hc3 : 1 ≤ cA := by omega
            gi_wp2
            gi_region
            all_goals
             gi_wp2
             gi_roundg (gk - 1)
             case measure => have := HTT.out; omega
             case rel => first | exact ⟨1, _, _, _, _, _, _, by have := HTT.out; omega, by omega, by omega, rfl, (by rw [if_neg (by omega), E0.out]), (by rw [if_neg (by omega), E00.out]), (by rw [if_neg (by omega)]), (by rw [if_neg (by omega)]), (((K4q.out.far (p := ⟨X + 1, 0, none⟩) (by simp) _).set_ 0 _)), ((K5q.out.set_ 0 _).far (p := ⟨X, 0, none⟩) (by simp) _), ((T1.setCell (p := ⟨X + 1, 0, none⟩) (by simp) _).setCell (p := ⟨X, 0, none⟩) (by simp) _), ((VB.out.setCell (p := ⟨X + 1, 0, none⟩) (by simp) _).setCell (p := ⟨X, 0, none⟩) (by simp) _), ((GA.setCell (p := ⟨X + 1, 0, none⟩) (by simp) _).setCell (p := ⟨X, 0, none⟩) (by simp) _), ((GB.setCell (p := ⟨X + 1, 0, none⟩) (by simp) _).setCell (p := ⟨X, 0, none⟩) (by simp) _), (HJ.out (X + 2) k _ _ JQ.out ((Mod.setCell (p := ⟨X + 1, 0, none⟩) _ (.inr ⟨by simp, by simp⟩)).trans ((Mod.setCell (p := ⟨X, 0, none⟩) _ (.inr ⟨by simp, by simp⟩)).trans .drew))), (by simpa [World.setCell] using hzq)⟩ | exact ⟨1, _, _, _, _, _, _, by have := HTT.out; omega, by omega, by omega, rfl, (by rw [if_neg (by omega), E0.out]), (by rw [if_neg (by omega), E00.out]), (by rw [if_neg (by omega)]), (by rw [if_neg (by omega)]), ((K4q.out.set_ 0 _).far (p := ⟨X + 1, 0, none⟩) (by simp) _), ((K5q.out.far (p := ⟨X, 0, none⟩) (by simp) _).set_ 0 _), ((T1.setCell (p := ⟨X, 0, none⟩) (by simp) _).setCell (p := ⟨X + 1, 0, none⟩) (by simp) _), ((VB.out.setCell (p := ⟨X, 0, none⟩) (by simp) _).setCell (p := ⟨X + 1, 0, none⟩) (by simp) _), ((GA.setCell (p := ⟨X, 0, none⟩) (by simp) _).setCell (p := ⟨X + 1, 0, none⟩) (by simp) _), ((GB.setCell (p := ⟨X, 0, none⟩) (by simp) _).setCell (p := ⟨X + 1, 0, none⟩) (by simp) _), (HJ.out (X + 2) k _ _ JQ.out ((Mod.setCell (p := ⟨X, 0, none⟩) _ (.inr ⟨by simp, by simp⟩)).trans ((Mod.setCell (p := ⟨X + 1, 0, none⟩) _ (.inr ⟨by simp, by simp⟩)).trans .drew))), (by simpa [World.setCell] using hzq)⟩
          ·have E0 := Lib.hid (show togL ((r1, r2) :: A') true z = (r1, r2) :: A' from by simp [togL, nxt, he])
           have E00 := Lib.hid (show togB ((r1, r2) :: A') true z = true from by simp [togB, nxt, he])
           have d1 : (r1 + r2 == z) = false := by simp [he]
           clear he
           gi_wp2
           gi_roundg (gk - 1)
           case measure => have := HTT.out; omega
           case rel => exact ⟨1, _, _, _, _, _, _, by have := HTT.out; omega, by omega, by omega, rfl, (by rw [if_neg (by omega), E0.out]), (by rw [if_neg (by omega), E00.out]), (by rw [if_neg (by omega)]), (by rw [if_neg (by omega)]), K4q.out, K5q.out, VA.out, VB.out, GA, GB, JQ.out, hzq⟩
       ·rw [if_neg (by omega)] at hA1 hfa1
        rw [if_neg (by omega)] at hB1 hfb1
        obtain rfl : B = B1 := hB1.symm
        obtain rfl : fb = fb1 := hfb1.symm
        have HA1 := Lib.hid hA1
        have HFA1 := Lib.hid hfa1
        clear hA1 hfa1
        have f40 := K4q.out.cell 0 rfl
        have f41 := K4q.out.cell 1 rfl
        have f50 := K5q.out.cell 0 rfl
        have f51 := K5q.out.cell 1 rfl
        have z40 := K4q.out.frozen 0
        have z41 := K4q.out.frozen 1
        have z50 := K5q.out.frozen 0
        have z51 := K5q.out.frozen 1
        cases B with
        | nil =>
         have E0 := Lib.hid (show togL [] fb z = [] from rfl)
         have E00 := Lib.hid (show togB [] fb z = fb from rfl)
         have dn : decide (0 < nB) = false := by have := HNB.out; simp at this ⊢; omega
         gi_wp2
         gi_roundg (gk - 1)
         case measure => have := HTT.out; omega
         case rel => exact ⟨2, _, _, _, _, _, _, by have := HTT.out; omega, by omega, by omega, rfl, (by rw [if_neg (by omega)]; exact HA1.out), (by rw [if_neg (by omega)]; exact HFA1.out), (by rw [if_pos rfl, E0.out]), (by rw [if_pos rfl, E00.out]), K4q.out, K5q.out, VA.out, VB.out, GA, GB, JQ.out, hzq⟩
        | cons r A' =>
         obtain ⟨r1, r2⟩ := r
         obtain ⟨ba, oa, ca', hva, hcap, ra⟩ := GB.ev.row (by simp)
         simp only [Value.slice.injEq] at hva
         obtain ⟨rfl, hna, rfl⟩ := hva
         have hna2 : 1 ≤ nB := by rw [hna]; simp
         have hcap : nB ≤ cB := by rw [hna]; exact hcap
         have dn : decide (0 < nB) = true := by simp; omega
         have hna3 : (1 : Int) ≤ (nB : Int) := by omega
         clear hna
         obtain ⟨x0, x1⟩ := ra.prs (i := 0) (g := (r1, r2)) rfl
         simp only [Nat.zero_mul, Nat.add_zero] at x0 x1
         obtain ⟨q1, q2, q3, q4⟩ := rok_iff.1 (side_head OK.out.2)
         dsimp only at q1 q2 q3 q4
         cases fb with
         | false =>
          by_cases he : r1 = z
          ·have E0 := Lib.hid (show togL ((r1, r2) :: A') false z = (r1, r2) :: A' from by simp [togL])
           have E00 := Lib.hid (show togB ((r1, r2) :: A') false z = true from by simp [togB, he])
           have d1 : (r1 == z) = true := by simp [he]
           clear he
           gi_wp2
           gi_roundg (gk - 1)
           case measure => have := HTT.out; omega
           case rel => exact ⟨2, _, _, _, _, _, _, by have := HTT.out; omega, by omega, by omega, rfl, (by rw [if_neg (by omega)]; exact HA1.out), (by rw [if_neg (by omega)]; exact HFA1.out), (by rw [if_pos rfl, E0.out]), (by rw [if_pos rfl, E00.out]), (K4q.out.far (p := ⟨X + 1, 1, none⟩) (by simp) _), (K5q.out.set_ 1 _), (VA.out.setCell (p := ⟨X + 1, 1, none⟩) (by simp) _), (VB.out.setCell (p := ⟨X + 1, 1, none⟩) (by simp) _), (GA.setCell (p := ⟨X + 1, 1, none⟩) (by simp) _), (GB.setCell (p := ⟨X + 1, 1, none⟩) (by simp) _), (HJ.out (X + 2) k _ _ JQ.out (Mod.setCell (p := ⟨X + 1, 1, none⟩) _ (.inr ⟨by simp, by simp⟩))), (by simpa [World.setCell] using hzq)⟩
          ·have E0 := Lib.hid (show togL ((r1, r2) :: A') false z = (r1, r2) :: A' from by simp [togL])
           have E00 := Lib.hid (show togB ((r1, r2) :: A') false z = false from by simp [togB, he])
           have d1 : (r1 == z) = false := by simp [he]
           clear he
           gi_wp2
           gi_roundg (gk - 1)
           case measure => have := HTT.out; omega
           case rel => exact ⟨2, _, _, _, _, _, _, by have := HTT.out; omega, by omega, by omega, rfl, (by rw [if_neg (by omega)]; exact HA1.out), (by rw [if_neg (by omega)]; exact HFA1.out), (by rw [if_pos rfl, E0.out]), (by rw [if_pos rfl, E00.out]), K4q.out, K5q.out, VA.out, VB.out, GA, GB, JQ.out, hzq⟩
         | true =>
          gi_wp2
          refine (in_of (next_ok _ r1 r2 (by omega) (by omega) (by omega) (by omega))).mono ?_
          rintro e wz ⟨rfl, hbz⟩
          have VA := Lib.hid (VA.out.below hbz)
          have VB := Lib.hid (VB.out.below hbz)
          have GA := GA.below hbz
          have GB := GB.below hbz
          have K4q := Lib.hid (K4q.out.below hbz)
          have K5q := Lib.hid (K5q.out.below hbz)
          have JQ := Lib.hid (HJ.out (X + 2) k _ _ JQ.out ((Mod.of_below hbz).weaken (fun _ _ t => t)))
          have hzq : X + 2 ≤ wz.heap.size := Nat.le_trans hzq hbz.size
          have f40 := K4q.out.cell 0 rfl
          have f41 := K4q.out.cell 1 rfl
          have f50 := K5q.out.cell 0 rfl
          have f51 := K5q.out.cell 1 rfl
          have z40 := K4q.out.frozen 0
          have z41 := K4q.out.frozen 1
          have z50 := K5q.out.frozen 0
          have z51 := K5q.out.frozen 1
          clear hbz x0 x1
          by_cases he : r1 + r2 = z
          ·have E0 := Lib.hid (show togL ((r1, r2) :: A') true z = A' from by simp [togL, nxt, he])
           have E00 := Lib.hid (show togB ((r1, r2) :: A') true z = false from by simp [togB, nxt, he])
           have d1 : (r1 + r2 == z) = true := by simp [he]
           obtain ⟨T1, T2⟩ := GB.tail
           clear he
           by_cases hc1 : cB = 1
           ·have T3 := T2 hc1
            clear T1 T2
            subst hc1
            gi_wp2
            gi_region
            all_goals
             gi_wp2
             gi_roundg (gk - 1)
             case measure => have := HTT.out; omega
             case rel => first | exact ⟨2, _, _, _, _, _, _, by have := HTT.out; omega, by omega, by omega, rfl, (by rw [if_neg (by omega)]; exact HA1.out), (by rw [if_neg (by omega)]; exact HFA1.out), (by rw [if_pos rfl, E0.out]), (by rw [if_pos rfl, E00.out]), (((K4q.out.far (p := ⟨X + 1, 1, none⟩) (by simp) _).set_ 1 _)), ((K5q.out.set_ 1 _).far (p := ⟨X, 1, none⟩) (by simp) _), ((VA.out.setCell (p := ⟨X + 1, 1, none⟩) (by simp) _).setCell (p := ⟨X, 1, none⟩) (by simp) _), ((T3.setCell (p := ⟨X + 1, 1, none⟩) (by simp) _).setCell (p := ⟨X, 1, none⟩) (by simp) _), ((GA.setCell (p := ⟨X + 1, 1, none⟩) (by simp) _).setCell (p := ⟨X, 1, none⟩) (by simp) _), ((GB.setCell (p := ⟨X + 1, 1, none⟩) (by simp) _).setCell (p := ⟨X, 1, none⟩) (by simp) _), (HJ.out (X + 2) k _ _ JQ.out ((Mod.setCell (p := ⟨X + 1, 1, none⟩) _ (.inr ⟨by simp, by simp⟩)).trans ((Mod.setCell (p := ⟨X, 1, none⟩) _ (.inr ⟨by simp, by simp⟩)).trans .drew))), (by simpa [World.setCell] using hzq)⟩ | exact ⟨2, _, _, _, _, _, _, by have := HTT.out; omega, by omega, by omega, rfl, (by rw [if_neg (by omega)]; exact HA1.out), (by rw [if_neg (by omega)]; exact HFA1.out), (by rw [if_pos rfl, E0.out]), (by rw [if_pos rfl, E00.out]), ((K4q.out.set_ 1 _).far (p := ⟨X + 1, 1, none⟩) (by simp) _), ((K5q.out.far (p := ⟨X, 1, none⟩) (by simp) _).set_ 1 _), ((VA.out.setCell (p := ⟨X, 1, none⟩) (by simp) _).setCell (p := ⟨X + 1, 1, none⟩) (by simp) _), ((T3.setCell (p := ⟨X, 1, none⟩) (by simp) _).setCell (p := ⟨X + 1, 1, none⟩) (by simp) _), ((GA.setCell (p := ⟨X, 1, none⟩) (by simp) _).setCell (p := ⟨X + 1, 1, none⟩) (by simp) _), ((GB.setCell (p := ⟨X, 1, none⟩) (by simp) _).setCell (p := ⟨X + 1, 1, none⟩) (by simp) _), (HJ.out (X + 2) k _ _ JQ.out ((Mod.setCell (p := ⟨X, 1, none⟩) _ (.inr ⟨by simp, by simp⟩)).trans ((Mod.setCell (p := ⟨X + 1, 1, none⟩) _ (.inr ⟨by simp, by simp⟩)).trans .drew))), (by simpa [World.setCell] using hzq)⟩
           ·clear T2
            have hc2 : (1 : Int) ≤ (cB : Int) := by omega
            have hc3 : 1 ≤ cB := by omega
            gi_wp2
            gi_region
            all_goals
             gi_wp2
             gi_roundg (gk - 1)
             case measure => have := HTT.out; omega
             case rel => first | exact ⟨2, _, _, _, _, _, _, by have := HTT.out; omega, by omega, by omega, rfl, (by rw [if_neg (by omega)]; exact HA1.out), (by rw [if_neg (by omega)]; exact HFA1.out), (by rw [if_pos rfl, E0.out]), (by rw [if_pos rfl, E00.out]), (((K4q.out.far (p := ⟨X + 1, 1, none⟩) (by simp) _).set_ 1 _)), ((K5q.out.set_ 1 _).far (p := ⟨X, 1, none⟩) (by simp) _), ((VA.out.setCell (p := ⟨X + 1, 1, none⟩) (by simp) _).setCell (p := ⟨X, 1, none⟩) (by simp) _), ((T1.setCell (p := ⟨X + 1, 1, none⟩) (by simp) _).setCell (p := ⟨X, 1, none⟩) (by simp) _), ((GA.setCell (p := ⟨X + 1, 1, none⟩) (by simp) _).setCell (p := ⟨X, 1, none⟩) (by simp) _), ((GB.setCell (p := ⟨X + 1, 1, none⟩) (by simp) _).setCell (p := ⟨X, 1, none⟩) (by simp) _), (HJ.out (X + 2) k _ _ JQ.out ((Mod.setCell (p := ⟨X + 1, 1, none⟩) _ (.inr ⟨by simp, by simp⟩)).trans ((Mod.setCell (p := ⟨X, 1, none⟩) _ (.inr ⟨by simp, by simp⟩)).trans .drew))), (by simpa [World.setCell] using hzq)⟩ | exact ⟨2, _, _, _, _, _, _, by have := HTT.out; omega, by omega, by omega, rfl, (by rw [if_neg (by omega)]; exact HA1.out), (by rw [if_neg (by omega)]; exact HFA1.out), (by rw [if_pos rfl, E0.out]), (by rw [if_pos rfl, E00.out]), ((K4q.out.set_ 1 _).far (p := ⟨X + 1, 1, none⟩) (by simp) _), ((K5q.out.far (p := ⟨X, 1, none⟩) (by simp) _).set_ 1 _), ((VA.out.setCell (p := ⟨X, 1, none⟩) (by simp) _).setCell (p := ⟨X + 1, 1, none⟩) (by simp) _), ((T1.setCell (p := ⟨X, 1, none⟩) (by simp) _).setCell (p := ⟨X + 1, 1, none⟩) (by simp) _), ((GA.setCell (p := ⟨X, 1, none⟩) (by simp) _).setCell (p := ⟨X + 1, 1, none⟩) (by simp) _), ((GB.setCell (p := ⟨X, 1, none⟩) (by simp) _).setCell (p := ⟨X + 1, 1, none⟩) (by simp) _), (HJ.out (X + 2) k _ _ JQ.out ((Mod.setCell (p := ⟨X, 1, none⟩) _ (.inr ⟨by simp, by simp⟩)).trans ((Mod.setCell (p := ⟨X + 1, 1, none⟩) _ (.inr ⟨by simp, by simp⟩)).trans .drew))), (by simpa [World.setCell] using hzq)⟩
          ·have E0 := Lib.hid (show togL ((r1, r2) :: A') true z = (r1, r2) :: A' from by simp [togL, nxt, he])
           have E00 := Lib.hid (show togB ((r1, r2) :: A') true z = true from by simp [togB, nxt, he])
           have d1 : (r1 + r2 == z) = false := by simp [he]
           clear he
           gi_wp2
           gi_roundg (gk - 1)
           case measure => have := HTT.out; omega
           case rel => exact ⟨2, _, _, _, _, _, _, by have := HTT.out; omega, by omega, by omega, rfl, (by rw [if_neg (by omega)]; exact HA1.out), (by rw [if_neg (by omega)]; exact HFA1.out), (by rw [if_pos rfl, E0.out]), (by rw [if_pos rfl, E00.out]), K4q.out, K5q.out, VA.out, VB.out, GA, GB, JQ.out, hzq⟩
      ·obtain rfl : t = 2 := by omega
       rw [if_neg (by omega)] at hA1 hfa1
       rw [if_pos rfl] at hB1 hfb1
       have hst : (st0 a b).it (k + 1) = ⟨A1, fa1, B1, fb1⟩ := by
        rw [HSK.out, hA1, hfa1, hB1, hfb1, HZQ.out]; rfl
       have hqk : ((st0 a b).it k).q = z := by rw [HS.out]; exact HZQ.out.symm
       obtain ⟨so1, so2, _, _⟩ := St.step_ok OK.out hp HE.out
       have hstep : St.step ⟨A, fa, B, fb⟩ = ⟨A1, fa1, B1, fb1⟩ := by rw [← HSK.out, hst]
       rw [hstep, ← HZQ.out] at so1
       rw [hstep] at so2
       have hYk := HY.out (X + 2) k wr hkn (by omega) hzq JQ.out
       simp only [hst, hqk] at hYk
       have SO1 := Lib.hid so1
       have HST := Lib.hid hst
       have hlA : A1.length ≤ a.length := by rw [hA1]; have := togL_len A fa z; rw [HNA.out] at this; omega
       have hlB : B1.length ≤ b.length := by rw [hB1]; have := togL_len B fb z; rw [HNB.out] at this; omega
       have hm2 : St.m ⟨A1, fa1, B1, fb1⟩ < St.m ⟨A, fa, B, fb⟩ := so2
       have f50 := K5q.out.cell 0 rfl
       have f51 := K5q.out.cell 1 rfl
       obtain ⟨fn, tmps, assign, body, hy, hR⟩ := hYk
       clear hA1 hfa1 hB1 hfb1 hst hqk so1 so2 hstep HSK HTT ht0 ht2' ht3 i0 i1 HS
       gi_wp2
       refine hR.mono ?_
       rintro e W' ⟨hsz, hSk, hres⟩
       have K4w : Blk W' X 190 #[vA1, vB1] := hSk X _ K4q.out (.inr ⟨Nat.le_refl _, by omega⟩)
       have K5w : Blk W' (X + 1) 163 #[.bool fa1, .bool fb1] := hSk (X + 1) _ K5q.out (.inr ⟨by omega, by omega⟩)
       have VAw := VA.out.keep (w' := W') fun j o _ hj ho => hSk j o ho (.inl hj)
       have VBw := VB.out.keep (w' := W') fun j o _ hj ho => hSk j o ho (.inl hj)
       clear hy hR hSk f50 f51 K4q K5q VA VB GA GB JQ
       rcases hres with ⟨rfl, hj'⟩ | ⟨rfl, hjx⟩
       ·gi_wp2
        gi_roundg (St.m ⟨A1, fa1, B1, fb1⟩)
        case measure => have := HM.out; omega
        case rel => exact ⟨k + 1, z, _, _, by rw [HST.out]; exact SO1.out, hz2, by rw [HST.out]; exact Nat.le_refl _, by omega, hj', by omega, K4w, by rw [HST.out]; exact K5w, by rw [HST.out]; exact VAw, by rw [HST.out]; exact VBw, by rw [HST.out]; exact hlA, by rw [HST.out]; exact hlB⟩
       ·gi_wp2
        refine bodyPost_ret (results_none rfl _ _ _) rfl ?_
        exact ⟨⟨_, rfl⟩, X + 2, by omega, .inr hjx⟩
end Go.Proofs.YtalophngappkhaaGreatDoor
