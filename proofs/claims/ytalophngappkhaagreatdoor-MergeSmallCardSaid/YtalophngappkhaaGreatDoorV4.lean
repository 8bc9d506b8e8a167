/- More of rows that a call owns: one cell written; an append, and where the new slice lies | Rows of structs before and behind the library's sort | Comparisons of numbers; cmp.Or at three of them; draws and new blocks alone | Numbers as bytes: plain, and the iterator varint.groups | Contracts of slices.AppendSeq and slices.Collect at int, over an iterator of which a contract is known | varint: put, Write, WriteAll. -/
import Derived.Test.YtalophngappkhaaGreatDoorV3
import Derived.Maps.AppendAt
import Derived.Shelf.GgSortFunc.RowK
import Derived.Shelf.GgSortFunc.InsertionK
import Derived.Sort.OwnSortedInts
import Derived.Deep.RegionHeld3
import Derived.Deep.RegionLaw
import Derived.Sort.Grow
import Derived.Test.YtalophngappkhaaGreatDoorV1
import Derived.Deep.DeepCutAuto
import Derived.Sort.LoopGhostIn
set_option linter.unusedVariables false
set_option linter.unusedSimpArgs false
set_option linter.unusedSectionVars false
namespace Go.Proofs.YtalophngappkhaaGreatDoor
open Go Go.RowKit

/-- One cell written into a row of the call's own. -/
theorem flat_setF {α : Type} {enc : α → List Value} {k : Nat} (hk : ∀ x, (enc x).length = k) : ∀ (xs : List α) (i j : Nat) (x y : α) (u : Value), xs[i]? = some x → j < k → enc y = (enc x).set j u → (xs.flatMap enc).set (i * k + j) u = (xs.set i y).flatMap enc
 | [], i, j, x, y, u, h, _, _ => by simp at h
 | z :: r, 0, j, x, y, u, h, hj, he => by
  simp at h; subst h
  rw [List.flatMap_cons, List.set_cons_zero, List.flatMap_cons, he, Nat.zero_mul, Nat.zero_add, List.set_append_left _ _ (by rw [hk]; exact hj)]
 | z :: r, i + 1, j, x, y, u, h, hj, he => by
  rw [List.flatMap_cons, List.set_cons_succ, List.flatMap_cons, ← flat_setF hk r i j x y u (by simpa using h) hj he, List.set_append_right _ _ (by rw [hk, Nat.add_mul]; omega), hk]
  congr 2
  rw [Nat.add_mul]; omega
theorem OV.setF {α : Type} {enc : α → List Value} {k base g n cap i j : Nat} {e : TypeId} {w : World} {xs : List α} {x : α} (hk : ∀ x, (enc x).length = k) (h : OV enc k e base w (.slice (some ⟨g, 0, none⟩) n cap) xs) (hn : xs.length = n) (hi : xs[i]? = some x) (hj : j < k) (y : α) (u : Value) (he : enc y = (enc x).set j u) :
  OV enc k e base (w.setCell ⟨g, i * k + j, none⟩ u) (.slice (some ⟨g, 0, none⟩) n cap) (xs.set i y) ∧ w.grownBy (w.setCell ⟨g, i * k + j, none⟩ u) (some g) := by
 subst hn
 obtain ⟨h1, h2⟩ := World.ownsRow.stored h (i * k + j) u
 refine ⟨?_, h2⟩
 unfold OV
 rw [← flat_setF hk xs i j x y u hi hj he, List.length_set]
 exact h1
theorem EV.newL {α : Type} {enc : α → List Value} {k : Nat} {e : TypeId} {w : World} {xs : List α} {c n : Nat} {cs : Array Value} (hk : ∀ x, (enc x).length = k) (hcs : cs.toList = xs.flatMap enc) (hn : xs.length = n) (hc : n ≤ c) :
  EV enc k (w.alloc (.cells cs e)) (.slice (some ⟨w.heap.size, 0, none⟩) n c) xs := by
 subst hn
 refine EV.mk (fun i y hy j u hu => ?_) hc
 have h1 := flat_get hk xs i y hy j u hu
 rw [← hcs] at h1
 have := cell_of_row (w.alloc (.cells cs e)) w.heap.size (i * k + j) cs e (0, 0) (heap_alloc_new w _)
 simp only [Nat.zero_add]
 rw [this]; simpa using h1
theorem OV.row_form {α : Type} {enc : α → List Value} {k base : Nat} {e : TypeId} {w : World} {v : Value} {xs : List α} {n : Nat} (hk : ∀ x, (enc x).length = k) (h : OV enc k e base w v xs) (hl : xs.length = n) (hn : 0 < n) :
  ∃ g cap, v = .slice (some ⟨g, 0, none⟩) n cap ∧ n ≤ cap ∧ base ≤ g ∧ g < w.heap.size := by
 subst hl
 obtain ⟨g, cap, hv, h1, h2⟩ := h.form hn
 obtain ⟨b, o, c, hv', hc, _⟩ := (h.ev hk).row hn
 rw [hv] at hv'
 simp only [Value.slice.injEq, Option.some.injEq, Addr.mk.injEq, and_true] at hv'
 obtain ⟨⟨rfl, rfl⟩, _, rfl⟩ := hv'
 exact ⟨g, cap, hv, hc, h1, h2⟩
theorem OV.frz {α : Type} {enc : α → List Value} {k base g n cap : Nat} {e : TypeId} {w : World} {xs : List α} (h : OV enc k e base w (.slice (some ⟨g, 0, none⟩) n cap) xs) (hn : xs.length = n) (i : Nat) : w.frozen? ⟨g, i, none⟩ = false := by
 subst hn
 exact World.ownsRow.frozenAt h i
theorem OV.ne {α β : Type} {enc : α → List Value} {enc' : β → List Value} {k k' : Nat} {e e' : TypeId} {base base' : Nat} {w : World} {v v' : Value} {xs : List α} {ys : List β}
  (h : OV enc k e base w v xs) (h' : OV enc' k' e' base' w v' ys) (hne : e ≠ e') : v.ownBlock = none ∨ v.ownBlock ≠ v'.ownBlock := by
 rcases h.2 with ⟨rfl, _⟩ | ⟨g, cap, cur, rfl, _, hg, _⟩
 ·exact .inl rfl
 ·rcases h'.2 with ⟨rfl, _⟩ | ⟨g', cap', cur', rfl, _, hg', _⟩
  ·right; simp [Value.ownBlock]
  ·right
   intro he
   obtain rfl : g = g' := by simpa [Value.ownBlock] using he
   rw [hg] at hg'
   simp at hg'
   exact hne hg'.2
theorem EV.newM {α : Type} {enc : α → List Value} {k : Nat} {e : TypeId} {w : World} {xs : List α} {n m : Nat} {cs : Array Value} (hk : ∀ x, (enc x).length = k) (hcs : cs.toList = xs.flatMap enc) (hn : xs.length = n) (hm : w.heap.size = m) :
  EV enc k (w.alloc (.cells cs e)) (.slice (some ⟨m, 0, none⟩) n n) xs := by subst hm; exact EV.newL hk hcs hn (Nat.le_refl _)
theorem bel_alloc (w : World) (o : Obj) : Below w.heap.size w (w.alloc o) := (Below.refl _ _).alloc (Nat.le_refl _) _
theorem bel_alloc2 (w : World) (o o' : Obj) : Below w.heap.size w ((w.alloc o).alloc o') := ((Below.refl _ _).alloc (Nat.le_refl _) _).alloc (by simp) _
section
variable {P : Program} {α : Type} {enc : α → List Value} {k bytes base : Nat} {t e : TypeId} {w w' : World} {v sv : Value} {xs ys : List α}
theorem run_app_at (T : ElemT P t e k bytes) (hk : ∀ x, (enc x).length = k) (h1 : ∀ x, ∀ u ∈ enc x, u.oneCell' = true) (ty : TypeId)
  (hown : OV enc k e base w v xs) (hys : EV enc k w sv ys) (hn : xs.length + ys.length ≤ 1000000000) (hbase : base ≤ w.heap.size) :
  ∃ v' w', (Builtin.append_ #[t, t] ty #[v, sv]).run P w = .ok v' w' ∧ OV enc k e base w' v' (xs ++ ys) ∧ w.grownBy w' v.ownBlock ∧ (v'.ownBlock = v.ownBlock ∨ v'.ownBlock = some w.heap.size) := by
 obtain ⟨i, z, hi, hz, hsz, hby, hzs⟩ := T.hi
 have hbb : (xs.length + ys.length) * bytes ≤ 140737488355328 := Nat.le_trans (Nat.mul_le_mul hn T.hb) (by decide)
 have hml : xs.length + ys.length ≤ maxLen := by unfold maxLen; omega
 have own : ∀ {ad : Addr} {c : Nat}, sv = .slice (some ad) ys.length c → (∀ j u, (ys.flatMap enc)[j]? = some u → w.cell? (ad.add j) = some u) →
   ∃ v' w', (Builtin.append_ #[t, t] ty #[v, sv]).run P w = .ok v' w' ∧ OV enc k e base w' v' (xs ++ ys) ∧ w.grownBy w' v.ownBlock ∧ (v'.ownBlock = v.ownBlock ∨ v'.ownBlock = some w.heap.size) := by
  intro ad c hsv hc
  subst hsv
  obtain ⟨v', w', hr, ho, hg, _, hat⟩ := run_append_own_at (P := P) w base t ty e i z k bytes T.ht hi hz hsz hby hzs T.hk v xs.length _ hown ad ys.length c (ys.flatMap enc)
   (flat_len hk ys) hc (fun u hu => by obtain ⟨x, _, hx⟩ := List.mem_flatMap.1 hu; exact h1 x u hx) hml hbb hbase
  refine ⟨v', w', hr, ?_, hg, hat⟩
  unfold OV
  rw [List.length_append, List.flatMap_append]
  exact ho
 rcases hys with ⟨rfl, A, c, rfl⟩ | ⟨hne, b, off, c, rfl, hle, hr⟩
 ·cases A with
  | some ad => exact own rfl (by simp)
  | none =>
   refine ⟨v, w, ?_, by simpa using hown, ⟨rfl, rfl, rfl, Nat.le_refl _, fun _ _ _ => rfl⟩, .inl rfl⟩
   rcases hown.2 with ⟨rfl, _⟩ | ⟨g, cap, cur, rfl, _, _, hnc, _⟩
   ·simp [Builtin.append_, run_underlying T.ht, sizeOf, typeInfo, hi, Builtin.lenOf, Builtin.firstCells]
   ·simp [Builtin.append_, run_underlying T.ht, sizeOf, typeInfo, hi, Builtin.lenOf, Builtin.firstCells, hnc, storeCells]
 ·refine own rfl fun j u hj => ?_
  rw [Addr.add_lit]
  have hkp := T.hk
  have hjl : j < ys.length * k := by
   have := (List.getElem?_eq_some_iff.1 hj).1
   rwa [flat_len hk] at this
  have hq : j / k < ys.length := Nat.div_lt_of_lt_mul (by rwa [Nat.mul_comm])
  have hdm : j / k * k + j % k = j := by rw [Nat.mul_comm]; exact Nat.div_add_mod j k
  have hm : j % k < (enc ys[j / k]).length := by rw [hk]; exact Nat.mod_lt _ hkp
  obtain ⟨u', hu'⟩ : ∃ u', (enc ys[j / k])[j % k]? = some u' := ⟨_, List.getElem?_eq_getElem hm⟩
  have h2 := flat_get hk ys (j / k) ys[j / k] (List.getElem?_eq_getElem hq) (j % k) u' hu'
  rw [hdm, hj] at h2
  cases h2
  have := hr (j / k) ys[j / k] (List.getElem?_eq_getElem hq) (j % k) u hu'
  rwa [Nat.add_assoc, hdm] at this

end
end Go.Proofs.YtalophngappkhaaGreatDoor
namespace Go.Proofs.YtalophngappkhaaGreatDoor
open Go Go.RowKit Go.Shelf Go.Sort

section
variable {α : Type} [Inhabited α] {enc : α → List Value} {k : Nat}
theorem flatK_list (hk : ∀ x, (enc x).length = k) (h0 : 0 < k) (xs : List α) : flatK enc k xs.toArray = (xs.flatMap enc).toArray := by
 refine Array.ext (by simp [flat_len hk]) fun t h1 h2 => ?_
 have ht : t < xs.length * k := by simpa using h1
 have hi : t / k < xs.length := Nat.div_lt_of_lt_mul (by rwa [Nat.mul_comm])
 have hj : t % k < (enc xs[t / k]).length := by rw [hk]; exact Nat.mod_lt _ h0
 have hg := flat_get hk xs (t / k) xs[t / k] (List.getElem?_eq_getElem hi) (t % k) _ (List.getElem?_eq_getElem hj)
 rw [show t / k * k + t % k = t by rw [Nat.mul_comm]; exact Nat.div_add_mod t k] at hg
 have e1 : (flatK enc k xs.toArray)[t] = (enc xs[t / k])[t % k] := by
  simp [flatK, hi, hj]
 rw [e1]
 have := (List.getElem?_eq_some_iff.1 hg).2
 simpa using this.symm
theorem holdsK_row {w : World} {g : Nat} {cur : Array Value} {e : TypeId} (hk : ∀ x, (enc x).length = k) (h0 : 0 < k) {xs : List α} (hb : w.heap[g]? = some (.cells cur e (0, 0))) (ht : cur.toList.take (xs.length * k) = xs.flatMap enc) : HoldsK enc k w g 0 xs.toArray := by
 unfold HoldsK
 rw [flatK_list hk h0]
 intro j hj
 have hj' : j < xs.length * k := by simpa [flat_len hk] using hj
 refine ⟨?_, by simp [World.frozen?, hb]⟩
 have h1 : (cur.toList.take (xs.length * k))[j]? = (xs.flatMap enc)[j]? := by rw [ht]
 rw [List.getElem?_take_of_lt hj'] at h1
 simp only [World.cell?, hb, Nat.zero_add]
 simp only [Option.isSome_none, Bool.false_eq_true, if_false]
 rw [← Array.getElem?_toList, h1]
 have hl : j < (xs.flatMap enc).length := by rw [flat_len hk]; exact hj'
 have e := List.getElem?_eq_getElem hl
 simp [e]
theorem sortedK_heap {w : World} {g n : Nat} {os : Array Obj} {cur : Array Value} {e : TypeId} {fr : Nat × Nat} (d : Array α) (hb : w.heap[g]? = some (.cells cur e fr)) :
  (sortWorldK enc k w g 0 n d os).heap[g]? = some (.cells (putCells id 0 (flatK enc k d) cur) e fr) := by
 have hg : g < w.heap.size := (Array.getElem?_eq_some_iff.1 hb).1
 unfold sortWorldK putRowK
 rw [heap_grow_old _ _ (by simpa using hg)]
 simp [putRow, mapBlock, Sort.ahead, Array.getElem?_modify, hb, onCells]
theorem sortedK_grown {w : World} {g n : Nat} {os : Array Obj} (d : Array α) : w.grownBy (sortWorldK enc k w g 0 n d os) (some g) := by
 unfold sortWorldK putRowK
 refine ⟨rfl, rfl, rfl, by simp, fun j hj hne => ?_⟩
 rw [heap_grow_old _ _ (by simpa using hj)]
 have : g ≠ j := fun e => hne (by rw [e])
 simp [putRow, mapBlock, Sort.ahead, Array.getElem?_modify, this]
theorem sortedK_row (hk : ∀ x, (enc x).length = k) (h0 : 0 < k) {w : World} {base g cap n : Nat} {e : TypeId} {os : Array Obj} {cur : Array Value} {ts : List α} {m : Nat} (hl : ts.length = m) (hbase : base ≤ g) (hb : w.heap[g]? = some (.cells cur e (0, 0)))
  (h1 : m ≤ cap) (h2 : cap ≤ maxLen) (h3 : cur.size = cap * k) : OV enc k e base (sortWorldK enc k w g 0 n ts.toArray os) (.slice (some ⟨g, 0, none⟩) m cap) ts := by
 subst hl
 refine ⟨by rw [flat_len hk], .inr ⟨g, cap, _, rfl, hbase, sortedK_heap _ hb, h1, h2, by simp [putCells, h3], ?_⟩⟩
 rw [flatK_list hk h0]
 have hle : ts.length * k ≤ cap * k := Nat.mul_le_mul_right k h1
 apply List.ext_getElem?
 intro j
 by_cases hj : j < ts.length * k
 ·have hl : j < (ts.flatMap enc).length := by rw [flat_len hk]; exact hj
  rw [List.getElem?_take_of_lt hj, Array.getElem?_toList]
  have e := List.getElem?_eq_getElem hl
  have hs : j < (List.map (fun a => (enc a).length) ts).sum := by have := hl; rwa [List.length_flatMap] at this
  simp [putCells, hs, e, show j < cur.size by omega]
 ·rw [List.getElem?_take_eq_none (by omega), List.getElem?_eq_none (by rw [flat_len hk]; omega)]
end
end Go.Proofs.YtalophngappkhaaGreatDoor
namespace Go.Proofs.YtalophngappkhaaGreatDoor
open Go Go.RowKit Go.Shelf Go.Sort
attribute [local go_sem] Oper.semAt_some
def cmpI (a b : Int) : Int := if a < b then -1 else if b < a then 1 else 0
/-- Draws and new blocks alone. -/
def Gro (w w' : World) : Prop := ∃ q os, w' = grow (w.drewN q) os
theorem Gro.alloc (w : World) (o : Obj) : Gro w (w.alloc o) := ⟨0, #[o], by rw [alloc_eq_grow]; rfl⟩
theorem Gro.trans {a b c : World} (h : Gro a b) (k : Gro b c) : Gro a c := by
 obtain ⟨q, os, rfl⟩ := h
 obtain ⟨q', os', rfl⟩ := k
 exact ⟨q + q', os ++ os', by simp [grow, World.drewN, Nat.add_assoc]⟩
set_option maxHeartbeats 800000 in
theorem cmpI_ok (w : World) (a b : Int) : Calls Tryz.prog 87 #[.int .i64 a, .int .i64 b] w fun e w' => e = .returned (.int .i64 (cmpI a b)) ∧ w = w' := by
 have na : (a != a) = false := by simp
 have nb : (b != b) = false := by simp
 by_cases h1 : a < b
 ·have X := Lib.hid (show cmpI a b = -1 by unfold cmpI; rw [if_pos h1])
  go_enter Tryz.func87, Tryz.ntmps87
  go_wp2
  go_ret
  exact ⟨ret_int X.out.symm, rfl⟩
 ·by_cases h2 : b < a
  ·have X := Lib.hid (show cmpI a b = 1 by unfold cmpI; rw [if_neg h1, if_pos h2])
   go_enter Tryz.func87, Tryz.ntmps87
   go_wp2
   go_ret
   exact ⟨ret_int X.out.symm, rfl⟩
  ·have X := Lib.hid (show cmpI a b = 0 by unfold cmpI; rw [if_neg h1, if_neg h2])
   go_enter Tryz.func87, Tryz.ntmps87
   go_wp2
   go_ret
   exact ⟨ret_int X.out.symm, rfl⟩
end Go.Proofs.YtalophngappkhaaGreatDoor
namespace Go.Proofs.YtalophngappkhaaGreatDoor
open Go.RowKit Go.Shelf
attribute [local go_sem] Oper.semAt_some

/-- A number, and what is left of it, seven bits after seven bits. -/
def vsteps (x : Nat) : List Nat := if h : x < 128 then [x] else x :: vsteps (x / 128)
termination_by x
decreasing_by exact Nat.div_lt_self (by omega) (by omega)
def vbyte (y : Nat) : Nat := if 127 < y then y % 128 + 128 else y % 128
def vbytes (x : Nat) : List Nat := (vsteps x).map vbyte
theorem vsteps_lt {x : Nat} (h : x < 128) : vsteps x = [x] := by rw [vsteps, dif_pos h]
theorem vsteps_ge {x : Nat} (h : ¬ x < 128) : vsteps x = x :: vsteps (x / 128) := by rw [vsteps, dif_neg h]
theorem vsteps_pos (x : Nat) : 0 < (vsteps x).length := by
 by_cases h : x < 128
 ·rw [vsteps_lt h]; simp
 ·rw [vsteps_ge h]; simp
theorem vsteps_head (x : Nat) : (vsteps x)[0]? = some x := by
 by_cases h : x < 128
 ·rw [vsteps_lt h]; rfl
 ·rw [vsteps_ge h]; rfl
theorem vsteps_at : ∀ (n x k y : Nat), x ≤ n → (vsteps x)[k]? = some y → y ≤ x ∧ (y ≤ 127 → (vsteps x).length = k + 1) ∧ (127 < y → (vsteps x)[k + 1]? = some (y / 128))
 | n, x, k, y, hn, hk => by
  by_cases h : x < 128
  ·rw [vsteps_lt h] at hk ⊢
   rcases k with _ | k
   ·cases hk
    exact ⟨Nat.le_refl _, fun _ => rfl, fun h2 => by omega⟩
   ·simp at hk
  ·rw [vsteps_ge h] at hk ⊢
   rcases k with _ | k
   ·cases hk
    exact ⟨Nat.le_refl _, fun h2 => by omega, fun _ => by rw [List.getElem?_cons_succ]; exact vsteps_head _⟩
   ·rw [List.getElem?_cons_succ] at hk
    have hlt : x / 128 < x := Nat.div_lt_self (by omega) (by omega)
    obtain ⟨h1, h2, h3⟩ := match n, hn with
     | 0, hn => absurd hn (by omega)
     | n + 1, hn => vsteps_at n (x / 128) k y (by omega) hk
    exact ⟨by omega, fun h4 => by rw [List.length_cons, h2 h4], fun h4 => by rw [List.getElem?_cons_succ]; exact h3 h4⟩
theorem vsteps_len : ∀ (d x : Nat), x < 128 ^ (d + 1) → (vsteps x).length ≤ d + 1
 | 0, x, h => by rw [vsteps_lt (by simpa using h)]; simp
 | d + 1, x, h => by
  by_cases hx : x < 128
  ·rw [vsteps_lt hx]; simp
  ·rw [vsteps_ge hx, List.length_cons]
   have := vsteps_len d (x / 128) (by rw [Nat.div_lt_iff_lt_mul (by omega)]; rw [Nat.pow_succ] at h; exact h)
   omega
theorem vbytes_len (x : Nat) (h : x < 18446744073709551616) : 0 < (vbytes x).length ∧ (vbytes x).length ≤ 10 := by
 unfold vbytes
 rw [List.length_map]
 exact ⟨vsteps_pos x, vsteps_len 9 x (Nat.lt_of_lt_of_le h (by decide))⟩
def encB (z : Nat) : List Value := [.int .u8 (z : Nat)]
theorem encB_len (z : Nat) : (encB z).length = 1 := rfl
theorem encB_one (z : Nat) : ∀ u ∈ encB z, u.oneCell' = true := by intro u hu; simp [encB] at hu; subst hu; rfl
set_option maxHeartbeats 800000 in
theorem groups1_iter (w : World) (Bx x : Nat) (h1 : w.cell? ⟨Bx, 0, none⟩ = some (.int .u64 (x : Nat))) (h1f : w.frozen? ⟨Bx, 0, none⟩ = false) (hx64 : x < 18446744073709551616) :
  Iter Tryz.prog 174 #[.pointer (some ⟨Bx, 0, none⟩)] (fun k => #[.int .u8 (((vsteps x)[k]?.getD 0 % 128 : Nat) : Int), .bool (decide (127 < (vsteps x)[k]?.getD 0))]) (vsteps x).length (fun k => k = Bx) (fun k => k = Bx) w := by
 intro l J Jx W hsz hW hJ hJx hY h0
 have same : ∀ {q : Addr} {u : Value}, q.block = Bx → w.cell? q = some u → W.cell? q = some u ∧ W.frozen? q = w.frozen? q := by
  intro q u hq hc
  obtain ⟨o, ho, _⟩ := cells_of_cell hc
  have := hW _ o ho hq
  exact ⟨(World.cell?_of_block (w := w) (by rw [this, ho])).trans hc, World.frozen?_of_block (w := w) (by rw [this, ho])⟩
 have H1 := same rfl h1
 have H1f := H1.2.trans h1f
 have H1c := H1.1
 clear same H1 h1 h1f hW hsz
 refine callsIn_of_wp Tryz.func174 rfl trivial ?_ rfl
 simp only [Tryz.ntmps174, List.size_toArray, List.length_cons, List.length_nil, Nat.reduceAdd, Nat.reduceSub, Array.replicate_succ, Array.replicate_zero, List.push_toArray, List.append_toArray, List.nil_append, List.cons_append]
 gi_wp2
 gi_loopw [] (fun wr => ∃ k y : Nat, (vsteps x)[k]? = some y ∧ J k wr ∧ wr.cell? ⟨Bx, 0, none⟩ = some (.int .u64 (y : Nat)) ∧ wr.frozen? ⟨Bx, 0, none⟩ = false)
  (fun wr => (intOf ((wr.cell? ⟨Bx, 0, none⟩).getD undef)).toNat)
 case atStart => exact ⟨0, x, vsteps_head x, h0, H1c, H1f⟩
 case round =>
  clear H1f H1c h0
  obtain ⟨k, y, hx, hj, c1, f1⟩ := hrel
  have hk : k < (vsteps x).length := (List.getElem?_eq_some_iff.1 hx).1
  have hYk := hY k wr hk hj
  simp only [hx, Option.getD_some] at hYk
  obtain ⟨hyx, hy0, hy1⟩ := vsteps_at x x k y (Nat.le_refl _) hx
  obtain ⟨fn, tmps, assign, body, hy, hR⟩ := hYk
  rw [show (((y % 128 : Nat) : Nat) : Int) = (y : Int) % 128 by omega, show decide (127 < y) = decide (127 < (y : Int)) by rw [decide_eq_decide]; omega] at hy
  have HY0 := Lib.hid hy0; have HY1 := Lib.hid hy1
  have hy64 : y < 18446744073709551616 := by omega
  clear hx hy0 hy1
  have hd0 : W0.depth = none := rfl
  have hand : bits BinOp.and IntKind.u64 ((y : Nat) : Int) 127 = ((y % 128 : Nat) : Int) := by
   rw [show (127 : Int) = ((127 : Nat) : Int) from rfl, bits_and_u64_nat _ _ hy64 (by decide)]
   exact congrArg Int.ofNat (Nat.and_two_pow_sub_one_eq_mod y 7)
  gi_wp2
  refine hR.mono ?_
  rintro e W' ⟨hsz, hS, hres⟩
  have same : ∀ {q : Addr} {u : Value}, q.block = Bx → wr.cell? q = some u → W'.cell? q = some u ∧ W'.frozen? q = wr.frozen? q := by
   intro q u hq hc
   obtain ⟨o, ho, _⟩ := cells_of_cell hc
   have := hS _ o ho hq
   exact ⟨(World.cell?_of_block (w := wr) (by rw [this, ho])).trans hc, World.frozen?_of_block (w := wr) (by rw [this, ho])⟩
  have d1 := (same rfl c1).1
  have d1f := (same rfl c1).2.trans f1
  clear same hy hR hS hand
  rcases hres with ⟨rfl, hj'⟩ | ⟨rfl, hjx⟩
  ·by_cases h0 : 127 < y
   ·have e1 := Lib.hid (HY1.out h0)
    clear HY0 HY1
    have ht : decide (127 < (y : Int)) = true := by simp; omega
    gi_wp2
    go_roundw
    case rel =>
     refine ⟨k + 1, y / 128, e1.out, hJ _ _ _ hj' (Mod.setCell _ rfl), ?_, by rw [World.frozen?_setCell]; exact d1f⟩
     rw [World.cell?_setCell_same' _ _ _ (by rw [d1]; rfl)]
     simp
    case measure =>
     rw [World.cell?_setCell_same' _ _ _ (by rw [d1]; rfl), c1]; simp [intOf]; omega
   ·have hkl := HY0.out (by omega)
    clear HY0 HY1
    have ht : decide (127 < (y : Int)) = false := by simp; omega
    gi_wp2
    go_end0
    exact ⟨⟨_, rfl⟩, .inl (hkl ▸ hj')⟩
  ·gi_wp2
   go_end0
   exact ⟨⟨_, rfl⟩, .inr hjx⟩
end Go.Proofs.YtalophngappkhaaGreatDoor
namespace Go.Proofs.YtalophngappkhaaGreatDoor
open Go.RowKit Go.Shelf
attribute [local go_sem] Oper.semAt_some

def upto (zs : Nat → Int) (k : Nat) : List Int := (List.range k).map zs
theorem upto_succ (zs : Nat → Int) (k : Nat) : upto zs (k + 1) = upto zs k ++ [zs k] := by simp [upto, List.range_succ]
theorem upto_len (zs : Nat → Int) (k : Nat) : (upto zs k).length = k := by simp [upto]
theorem upto_list (l : List Int) : upto (fun k => l[k]?.getD 0) l.length = l := by
 apply List.ext_getElem (by simp [upto])
 intro i h1 h2
 simp [upto, h2]
set_option maxHeartbeats 400000 in
theorem appendSeq_int (w : World) (gf : Nat) (lb : Array Value) (zs : Nat → Int) (N : Nat) (S T : Nat → Prop) (eg : ∀ args w, (callFunc gf args).run Tryz.prog w = .ok (.enter gf args) w)
  (hit : Iter Tryz.prog gf lb (fun k => #[.int .i64 (zs k)]) N S T w) (hT : ∀ k, T k → k < w.heap.size) (hS : ∀ k, S k → k < w.heap.size) (hN : N ≤ 1000000) :
  CallsIn W0 0 Tryz.prog 121 #[.slice none 0 0, .func (.func gf) #[] lb] w fun e w' => ∃ v, e = .returned v ∧ OV encI 1 3 w.heap.size w' v (upto zs N) ∧ Mod T w w' := by
 have HIT := Lib.hid hit
 have HT := Lib.hid hT
 have HS := Lib.hid hS
 clear hit hT hS
 have hfn : ∀ f, W0.fn f := fun _ => trivial
 have hd0 : W0.depth = none := rfl
 refine callsIn_of_wp_marks Tryz.func121 rfl trivial ?_ rfl
 simp only [Tryz.ntmps121, List.size_toArray, List.length_cons, List.length_nil, Nat.reduceAdd, Nat.reduceSub, Array.replicate_succ, Array.replicate_zero, List.push_toArray, List.append_toArray, List.nil_append, List.cons_append]
 gi_wp2
 obtain ⟨w1, hw1⟩ : ∃ w1, w.alloc (.cells #[.slice none 0 0] 32) = w1 := ⟨_, rfl⟩
 rw [hw1]
 have hz : w1.heap.size = w.heap.size + 1 := by rw [← hw1]; simp
 have bx : Boxed w1 w.heap.size 32 (.slice none 0 0) := by rw [← hw1]; exact Boxed.new _ _ _
 have m0 : Mod T w w1 := by rw [← hw1]; exact .alloc _
 have i1 : Iter Tryz.prog gf lb (fun k => #[.int .i64 (zs k)]) N S T w1 := HIT.out.later m0.size (fun k o ho _ => by rw [← hw1]; exact (Below.heap_alloc _ _ _ (Array.getElem?_eq_some_iff.1 ho).1).trans ho)
 clear hw1
 refine wp_range (xs := fun k => #[.int .i64 (zs k)]) rfl eg i1
  (fun k e => by have := HT.out k e; omega) (fun k e => by have := HS.out k e; omega) (fun k => rfl)
  (fun k W => ∃ v, Boxed W w.heap.size 32 v ∧ OV encI 1 3 w.heap.size W v (upto zs k) ∧ Mod T w W) (fun _ _ => False)
  (fun k W1 W2 h hc => ?stab)
  (fun _ _ _ h _ => h) ⟨_, bx, OV.nil _ _, m0⟩ ?round ?done (fun _ _ _ h => h.elim)
 case stab =>
  obtain ⟨v, h1, h3, h5⟩ := h
  exact ⟨v, h1.chg hc (fun t => by have := HT.out _ t; omega), h3.chg hc (fun g hg t => by have := HT.out _ t; have := (h3.block g hg).1; omega), hc.mod h5 (by omega)⟩
 case round =>
  rintro l k W hk hl hl2 ⟨v, h1, h3, h5⟩
  gi_wp2
  refine ⟨BK.refl _ _, fun W2 hc hq => ?_⟩
  clear hq
  have g1 := h1.chg hc (fun t => t)
  have g3 := h3.chg hc (fun _ _ t => t)
  have g5 : Mod T w W2 := Chg.mod (B := w1.heap.size) (T := T) ⟨hc.os, hc.tape, hc.output, hc.size, fun k o ho _ hb => hc.block k o ho (fun t => t) hb⟩ h5 (by omega)
  have hsz := g5.size
  clear h1 h3 h5 hc bx m0 i1
  have g1c := g1.cell
  have hnew : EV encI 1 (W2.alloc (.cells #[.int .i64 (zs k)] 3)) (.slice (some ⟨W2.heap.size, 0, none⟩) 1 1) [zs k] := EV.new1 rfl (Nat.le_refl _)
  gi_wp2_with (gi_at_builtin; refine wpListIn_app elemI encI_len encI_one rfl _ _ rfl _ _ rfl rfl (g3.alloc _) hnew ?q1 ?q2 ?_)
  case q1 => rw [upto_len]; simp; omega
  case q2 => simp; omega
  intro v' W3 hown hgrow
  obtain ⟨g, cap, hv', hg1, hg2⟩ := hown.form (by simp)
  obtain ⟨k1, k2, k3, k4, k5⟩ := Boxed.appended g1 (by decide) g3 hsz (Nat.le_refl _) hown hgrow
  have k1c := k1.cell
  have k1f := k1.frozen
  have K6 : Mod T w (W3.setCell ⟨w.heap.size, 0, none⟩ v') := g5.trans_new (T' := fun k => w.heap.size ≤ k) ⟨k5.os, k5.tape, k5.output, k5.size, fun k _ hn => k5.block k (by omega)⟩ (fun k hk h => by omega)
  have K7 : BK S W2 (W3.setCell ⟨w.heap.size, 0, none⟩ v') := ⟨k4.size, fun j o ho hs => by
   rcases hs with hs | hs
   ·exact (k5.block j (by have := HS.out j hs; omega)).trans ho
   ·exact k4.same j o ho (by cases o <;> simp_all [isBook, Obj.isCells])⟩
  obtain ⟨m, hm⟩ : ∃ m, (upto zs k ++ [zs k]).length = m := ⟨_, rfl⟩
  rw [hm] at hv'
  clear hm
  subst hv'
  rw [← upto_succ] at k3 
  clear hown hgrow k1 k4 k5 g1 g3 g5 g1c hnew
  gi_wp2
  exact ⟨K7, _, k2, k3, K6⟩
 case done =>
  rintro D W ⟨v, h1, h3, h5⟩ hD hK
  have h1c := h1.cell
  clear bx
  gi_wp2
  refine post_mark hK (fun w' => results_tmp rfl _ _ w') ⟨_, rfl, h3.chg (Chg.putObj (B := 0) hK rfl (Nat.zero_le _)) (fun _ _ t => t), ?_⟩
  exact Chg.mod (B := w1.heap.size) (T := T) (Chg.putObj hK rfl (by omega)) h5 (by omega)

set_option maxHeartbeats 400000 in
theorem collect_int (w : World) (gf : Nat) (lb : Array Value) (zs : Nat → Int) (N : Nat) (S T : Nat → Prop) (eg : ∀ args w, (callFunc gf args).run Tryz.prog w = .ok (.enter gf args) w)
  (hit : Iter Tryz.prog gf lb (fun k => #[.int .i64 (zs k)]) N S T w) (hT : ∀ k, T k → k < w.heap.size) (hS : ∀ k, S k → k < w.heap.size) (hN : N ≤ 1000000) :
  Calls Tryz.prog 95 #[.func (.func gf) #[] lb] w fun e w' => ∃ v, e = .returned v ∧ OV encI 1 3 w.heap.size w' v (upto zs N) ∧ Mod T w w' := by
 have H := Lib.hid (of_in (appendSeq_int w gf lb zs N S T eg hit hT hS hN))
 clear hit hT hS eg
 go_enter Tryz.func95, Tryz.ntmps95
 go_wp2_with fail
 refine H.out.mono ?_
 rintro e w' ⟨v, rfl, h1, h2⟩
 go_wp2
 go_ret
 exact ⟨v, rfl, h1, h2⟩
end Go.Proofs.YtalophngappkhaaGreatDoor
namespace Go.Proofs.YtalophngappkhaaGreatDoor
open Go Go.RowKit Go.Shelf
section
variable {P : Program} {α : Type} {enc : α → List Value} {k bytes base : Nat} {t e : TypeId} {w w' : World} {v sv : Value} {xs ys : List α}
theorem wpListIn_app_at {F : Fence} {n : Nat} {ops : Array Oper} {rest : List Oper} {o : Oper} {a : Act} {Q : Exit → Act → World → Prop} (T : ElemT P t e k bytes) (hk : ∀ x, (enc x).length = k) (h1 : ∀ x, ∀ u ∈ enc x, u.oneCell' = true)
  (hgd : o.guard = none) (s x : Operand) (ho : o.op = .call { callee := .builtin .append, args := #[s, x], argTypes := #[t, t] })
  (v sv : Value) (hs : a.eval s = v) (hx : a.eval x = sv) (hown : OV enc k e base w v xs) (hys : EV enc k w sv ys) (hn : xs.length + ys.length ≤ 1000000000) (hbase : base ≤ w.heap.size)
  (h : ∀ v' w', OV enc k e base w' v' (xs ++ ys) → w.grownBy w' v.ownBlock → (v'.ownBlock = v.ownBlock ∨ v'.ownBlock = some w.heap.size) → wpListIn F n P ops Q rest (a.put o.dst v') w') : wpListIn F n P ops Q (o :: rest) a w := by
 refine wpListIn_plain hgd fun K hK' => ?_
 obtain ⟨v', w', hr, h2, h3, h4⟩ := run_app_at T hk h1 o.type hown hys hn hbase
 unfold Oper.wpIn
 refine ⟨?_, ?_⟩
 ·simp [Oper.about, ho, resolve, Target.leads, Sem.run_pure]
 ·rw [Oper.semAt_plain F _ _ (by rw [ho]; intro c hc'; cases hc')]
  simp [execOp, ho, resolve, invoke, builtin, hs, hx, hr, Result.andThen]
  exact hK' _ _ (h v' w' h2 h3 h4)
end
attribute [local go_sem] Oper.semAt_some
theorem elemB : ElemT Tryz.prog 110 5 1 1 := ⟨Tryz.underlying110, by
 have h : (Tryz.prog.info? 5).map (fun i => (i.zero, i.size, i.bytes)) = some (some (.int .u8 0), 1, 1) := by kernel_rfl
 obtain ⟨i, h1, h2, h3, h4⟩ := info_parts h
 exact ⟨i, _, h1, h2, h3, h4, rfl⟩, by omega, by omega⟩

theorem or_u8 (g : Nat) (h : g < 128) : bits BinOp.or IntKind.u8 ((g : Nat) : Int) 128 = ((g + 128 : Nat) : Int) := by
 have : ∀ g < 128, bits BinOp.or IntKind.u8 ((g : Nat) : Int) 128 = ((g + 128 : Nat) : Int) := by decide
 exact this g h

set_option maxHeartbeats 400000 in
theorem groups_ok (w : World) (x : Nat) :
  CallsIn W0 0 Tryz.prog 162 #[.int .u64 (x : Nat)] w fun e w' => e = .returned (.func (.func 174) #[] #[.pointer (some ⟨w.heap.size, 0, none⟩)]) ∧
   w.alloc (Obj.cells #[.int .u64 (x : Nat)] 26) = w' := by
 have hd0 : W0.depth = none := rfl
 have hfn : ∀ f, W0.fn f := fun _ => trivial
 refine callsIn_of_wp Tryz.func162 rfl trivial ?_ rfl
 simp only [Tryz.ntmps162, List.size_toArray, List.length_cons, List.length_nil, Nat.reduceAdd, Nat.reduceSub, Array.replicate_succ, Array.replicate_zero, List.push_toArray, List.append_toArray, List.nil_append, List.cons_append]
 gi_wp2
 go_ret
 exact ⟨rfl, rfl⟩

theorem take_vb {x k : Nat} (hk : k < (vsteps x).length) : (vbytes x).take (k + 1) = (vbytes x).take k ++ [vbyte ((vsteps x)[k]?.getD 0)] := by
 rw [List.take_add_one]
 congr 1
 unfold vbytes
 rw [List.getElem?_map, List.getElem?_eq_getElem hk]
 rfl

set_option maxHeartbeats 1000000 in
theorem put_ok (w : World) (v : Value) (xs : List Nat) (x base : Nat) (hv : OV encB 1 5 base w v xs) (hx : x < 18446744073709551616) (hlen : xs.length ≤ 1000000) (hbase : base ≤ w.heap.size) :
  Calls Tryz.prog 131 #[v, .int .u64 (x : Nat)] w fun e w' => ∃ v', e = .returned v' ∧ OV encB 1 5 base w' v' (xs ++ vbytes x) ∧ Below base w w' := by
 obtain ⟨A, c, rfl⟩ := (hv.ev encB_len).shape
 have hvb := hv.block
 have HV := Lib.hid hv
 obtain ⟨n, hn⟩ : ∃ n, xs.length = n := ⟨_, rfl⟩
 have HN := Lib.hid hn
 have hlv := (vbytes_len x hx).2
 rw [hn] at HV hvb hlen ⊢
 clear hv hn
 refine of_in ?_
 have hfn : ∀ f, W0.fn f := fun _ => trivial
 have hd0 : W0.depth = none := rfl
 refine callsIn_of_wp_marks Tryz.func131 rfl trivial ?_ rfl
 simp only [Tryz.ntmps131, List.size_toArray, List.length_cons, List.length_nil, Nat.reduceAdd, Nat.reduceSub, Array.replicate_succ, Array.replicate_zero, List.push_toArray, List.append_toArray, List.nil_append, List.cons_append]
 gi_wp2
 obtain ⟨w1, hw1⟩ : ∃ w1, w.alloc (.cells #[.slice A n c] 110) = w1 := ⟨_, rfl⟩
 rw [hw1]
 have hz : w1.heap.size = w.heap.size + 1 := by rw [← hw1]; simp
 have bx : Boxed w1 w.heap.size 110 (.slice A n c) := by rw [← hw1]; exact Boxed.new _ _ _
 have m0 : Below base w w1 := by rw [← hw1]; exact (Below.refl _ _).alloc hbase _
 have o1 : OV encB 1 5 base w1 (.slice A n c) xs := by rw [← hw1]; exact HV.out.alloc _
 clear hw1
 refine (groups_ok _ _).mono ?_
 rintro e w2 ⟨rfl, hw2⟩
 have hz2 : w2.heap.size = w1.heap.size + 1 := by rw [← hw2]; simp
 have c2 : w2.cell? ⟨w1.heap.size, 0, none⟩ = some (.int .u64 (x : Nat)) := by rw [← hw2]; simp [go_sem]
 have f2 : w2.frozen? ⟨w1.heap.size, 0, none⟩ = false := by rw [← hw2]; simp [go_sem]
 have o2 : OV encB 1 5 base w2 (.slice A n c) xs := by rw [← hw2]; exact o1.alloc _
 have bx2 : Boxed w2 w.heap.size 110 (.slice A n c) := by rw [← hw2]; exact bx.alloc _
 have m2 : Below base w w2 := by rw [← hw2]; exact m0.alloc (by omega) _
 rw [hz] at c2 f2 hz2
 have HIT := Lib.hid (groups1_iter w2 (w.heap.size + 1) x c2 f2 hx)
 clear hw2 o1 bx m0 hx
 gi_wp2
 obtain ⟨zs, hzs⟩ : ∃ zs : Nat → Array Value, zs = fun k => #[.int .u8 (((vsteps x)[k]?.getD 0 % 128 : Nat) : Int), .bool (decide (127 < (vsteps x)[k]?.getD 0))] := ⟨_, rfl⟩
 rw [← hzs] at HIT
 have hz0 : ∀ k, (zs k).size = 2 := fun k => by rw [hzs]; rfl
 refine wp_range (xs := zs) rfl (enters_of Tryz.func174 (by kernel_rfl) rfl)
  HIT.out
  (fun k e => by subst e; omega) (fun k e => by omega) hz0
  (fun k W => ∃ v, Boxed W w.heap.size 110 v ∧ OV encB 1 5 base W v (xs ++ (vbytes x).take k) ∧ Below base w W ∧ (∀ g, v.ownBlock = some g → g ≠ w.heap.size + 1 ∧ g ≠ w.heap.size)) (fun _ _ => False)
  (fun k W1 W2 h hc => ?stab)
  (fun _ _ _ h _ => h) ⟨_, bx2, by simpa using o2, m2, fun g hg => by have := (hvb g hg).2; omega⟩ ?round ?done (fun _ _ _ h => h.elim)
 case stab =>
  obtain ⟨v, h1, h3, h5, h6⟩ := h
  exact ⟨v, h1.chg hc (fun t => by omega), h3.chg hc (fun g hg t => (h6 g hg).1 t), hc.below h5 hbase (by omega) (fun k t => by omega), h6⟩
 case round =>
  rintro l k W hk hl hl2 ⟨v, h1, h3, h5, h6⟩
  obtain ⟨y, hy⟩ : ∃ y, (vsteps x)[k]? = some y := ⟨_, List.getElem?_eq_getElem hk⟩
  have ht := take_vb hk
  rw [hy] at ht
  simp only [Option.getD_some] at ht
  obtain ⟨b, hb⟩ : ∃ b, vbyte y = b := ⟨_, rfl⟩
  obtain ⟨m, hm⟩ : ∃ m, y % 128 = m := ⟨_, rfl⟩
  have hm2 : m < 128 := by omega
  have hzk : zs k = #[.int .u8 ((m : Nat) : Int), .bool (decide (127 < y))] := by rw [hzs]; simp only [hy, Option.getD_some, hm]
  rw [hb] at ht
  have HT := Lib.hid ht
  have hor : 127 < y → bits BinOp.or IntKind.u8 ((m : Nat) : Int) 128 = ((b : Nat) : Int) := fun h => by rw [or_u8 m hm2, ← hb, vbyte, if_pos h, hm]
  have hnor : ¬ 127 < y → m = b := fun h => by rw [← hb, vbyte, if_neg h, hm]
  rw [hzk]
  clear hzs hz0 hzk HIT ht hy hm hb o2 bx2 c2 f2
  have hlt := List.length_take (i := k) (l := vbytes x)
  by_cases h127 : 127 < y
  ·replace hor := hor h127
   rw [show decide (127 < y) = true by simpa using h127]
   clear hnor
   gi_wp2
   refine ⟨BK.refl _ _, fun W2 hc hq => ?_⟩
   have g1 := h1.chg hc (fun t => t)
   have g3 := h3.chg hc (fun _ _ t => t)
   have g5 := hc.below h5 hbase (by omega) (fun k t => t.elim)
   have hsz := hc.size
   clear hq
   have g1c := g1.cell
   clear h1 h3 h5 hc
   have hnew : EV encB 1 (W2.alloc (.cells #[.int .u8 ((b : Nat) : Int)] 5)) (.slice (some ⟨W2.heap.size, 0, none⟩) 1 1) [b] := EV.new1 rfl (Nat.le_refl _)
   gi_wp2_with (gi_at_builtin; refine wpListIn_app_at elemB encB_len encB_one rfl _ _ rfl _ _ rfl rfl (g3.alloc _) hnew ?q1 ?q2 ?_)
   case q1 => rw [List.length_append, HN.out, List.length_take]; simp; omega
   case q2 => simp; omega
   intro v' W3 hown hgrow hat
   obtain ⟨g, cap, hv', hg1, hg2⟩ := hown.form (by simp; omega)
   obtain ⟨k1, k2, k3, k4, k5⟩ := Boxed.appended g1 (by decide) g3 (by omega) (by omega) hown hgrow
   have k1c := k1.cell
   have k1f := k1.frozen
   have K5 : Below base w (W3.setCell ⟨w.heap.size, 0, none⟩ v') := g5.trans k5
   have K7 : BK (fun k => k = w.heap.size + 1) W2 (W3.setCell ⟨w.heap.size, 0, none⟩ v') := ⟨k4.size, fun j o ho hs => by
    rcases hs with hs | hs
    ·subst hs
     obtain ⟨q1, -⟩ := Array.getElem?_eq_some_iff.1 ho
     refine (Below.heap_setCell _ _ _ _ (by simp)).trans ((hgrow.block _ (by simp; omega) (fun e => (h6 _ e.symm).1 rfl)).trans ((Below.heap_alloc _ _ _ q1).trans ho))
    ·exact k4.same j o ho (by cases o <;> simp_all [isBook, Obj.isCells])⟩
   have K8 : ∀ g, v'.ownBlock = some g → g ≠ w.heap.size + 1 ∧ g ≠ w.heap.size := by
    intro g hg
    rcases hat with e | e
    ·exact h6 g (e.symm.trans hg)
    ·rw [e] at hg; cases hg; simp; omega
   obtain ⟨m', hm'⟩ : ∃ mm, (xs ++ ((vbytes x).take k ++ [b])).length = mm := ⟨_, rfl⟩
   rw [hm'] at hv'
   clear hm'
   subst hv'
   rw [← HT.out] at k3
   clear hown hgrow k1 k4 k5 g1 g3 g5 hnew hat
   gi_wp2
   exact ⟨K7, _, k2, k3, K5, K8⟩
  ·have hmb := hnor h127
   subst hmb
   rw [show decide (127 < y) = false by simpa using h127]
   clear hor hnor
   gi_wp2
   refine ⟨BK.refl _ _, fun W2 hc hq => ?_⟩
   have g1 := h1.chg hc (fun t => t)
   have g3 := h3.chg hc (fun _ _ t => t)
   have g5 := hc.below h5 hbase (by omega) (fun k t => t.elim)
   have hsz := hc.size
   clear hq
   have g1c := g1.cell
   clear h1 h3 h5 hc
   have hnew : EV encB 1 (W2.alloc (.cells #[.int .u8 ((m : Nat) : Int)] 5)) (.slice (some ⟨W2.heap.size, 0, none⟩) 1 1) [m] := EV.new1 rfl (Nat.le_refl _)
   gi_wp2_with (gi_at_builtin; refine wpListIn_app_at elemB encB_len encB_one rfl _ _ rfl _ _ rfl rfl (g3.alloc _) hnew ?q1 ?q2 ?_)
   case q1 => rw [List.length_append, HN.out, List.length_take]; simp; omega
   case q2 => simp; omega
   intro v' W3 hown hgrow hat
   obtain ⟨g, cap, hv', hg1, hg2⟩ := hown.form (by simp; omega)
   obtain ⟨k1, k2, k3, k4, k5⟩ := Boxed.appended g1 (by decide) g3 (by omega) (by omega) hown hgrow
   have k1c := k1.cell
   have k1f := k1.frozen
   have K5 : Below base w (W3.setCell ⟨w.heap.size, 0, none⟩ v') := g5.trans k5
   have K7 : BK (fun k => k = w.heap.size + 1) W2 (W3.setCell ⟨w.heap.size, 0, none⟩ v') := ⟨k4.size, fun j o ho hs => by
    rcases hs with hs | hs
    ·subst hs
     obtain ⟨q1, -⟩ := Array.getElem?_eq_some_iff.1 ho
     refine (Below.heap_setCell _ _ _ _ (by simp)).trans ((hgrow.block _ (by simp; omega) (fun e => (h6 _ e.symm).1 rfl)).trans ((Below.heap_alloc _ _ _ q1).trans ho))
    ·exact k4.same j o ho (by cases o <;> simp_all [isBook, Obj.isCells])⟩
   have K8 : ∀ g, v'.ownBlock = some g → g ≠ w.heap.size + 1 ∧ g ≠ w.heap.size := by
    intro g hg
    rcases hat with e | e
    ·exact h6 g (e.symm.trans hg)
    ·rw [e] at hg; cases hg; simp; omega
   obtain ⟨m', hm'⟩ : ∃ mm, (xs ++ ((vbytes x).take k ++ [m])).length = mm := ⟨_, rfl⟩
   rw [hm'] at hv'
   clear hm'
   subst hv'
   rw [← HT.out] at k3
   clear hown hgrow k1 k4 k5 g1 g3 g5 hnew hat
   gi_wp2
   exact ⟨K7, _, k2, k3, K5, K8⟩
 case done =>
  rintro D W ⟨v, h1, h3, h5, h6⟩ hD hK
  have h1c := h1.cell
  rw [List.take_of_length_le (by simp [vbytes])] at h3
  clear bx2 o2 c2 f2
  gi_wp2
  refine post_mark hK (fun w' => results_tmp rfl _ _ w') ⟨_, rfl, h3.chg (Chg.putObj (B := 0) hK rfl (Nat.zero_le _)) (fun _ _ t => t), below_putObj h5 (by omega) _⟩

theorem vwrite_ok (w : World) (x : Nat) (hx : x < 18446744073709551616) :
  Calls Tryz.prog 106 #[.int .u64 (x : Nat)] w fun e w' => ∃ v', e = .returned v' ∧ OV encB 1 5 w.heap.size w' v' (vbytes x) ∧ Below w.heap.size w w' := by
 have H := Lib.hid (put_ok w (.slice none 0 0) [] x w.heap.size (OV.nil _ _) hx (by simp) (Nat.le_refl _))
 clear hx
 go_enter Tryz.func106, Tryz.ntmps106
 go_wp2_with fail
 refine H.out.mono ?_
 rintro e w' ⟨v', rfl, h1, h2⟩
 obtain ⟨A, c, rfl⟩ := (h1.ev encB_len).shape
 clear H
 go_wp2
 go_ret
 exact ⟨_, rfl, by simpa using h1, h2⟩
end Go.Proofs.YtalophngappkhaaGreatDoor
