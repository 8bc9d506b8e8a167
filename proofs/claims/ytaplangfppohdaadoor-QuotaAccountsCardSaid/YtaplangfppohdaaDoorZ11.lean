/- Rows of structs before and behind the library's sort | Comparisons of numbers; cmp.Or at three of them; draws and new blocks alone | The contract of slices.SortFunc at a slice of structs, laid by the kit's tool: that the program holds the text of the library. -/
import Derived.Test.YtaplangfppohdaaDoorZ5
import Derived.Shelf.GgSortFunc.RowK
import Derived.Shelf.GgSortFunc.InsertionK
import Derived.Sort.OwnSortedInts
import Derived.Deep.RegionHeld3
import Derived.Deep.RegionLaw
import Derived.Sort.Grow
import Derived.Shelf.SlGeneric
import Derived.Shelf.SlSortCmp.NoneTotal
import Derived.Ground.SlsfProg
import Derived.Test.YtaplangfppohdaaDoorRows
set_option linter.unusedVariables false
set_option linter.unusedSimpArgs false
set_option linter.unusedSectionVars false
namespace Go.Proofs.YtaplangfppohdaaDoor
open Go Go.RowKit Go.Shelf Go.Sort

section
variable {α : Type} [Inhabited α] {enc : α → List Value} {k : Nat}
theorem flatK_list (hk : ∀ x, (enc x).length = k) (h0 : 0 < k) (xs : List α) : flatK enc k xs.toArray = (xs.flatMap enc).toArray := by
  refine Array.ext (by simp [flat_len hk]) fun t h1 h2 => ?_
  have ht : t < xs.length * k := by simpa using h1
  have hi : t / k < xs.length := Nat.div_lt_of_lt_mul (by rwa [Nat.mul_comm])
  have hj : t % k < (enc xs[t / k]).length := by rw [hk]; exact Nat.mod_lt _ h0
  have hg := flat_get hk xs (t / k) xs[t / k] (List.getElem?_eq_getElem hi) (t % k) _ (List.getElem?_eq_getElem hj)
  rw [show t / k * k + t % k = t by rw [Nat.mul_comm]; exact Nat.div_add_mod t k] at hg
  have e1 : (flatK enc k xs.toArray)[t] = (enc xs[t / k])[t % k] := by
    simp [flatK, hi, hj]
  rw [e1]
  have := (List.getElem?_eq_some_iff.1 hg).2
  simpa using this.symm
theorem holdsK_row {w : World} {g : Nat} {cur : Array Value} {e : TypeId} (hk : ∀ x, (enc x).length = k) (h0 : 0 < k) {xs : List α} (hb : w.heap[g]? = some (.cells cur e (0, 0))) (ht : cur.toList.take (xs.length * k) = xs.flatMap enc) : HoldsK enc k w g 0 xs.toArray := by
  unfold HoldsK
  rw [flatK_list hk h0]
  intro j hj
  have hj' : j < xs.length * k := by simpa [flat_len hk] using hj
  refine ⟨?_, by simp [World.frozen?, hb]⟩
  have h1 : (cur.toList.take (xs.length * k))[j]? = (xs.flatMap enc)[j]? := by rw [ht]
  rw [List.getElem?_take_of_lt hj'] at h1
  simp only [World.cell?, hb, Nat.zero_add]
  simp only [Option.isSome_none, Bool.false_eq_true, if_false]
  rw [← Array.getElem?_toList, h1]
  have hl : j < (xs.flatMap enc).length := by rw [flat_len hk]; exact hj'
  have e := List.getElem?_eq_getElem hl
  simp [e]
theorem sortedK_heap {w : World} {g n : Nat} {os : Array Obj} {cur : Array Value} {e : TypeId} {fr : Nat × Nat} (d : Array α) (hb : w.heap[g]? = some (.cells cur e fr)) :
    (sortWorldK enc k w g 0 n d os).heap[g]? = some (.cells (putCells id 0 (flatK enc k d) cur) e fr) := by
  have hg : g < w.heap.size := (Array.getElem?_eq_some_iff.1 hb).1
  unfold sortWorldK putRowK
  rw [heap_grow_old _ _ (by simpa using hg)]
  simp [putRow, mapBlock, Sort.ahead, Array.getElem?_modify, hb, onCells]
theorem sortedK_grown {w : World} {g n : Nat} {os : Array Obj} (d : Array α) : w.grownBy (sortWorldK enc k w g 0 n d os) (some g) := by
  unfold sortWorldK putRowK
  refine ⟨rfl, rfl, rfl, by simp, fun j hj hne => ?_⟩
  rw [heap_grow_old _ _ (by simpa using hj)]
  have : g ≠ j := fun e => hne (by rw [e])
  simp [putRow, mapBlock, Sort.ahead, Array.getElem?_modify, this]
theorem sortedK_row (hk : ∀ x, (enc x).length = k) (h0 : 0 < k) {w : World} {base g cap n : Nat} {e : TypeId} {os : Array Obj} {cur : Array Value} {ts : List α} {m : Nat} (hl : ts.length = m) (hbase : base ≤ g) (hb : w.heap[g]? = some (.cells cur e (0, 0)))
    (h1 : m ≤ cap) (h2 : cap ≤ maxLen) (h3 : cur.size = cap * k) : OV enc k e base (sortWorldK enc k w g 0 n ts.toArray os) (.slice (some ⟨g, 0, none⟩) m cap) ts := by
  subst hl
  refine ⟨by rw [flat_len hk], .inr ⟨g, cap, _, rfl, hbase, sortedK_heap _ hb, h1, h2, by simp [putCells, h3], ?_⟩⟩
  rw [flatK_list hk h0]
  have hle : ts.length * k ≤ cap * k := Nat.mul_le_mul_right k h1
  apply List.ext_getElem?
  intro j
  by_cases hj : j < ts.length * k
  · have hl : j < (ts.flatMap enc).length := by rw [flat_len hk]; exact hj
    rw [List.getElem?_take_of_lt hj, Array.getElem?_toList]
    have e := List.getElem?_eq_getElem hl
    have hs : j < (List.map (fun a => (enc a).length) ts).sum := by have := hl; rwa [List.length_flatMap] at this
    simp [putCells, hs, e, show j < cur.size by omega]
  · rw [List.getElem?_take_eq_none (by omega), List.getElem?_eq_none (by rw [flat_len hk]; omega)]
end
end Go.Proofs.YtaplangfppohdaaDoor
namespace Go.Proofs.YtaplangfppohdaaDoor
open Go Go.RowKit Go.Shelf Go.Sort
attribute [local go_sem] Oper.semAt_some
def cmpI (a b : Int) : Int := if a < b then -1 else if b < a then 1 else 0
/-- Draws and new blocks alone. -/
def Gro (w w' : World) : Prop := ∃ q os, w' = grow (w.drewN q) os
theorem Gro.refl (w : World) : Gro w w := ⟨0, #[], by simp [World.drewN]⟩
theorem Gro.alloc (w : World) (o : Obj) : Gro w (w.alloc o) := ⟨0, #[o], by rw [alloc_eq_grow]; rfl⟩
theorem Gro.drew (w : World) : Gro w w.drew := ⟨1, #[], by rw [grow_empty]; rfl⟩
theorem Gro.trans {a b c : World} (h : Gro a b) (k : Gro b c) : Gro a c := by
  obtain ⟨q, os, rfl⟩ := h
  obtain ⟨q', os', rfl⟩ := k
  exact ⟨q + q', os ++ os', by simp [grow, World.drewN, Nat.add_assoc]⟩
theorem Gro.below {w w' : World} (h : Gro w w') : Below w.heap.size w w' := by
  obtain ⟨q, os, rfl⟩ := h
  exact ⟨rfl, rfl, rfl, by simp [grow, World.drewN], fun k hk => by simp [grow, World.drewN, Array.getElem?_append, hk]⟩
set_option maxHeartbeats 800000 in
theorem cmpI_ok (w : World) (a b : Int) : Calls Tryd.prog 47 #[.int .i64 a, .int .i64 b] w fun e w' => e = .returned (.int .i64 (cmpI a b)) ∧ w = w' := by
  have na : (a != a) = false := by simp
  have nb : (b != b) = false := by simp
  by_cases h1 : a < b
  · have X := Lib.hid (show cmpI a b = -1 by unfold cmpI; rw [if_pos h1])
    go_enter Tryd.func47, Tryd.ntmps47
    go_wp2
    go_ret
    exact ⟨ret_int X.out.symm, rfl⟩
  · by_cases h2 : b < a
    · have X := Lib.hid (show cmpI a b = 1 by unfold cmpI; rw [if_neg h1, if_pos h2])
      go_enter Tryd.func47, Tryd.ntmps47
      go_wp2
      go_ret
      exact ⟨ret_int X.out.symm, rfl⟩
    · have X := Lib.hid (show cmpI a b = 0 by unfold cmpI; rw [if_neg h1, if_neg h2])
      go_enter Tryd.func47, Tryd.ntmps47
      go_wp2
      go_ret
      exact ⟨ret_int X.out.symm, rfl⟩
theorem cmpI_range (a b : Int) : -1 ≤ cmpI a b ∧ cmpI a b ≤ 1 := by unfold cmpI; split <;> (try split) <;> omega
set_option maxHeartbeats 1600000 in
/-- cmp.Or at a literal of three numbers. -/
theorem or3_ok (w : World) (m : Nat) (a b c R : Int) (hm : w.heap.size = m) (hR : (if a ≠ 0 then a else if b ≠ 0 then b else c) = R) :
    Calls Tryd.prog 46 #[.slice (some ⟨m, 0, none⟩) 3 3] (w.alloc (.cells #[.int .i64 a, .int .i64 b, .int .i64 c] 3)) fun e w' => e = .returned (.int .i64 R) ∧ w.alloc (.cells #[.int .i64 a, .int .i64 b, .int .i64 c] 3) = w' := by
  have r := ((EV.newL (w := w) (e := 3) (xs := [a, b, c]) (n := 3) (c := 3) (cs := #[.int .i64 a, .int .i64 b, .int .i64 c]) encI_len rfl rfl (Nat.le_refl _)).row3 (by simp))
  rw [hm] at r
  have c0 := r.int (i := 0) (by simp)
  have c1 := r.int (i := 1) (by simp)
  have c2 := r.int (i := 2) (by simp)
  simp only [Nat.zero_add, List.getElem?_cons_zero, List.getElem?_cons_succ, Option.getD_some] at c0 c1 c2
  generalize w.alloc (.cells #[.int .i64 a, .int .i64 b, .int .i64 c] 3) = w1 at c0 c1 c2 ⊢
  clear r hm
  have HR := Lib.hid hR
  clear hR
  by_cases ha : a = 0
  · have da : (a != 0) = false := by simp [ha]
    have HA := Lib.hid ha
    clear ha
    by_cases hb : b = 0
    · have db : (b != 0) = false := by simp [hb]
      have HB := Lib.hid hb
      clear hb
      by_cases hc : c = 0
      · have dc : (c != 0) = false := by simp [hc]
        have X := Lib.hid (show R = 0 by rw [← HR.out, if_neg (by simp [HA.out]), if_neg (by simp [HB.out]), hc])
        clear hc HR
        go_enter Tryd.func46, Tryd.ntmps46
        go_wp2
        refine wp_loop_rounds 4 ?_
        rw [rounds_succ]
        go_wp2
        rw [rounds_succ]
        go_wp2
        rw [rounds_succ]
        go_wp2
        rw [rounds_succ]
        go_wp2
        go_ret
        exact ⟨ret_int X.out.symm, rfl⟩
      · have dc : (c != 0) = true := by simp [hc]
        have X := Lib.hid (show R = c by rw [← HR.out, if_neg (by simp [HA.out]), if_neg (by simp [HB.out])])
        clear hc HR
        go_enter Tryd.func46, Tryd.ntmps46
        go_wp2
        refine wp_loop_rounds 3 ?_
        rw [rounds_succ]
        go_wp2
        rw [rounds_succ]
        go_wp2
        rw [rounds_succ]
        go_wp2
        go_ret
        exact ⟨ret_int X.out.symm, rfl⟩
    · have db : (b != 0) = true := by simp [hb]
      have X := Lib.hid (show R = b by rw [← HR.out, if_neg (by simp [HA.out]), if_pos hb])
      clear hb HR
      go_enter Tryd.func46, Tryd.ntmps46
      go_wp2
      refine wp_loop_rounds 2 ?_
      rw [rounds_succ]
      go_wp2
      rw [rounds_succ]
      go_wp2
      go_ret
      exact ⟨ret_int X.out.symm, rfl⟩
  · have da : (a != 0) = true := by simp [ha]
    have X := Lib.hid (show R = a by rw [← HR.out, if_pos ha])
    clear ha HR
    go_enter Tryd.func46, Tryd.ntmps46
    go_wp2
    refine wp_loop_rounds 1 ?_
    rw [rounds_succ]
    go_wp2
    go_ret
    exact ⟨ret_int X.out.symm, rfl⟩
theorem below_step {w a b : World} (h : Below w.heap.size w a) (k : Below a.heap.size a b) : Below w.heap.size w b := h.trans (k.mono h.size)
theorem below_step' {B : Nat} {w a b : World} (hB : B ≤ w.heap.size) (h : Below B w a) (k : Below a.heap.size a b) : Below B w b := h.trans (k.mono (Nat.le_trans hB h.size))
theorem held6 {w wz wz' : World} {p0 p1 p2 p3 p4 p5 : Addr} {u0 u1 u2 u3 u4 u5 : Value} (h : wz.cell? p0 = some u0 ∧ wz.cell? p1 = some u1 ∧ wz.cell? p2 = some u2 ∧ wz.cell? p3 = some u3 ∧ wz.cell? p4 = some u4 ∧ wz.cell? p5 = some u5 ∧ Gro w wz) (k : Gro wz wz') :
    wz'.cell? p0 = some u0 ∧ wz'.cell? p1 = some u1 ∧ wz'.cell? p2 = some u2 ∧ wz'.cell? p3 = some u3 ∧ wz'.cell? p4 = some u4 ∧ wz'.cell? p5 = some u5 ∧ Gro w wz' :=
  ⟨below_cell k.below h.1, below_cell k.below h.2.1, below_cell k.below h.2.2.1, below_cell k.below h.2.2.2.1, below_cell k.below h.2.2.2.2.1, below_cell k.below h.2.2.2.2.2.1, h.2.2.2.2.2.2.trans k⟩
end Go.Proofs.YtaplangfppohdaaDoor
namespace Go.Proofs
open Go.Shelf
def Tryd.sortUs_ren : Go.Shelf.Ren := ⟨fun | 6 => 44 | 15 => 78 | 14 => 77 | 28 => 102 | 29 => 103 | 20 => 94 | 21 => 95 | 22 => 96 | 23 => 97 | 24 => 98 | 25 => 99 | 26 => 100 | 27 => 101 | 46 => 114 | 47 => 115 | 48 => 116 | 49 => 117 | 50 => 118 | 57 => 124 | n => n, fun | 22 => 45 | 24 => 50 | 25 => 111 | 3 => 3 | 39 => 157 | 0 => 0 | 53 => 69 | 55 => 57 | 4 => 4 | 46 => 175 | 45 => 174 | 50 => 149 | 5 => 5 | 9 => 9 | 66 => 197 | 70 => 192 | 76 => 206 | 77 => 94 | n => n, fun | n => n⟩
theorem Tryd.sortUs : Go.Proofs.SlLaysF0.n6 Tryd.prog Tryd.sortUs_ren := {
  mixed := by kernel_rfl
  f6 := ⟨Tryd.f44.name, by decide, Tryd.func44.trans (congrArg some (by kernel_rfl))⟩
  f14 := ⟨Tryd.f77.name, by decide, Tryd.func77.trans (congrArg some (by kernel_rfl))⟩
  f15 := Tryd.func78.trans (congrArg some (by kernel_rfl))
  f20 := ⟨Tryd.f94.name, by decide, Tryd.func94.trans (congrArg some (by kernel_rfl))⟩
  f21 := ⟨Tryd.f95.name, by decide, Tryd.func95.trans (congrArg some (by kernel_rfl))⟩
  f22 := ⟨Tryd.f96.name, by decide, Tryd.func96.trans (congrArg some (by kernel_rfl))⟩
  f23 := ⟨Tryd.f97.name, by decide, Tryd.func97.trans (congrArg some (by kernel_rfl))⟩
  f24 := ⟨Tryd.f98.name, by decide, Tryd.func98.trans (congrArg some (by kernel_rfl))⟩
  f25 := ⟨Tryd.f99.name, by decide, Tryd.func99.trans (congrArg some (by kernel_rfl))⟩
  f26 := ⟨Tryd.f100.name, by decide, Tryd.func100.trans (congrArg some (by kernel_rfl))⟩
  f27 := ⟨Tryd.f101.name, by decide, Tryd.func101.trans (congrArg some (by kernel_rfl))⟩
  f28 := Tryd.func102.trans (congrArg some (by kernel_rfl))
  f29 := Tryd.func103.trans (congrArg some (by kernel_rfl))
  f46 := ⟨Tryd.f114.name, by decide, Tryd.func114.trans (congrArg some (by kernel_rfl))⟩
  f47 := Tryd.func115.trans (congrArg some (by kernel_rfl))
  f48 := Tryd.func116.trans (congrArg some (by kernel_rfl))
  f49 := ⟨Tryd.f117.name, by decide, Tryd.func117.trans (congrArg some (by kernel_rfl))⟩
  f50 := ⟨Tryd.f118.name, by decide, Tryd.func118.trans (congrArg some (by kernel_rfl))⟩
  f57 := ⟨Tryd.f124.name, by decide, Tryd.func124.trans (congrArg some (by kernel_rfl))⟩
  t0 := Tryd.underlying0
  a0 := Tryd.isAgg0
  z0 := Tryd.sizeOf0
  v0 := Tryd.zeroValue0
  t3 := Tryd.underlying3
  a3 := Tryd.isAgg3
  z3 := Tryd.sizeOf3
  v3 := Tryd.zeroValue3
  t4 := Tryd.underlying4
  a4 := Tryd.isAgg4
  z4 := Tryd.sizeOf4
  v4 := Tryd.zeroValue4
  t5 := Tryd.underlying5
  a5 := Tryd.isAgg5
  z5 := Tryd.sizeOf5
  v5 := Tryd.zeroValue5
  t9 := Tryd.underlying9
  a9 := Tryd.isAgg9
  z9 := Tryd.sizeOf9
  v9 := Tryd.zeroValue9
  t22 := Tryd.underlying45
  a22 := Tryd.isAgg45
  z22 := Tryd.sizeOf45
  v22 := Tryd.zeroValue45
  t25 := Tryd.underlying111
  a25 := Tryd.isAgg111
  z25 := Tryd.sizeOf111
  v25 := Tryd.zeroValue111
  t39 := Tryd.underlying157
  a39 := Tryd.isAgg157
  z39 := Tryd.sizeOf157
  v39 := Tryd.zeroValue157
  t45 := Tryd.underlying174
  a45 := Tryd.isAgg174
  z45 := Tryd.sizeOf174
  v45 := Tryd.zeroValue174
  t46 := Tryd.underlying175
  a46 := Tryd.isAgg175
  z46 := Tryd.sizeOf175
  v46 := Tryd.zeroValue175
  t50 := Tryd.underlying149
  a50 := Tryd.isAgg149
  z50 := Tryd.sizeOf149
  v50 := Tryd.zeroValue149
  t53 := Tryd.underlying69
  a53 := Tryd.isAgg69
  z53 := Tryd.sizeOf69
  v53 := Tryd.zeroValue69
  t55 := Tryd.underlying57
  a55 := Tryd.isAgg57
  z55 := Tryd.sizeOf57
  v55 := Tryd.zeroValue57
  t66 := Tryd.underlying197
  a66 := Tryd.isAgg197
  z66 := Tryd.sizeOf197
  v66 := Tryd.zeroValue197
  t70 := Tryd.underlying192
  a70 := Tryd.isAgg192
  z70 := Tryd.sizeOf192
  v70 := Tryd.zeroValue192
  t76 := Tryd.underlying206
  a76 := Tryd.isAgg206
  z76 := Tryd.sizeOf206
  v76 := Tryd.zeroValue206
  t77 := Tryd.underlying94
  a77 := Tryd.isAgg94
  z77 := Tryd.sizeOf94
  v77 := Tryd.zeroValue94 }
end Go.Proofs
