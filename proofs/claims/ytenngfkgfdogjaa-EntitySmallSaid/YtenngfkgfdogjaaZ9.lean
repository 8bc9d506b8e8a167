/- The contract of slices.SortFunc at a slice of structs, laid by the kit's tool: that the program holds the text of the library | Plain laws for entity.filled: marking the way up | Contract of entity.filled | The second closure of entity.members | Contract of entity.members | Rows of structs before and behind the library's sort | slices.SortFunc at keys, in the words of these texts | Contract of entity.members: the walk. -/
import Derived.Shelf.SlGeneric
import Derived.Shelf.SlSortCmp.NoneTotal
import Derived.Ground.SlsfProg
import Derived.Test.YtenngfkgfdogjaaRows
import Derived.Test.YtenngfkgfdogjaaZ3
import Derived.Laws.OwnMore
import Derived.Test.YtenngfkgfdogjaaZ5
import Derived.Test.YtenngfkgfdogjaaZ6
import Derived.Test.YtenngfkgfdogjaaZ7
import Derived.Test.YtenngfkgfdogjaaZ8
import Derived.Shelf.GgSortFunc.RowK
import Derived.Shelf.GgSortFunc.InsertionK
import Derived.Sort.OwnSortedInts
import Derived.Test.YtenngfkgfdogjaaZ4
set_option linter.unusedVariables false
set_option linter.unusedSimpArgs false
set_option linter.unusedSectionVars false
namespace Go.Proofs
open Go.Shelf
def Try.sortKy_ren : Go.Shelf.Ren := ⟨fun | 6 => 86 | 15 => 76 | 14 => 117 | 28 => 113 | 29 => 114 | 20 => 129 | 21 => 130 | 22 => 131 | 23 => 132 | 24 => 133 | 25 => 134 | 26 => 135 | 27 => 136 | 46 => 138 | 47 => 125 | 48 => 126 | 49 => 139 | 50 => 140 | 57 => 141 | n => n, fun | 22 => 40 | 24 => 24 | 25 => 89 | 3 => 3 | 39 => 83 | 0 => 0 | 53 => 49 | 55 => 22 | 4 => 4 | 46 => 163 | 45 => 162 | 50 => 114 | 5 => 5 | 9 => 9 | 66 => 177 | 70 => 181 | 76 => 188 | 77 => 131 | n => n, fun | n => n⟩
theorem Try.sortKy : Go.Proofs.SlLaysF0.n6 Try.prog Try.sortKy_ren := {
  mixed := by kernel_rfl
  f6 := ⟨Try.f86.name, by decide, Try.func86.trans (congrArg some (by kernel_rfl))⟩
  f14 := ⟨Try.f117.name, by decide, Try.func117.trans (congrArg some (by kernel_rfl))⟩
  f15 := Try.func76.trans (congrArg some (by kernel_rfl))
  f20 := ⟨Try.f129.name, by decide, Try.func129.trans (congrArg some (by kernel_rfl))⟩
  f21 := ⟨Try.f130.name, by decide, Try.func130.trans (congrArg some (by kernel_rfl))⟩
  f22 := ⟨Try.f131.name, by decide, Try.func131.trans (congrArg some (by kernel_rfl))⟩
  f23 := ⟨Try.f132.name, by decide, Try.func132.trans (congrArg some (by kernel_rfl))⟩
  f24 := ⟨Try.f133.name, by decide, Try.func133.trans (congrArg some (by kernel_rfl))⟩
  f25 := ⟨Try.f134.name, by decide, Try.func134.trans (congrArg some (by kernel_rfl))⟩
  f26 := ⟨Try.f135.name, by decide, Try.func135.trans (congrArg some (by kernel_rfl))⟩
  f27 := ⟨Try.f136.name, by decide, Try.func136.trans (congrArg some (by kernel_rfl))⟩
  f28 := Try.func113.trans (congrArg some (by kernel_rfl))
  f29 := Try.func114.trans (congrArg some (by kernel_rfl))
  f46 := ⟨Try.f138.name, by decide, Try.func138.trans (congrArg some (by kernel_rfl))⟩
  f47 := Try.func125.trans (congrArg some (by kernel_rfl))
  f48 := Try.func126.trans (congrArg some (by kernel_rfl))
  f49 := ⟨Try.f139.name, by decide, Try.func139.trans (congrArg some (by kernel_rfl))⟩
  f50 := ⟨Try.f140.name, by decide, Try.func140.trans (congrArg some (by kernel_rfl))⟩
  f57 := ⟨Try.f141.name, by decide, Try.func141.trans (congrArg some (by kernel_rfl))⟩
  t0 := Try.underlying0
  a0 := Try.isAgg0
  z0 := Try.sizeOf0
  v0 := Try.zeroValue0
  t3 := Try.underlying3
  a3 := Try.isAgg3
  z3 := Try.sizeOf3
  v3 := Try.zeroValue3
  t4 := Try.underlying4
  a4 := Try.isAgg4
  z4 := Try.sizeOf4
  v4 := Try.zeroValue4
  t5 := Try.underlying5
  a5 := Try.isAgg5
  z5 := Try.sizeOf5
  v5 := Try.zeroValue5
  t9 := Try.underlying9
  a9 := Try.isAgg9
  z9 := Try.sizeOf9
  v9 := Try.zeroValue9
  t22 := Try.underlying40
  a22 := Try.isAgg40
  z22 := Try.sizeOf40
  v22 := Try.zeroValue40
  t25 := Try.underlying89
  a25 := Try.isAgg89
  z25 := Try.sizeOf89
  v25 := Try.zeroValue89
  t39 := Try.underlying83
  a39 := Try.isAgg83
  z39 := Try.sizeOf83
  v39 := Try.zeroValue83
  t45 := Try.underlying162
  a45 := Try.isAgg162
  z45 := Try.sizeOf162
  v45 := Try.zeroValue162
  t46 := Try.underlying163
  a46 := Try.isAgg163
  z46 := Try.sizeOf163
  v46 := Try.zeroValue163
  t50 := Try.underlying114
  a50 := Try.isAgg114
  z50 := Try.sizeOf114
  v50 := Try.zeroValue114
  t53 := Try.underlying49
  a53 := Try.isAgg49
  z53 := Try.sizeOf49
  v53 := Try.zeroValue49
  t55 := Try.underlying22
  a55 := Try.isAgg22
  z55 := Try.sizeOf22
  v55 := Try.zeroValue22
  t66 := Try.underlying177
  a66 := Try.isAgg177
  z66 := Try.sizeOf177
  v66 := Try.zeroValue177
  t70 := Try.underlying181
  a70 := Try.isAgg181
  z70 := Try.sizeOf181
  v70 := Try.zeroValue181
  t76 := Try.underlying188
  a76 := Try.isAgg188
  z76 := Try.sizeOf188
  v76 := Try.zeroValue188
  t77 := Try.underlying131
  a77 := Try.isAgg131
  z77 := Try.sizeOf131
  v77 := Try.zeroValue131 }
end Go.Proofs
namespace Go.Proofs.Ytenngfkgfdogjaa
open Go Go.RowKit Go.Shelf

def markB (bs : List Bool) (p : List Nat) : List Bool := (List.range bs.length).map fun x => bs.getD x false || p.contains x
theorem markB_len (bs : List Bool) (p : List Nat) : (markB bs p).length = bs.length := by simp [markB]
theorem markB_get {bs : List Bool} {p : List Nat} {x : Nat} (h : x < bs.length) : (markB bs p)[x]? = some (bs.getD x false || p.contains x) := by simp [markB, h]
theorem markB_getD {bs : List Bool} {p : List Nat} {x : Nat} (h : x < bs.length) : (markB bs p).getD x false = (bs.getD x false || p.contains x) := by rw [List.getD_eq_getElem?_getD, markB_get h]; rfl
theorem markB_ext {bs cs : List Bool} {p q : List Nat} (hl : bs.length = cs.length) (h : ∀ x, x < bs.length → (bs.getD x false || p.contains x) = (cs.getD x false || q.contains x)) : markB bs p = markB cs q := by
  refine List.ext_getElem? fun x => ?_
  rcases Nat.lt_or_ge x bs.length with hx | hx
  · rw [markB_get hx, markB_get (by omega), h x hx]
  · rw [List.getElem?_eq_none (by rw [markB_len]; omega), List.getElem?_eq_none (by rw [markB_len]; omega)]
theorem markB_nil (bs : List Bool) : markB bs [] = bs := by
  refine List.ext_getElem? fun x => ?_
  rcases Nat.lt_or_ge x bs.length with hx | hx
  · rw [markB_get hx, List.getElem?_eq_getElem hx]; simp [hx]
  · rw [List.getElem?_eq_none (by rw [markB_len]; omega), List.getElem?_eq_none hx]
theorem markB_set {bs : List Bool} {p : List Nat} {i x : Nat} (hi : p[i]? = some x) : (markB bs (p.take i)).set x true = markB bs (p.take (i + 1)) := by
  have ht : p.take (i + 1) = p.take i ++ [x] := by rw [List.take_add_one, hi, Option.toList_some]
  refine List.ext_getElem? fun y => ?_
  rcases Nat.lt_or_ge y bs.length with hy | hy
  · by_cases e : x = y
    · subst e
      rw [List.getElem?_set_self (by rw [markB_len]; exact hy), markB_get hy, ht]; simp
    · rw [List.getElem?_set_ne e, markB_get hy, markB_get hy, ht]
      have : ¬ y = x := fun h => e h.symm
      simp [this]
  · rw [List.getElem?_eq_none (by rw [List.length_set, markB_len]; omega), List.getElem?_eq_none (by rw [markB_len]; omega)]
section
variable {gs : List (Int × Int)}
theorem isUp_step {p : List Nat} (h : IsUp gs p) {i x y : Nat} (hx : p[i]? = some x) (hy : p[i + 1]? = some y) : 0 < x ∧ y = (par gs x).toNat ∧ y < x := by
  obtain ⟨_, h2, h3⟩ := h i x hx
  rcases Nat.eq_zero_or_pos x with h0 | h0
  · have := h2 h0
    have := (List.getElem?_eq_some_iff.1 hy).1
    omega
  · obtain ⟨e1, e2, e3⟩ := h3 h0
    rw [hy] at e1
    injection e1 with e1
    exact ⟨h0, e1, by omega⟩
theorem isUp_desc {p : List Nat} (h : IsUp gs p) : ∀ (d i x y : Nat), p[i]? = some x → p[i + d + 1]? = some y → y < x
  | 0, i, x, y, hx, hy => (isUp_step h hx hy).2.2
  | d + 1, i, x, y, hx, hy => by
    have hl := (List.getElem?_eq_some_iff.1 hy).1
    obtain ⟨z, hz⟩ : ∃ z, p[i + d + 1]? = some z := ⟨_, List.getElem?_eq_getElem (by omega)⟩
    have h1 := isUp_desc h d i x z hx hz
    have h2 := (isUp_step h hz (y := y) (by rw [← hy]; congr 1)).2.2
    omega
theorem isUp_notin {p : List Nat} (h : IsUp gs p) {i x : Nat} (hx : p[i]? = some x) : x ∉ p.take i := by
  intro hm
  obtain ⟨j, hj⟩ := List.getElem?_of_mem hm
  have hji : j < i := by have := (List.getElem?_eq_some_iff.1 hj).1; simp at this; omega
  rw [List.getElem?_take_of_lt hji] at hj
  have := isUp_desc h (i - j - 1) j x x hj (by rw [show j + (i - j - 1) + 1 = i by omega]; exact hx)
  omega
/-- What is marked is marked upwards. -/
def UpC (gs : List (Int × Int)) (bs : List Bool) : Prop := ∀ x, 0 < x → x < gs.length → bs.getD x false = true → bs.getD (par gs x).toNat false = true
theorem upC_drop {p : List Nat} {bs : List Bool} (h : IsUp gs p) (hu : UpC gs bs) : ∀ (d i x y : Nat), p[i]? = some x → p[i + d]? = some y → bs.getD x false = true → bs.getD y false = true
  | 0, i, x, y, hx, hy, hb => by rw [Nat.add_zero, hx] at hy; injection hy with hy; rw [← hy]; exact hb
  | d + 1, i, x, y, hx, hy, hb => by
    have hl := (List.getElem?_eq_some_iff.1 hy).1
    obtain ⟨z, hz⟩ : ∃ z, p[i + d]? = some z := ⟨_, List.getElem?_eq_getElem (by omega)⟩
    have h1 := upC_drop h hu d i x z hx hz hb
    obtain ⟨h2, h3, _⟩ := isUp_step h hz (y := y) (by rw [← hy]; congr 1)
    rw [h3]
    exact hu z h2 (h _ z hz).1 h1
theorem mark_stop {p : List Nat} {bs : List Bool} (h : IsUp gs p) (hu : UpC gs bs) (hl : bs.length = gs.length) {i x : Nat} (hx : p[i]? = some x) (hb : (markB bs (p.take i)).getD x false = true) : markB bs (p.take i) = markB bs p := by
  have hxl : x < bs.length := by rw [hl]; exact (h i x hx).1
  rw [markB_getD hxl] at hb
  have hn := isUp_notin h hx
  have hbx : bs.getD x false = true := by
    rw [Bool.or_eq_true] at hb
    rcases hb with hb | hb
    · exact hb
    · exact absurd (List.contains_iff_mem.1 hb) hn
  refine markB_ext rfl fun y hy => ?_
  rw [Bool.eq_iff_iff, Bool.or_eq_true, Bool.or_eq_true, List.contains_iff_mem, List.contains_iff_mem]
  refine ⟨fun h => h.elim .inl (fun h => .inr (List.mem_of_mem_take h)), fun h' => h'.elim .inl (fun hm => ?_)⟩
  obtain ⟨j, hj⟩ := List.getElem?_of_mem hm
  rcases Nat.lt_or_ge j i with hji | hji
  · exact .inr (List.mem_of_getElem? (i := j) (by rw [List.getElem?_take_of_lt hji]; exact hj))
  · exact .inl (upC_drop h hu (j - i) i x y hx (by rw [show i + (j - i) = j by omega]; exact hj) hbx)
theorem upC_mark {p : List Nat} {bs : List Bool} (h : IsUp gs p) (hu : UpC gs bs) (hl : bs.length = gs.length) (hB : Bef gs gs.length) : UpC gs (markB bs p) := by
  intro x h0 hx hb
  have hp := hB x h0 hx
  rw [markB_getD (by omega)] at hb
  rw [markB_getD (by omega)]
  rw [Bool.or_eq_true] at hb ⊢
  rcases hb with hb | hb
  · exact .inl (hu x h0 hx hb)
  · obtain ⟨i, hi⟩ := List.getElem?_of_mem (List.contains_iff_mem.1 hb)
    exact .inr (List.contains_iff_mem.2 (List.mem_of_getElem? ((h i x hi).2.2 h0).1))
/-- What is marked behind k ready tasks. -/
def fillsN (s : St) (cpu : Int) (k : Nat) : List Bool := (List.range s.gs.length).map (fillB s.gs ((rdyL s cpu).take k))
theorem fillsN_len (s : St) (cpu : Int) (k : Nat) : (fillsN s cpu k).length = s.gs.length := by simp [fillsN]
theorem fillsN_zero (s : St) (cpu : Int) : fillsN s cpu 0 = List.replicate s.gs.length false := by
  refine List.ext_getElem? fun x => ?_
  rcases Nat.lt_or_ge x s.gs.length with hx | hx
  · rw [List.getElem?_replicate_of_lt hx]; simp [fillsN, hx, fillB]
  · rw [List.getElem?_eq_none (by rw [fillsN_len]; exact hx), List.getElem?_eq_none (by simpa using hx)]
theorem fillsN_get {s : St} {cpu : Int} {k x : Nat} (hx : x < s.gs.length) : (fillsN s cpu k).getD x false = fillB s.gs ((rdyL s cpu).take k) x := by
  rw [List.getD_eq_getElem?_getD]; simp [fillsN, hx]
theorem fillsN_succ {s : St} {cpu : Int} {k : Nat} {t : Tk} (h : (rdyL s cpu)[k]? = some t) : fillsN s cpu (k + 1) = markB (fillsN s cpu k) (path s.gs t.g.toNat) := by
  refine List.ext_getElem? fun x => ?_
  rcases Nat.lt_or_ge x s.gs.length with hx | hx
  · rw [markB_get (by rw [fillsN_len]; exact hx), fillsN_get hx]
    simp only [fillsN, List.getElem?_map, List.getElem?_range hx, Option.map_some]
    rw [List.take_add_one, h, Option.toList_some]
    unfold fillB
    rw [List.any_append]
    simp
  · rw [List.getElem?_eq_none (by rw [fillsN_len]; exact hx), List.getElem?_eq_none (by rw [markB_len, fillsN_len]; exact hx)]
theorem fillsN_all (s : St) (cpu : Int) : fillsN s cpu (rdyL s cpu).length = fillL s cpu := by unfold fillsN fillL; rw [List.take_length]
theorem upC_fills {s : St} {cpu : Int} (hB : Bef s.gs s.gs.length) (hg : ∀ t ∈ rdyL s cpu, 0 ≤ t.g ∧ t.g < s.gs.length) : ∀ k, k ≤ (rdyL s cpu).length → UpC s.gs (fillsN s cpu k)
  | 0, _ => by
    intro x h0 hx hb
    rw [fillsN_get hx] at hb
    simp [fillB] at hb
  | k + 1, hk => by
    obtain ⟨t, ht⟩ : ∃ t, (rdyL s cpu)[k]? = some t := ⟨_, List.getElem?_eq_getElem (by omega)⟩
    have htg := hg t (List.mem_of_getElem? ht)
    rw [fillsN_succ ht]
    exact upC_mark (path_up hB (Nat.le_refl _) _ (by omega)) (upC_fills hB hg k (by omega)) (fillsN_len _ _ _) hB
end
/-- A row of booleans of the call's own. -/
theorem flatB (xs : List Bool) : xs.flatMap encB1 = xs.map Value.bool := by induction xs with
  | nil => rfl
  | cons x r ih => simp [encB1, List.flatMap_cons] at *; exact ih
theorem OV.setB {base g n cap i : Nat} {e : TypeId} {w : World} {xs : List Bool} (h : OV encB1 1 e base w (.slice (some ⟨g, 0, none⟩) n cap) xs) (hn : xs.length = n) (b : Bool) :
    OV encB1 1 e base (w.setCell ⟨g, i, none⟩ (.bool b)) (.slice (some ⟨g, 0, none⟩) n cap) (xs.set i b) ∧ w.grownBy (w.setCell ⟨g, i, none⟩ (.bool b)) (some g) := by
  subst hn
  obtain ⟨h1, h2⟩ := World.ownsRow.stored h i (.bool b)
  refine ⟨?_, h2⟩
  unfold OV
  rw [List.length_set, flatB, List.map_set, ← flatB]
  exact h1
theorem ER.bool {w : World} {b off : Nat} {xs : List Bool} (h : ER encB1 1 w b off xs) {i : Nat} (hi : i < xs.length) : w.cell? ⟨b, off + i, none⟩ = some (.bool (xs.getD i false)) := by
  have := h i xs[i] (List.getElem?_eq_getElem hi) 0 _ rfl
  simpa [hi] using this
end Go.Proofs.Ytenngfkgfdogjaa
namespace Go.Proofs.Ytenngfkgfdogjaa
open Go Go.RowKit Go.Shelf
attribute [local go_sem] Oper.semAt_some

theorem wpListIn_makeB {F : Fence} {n : Nat} (w : World) {ops : Array Oper} {rest : List Oper} {o : Oper} {a : Act} {Q : Exit → Act → World → Prop}
    (hg : o.guard = none) (l c : Operand) (hop : o.op = Op.makeSlice 94 l c) (base m : Nat) (hl : a.eval l = .int .i64 (m : Int)) (hc : a.eval c = .int .i64 (m : Int)) (hm : m ≤ 100000) (hb : base ≤ w.heap.size)
    (hK : ∀ w', OV encB1 1 4 base w' (.slice (some ⟨w.heap.size, 0, none⟩) m m) (List.replicate m false) → w.grownBy w' none → wpListIn F n Try.prog ops Q rest (a.put o.dst (.slice (some ⟨w.heap.size, 0, none⟩) m m)) w') :
    wpListIn F n Try.prog ops Q (o :: rest) a w := by
  have h : (Try.prog.info? 4).map (fun i => (i.zero, i.size, i.bytes)) = some (some (.bool false), 1, 1) := by kernel_rfl
  obtain ⟨i, h1, h2, h3, h4⟩ := info_parts h
  refine wpListIn_plain hg fun K hK' => ?_
  obtain ⟨w', hrun, r1, r2⟩ := run_make_full (P := Try.prog) (w := w) base 94 4 i (.bool false) 1 Try.underlying94 h1 h2 h3 .i64 .i64 m (by rw [h4]; omega) (by unfold maxLen; omega) hb
  have ov : OV encB1 1 4 base w' (.slice (some ⟨w.heap.size, 0, none⟩) m m) (List.replicate m false) := by
    unfold OV
    rw [List.length_replicate, flatB, List.map_replicate]
    have := r1
    simp only [Value.cells, Nat.mul_one] at this
    rwa [toList_madeCells_one] at this
  unfold Oper.wpIn
  refine ⟨?_, ?_⟩
  · simp [Oper.about, hop]
  · rw [Oper.semAt_plain F _ _ (by rw [hop]; intro c hc'; cases hc')]
    simp [execOp, hop, hl, hc, hrun, Result.andThen]
    exact hK' _ _ (hK w' ov r2)
theorem OV.frz' {α : Type} {enc : α → List Value} {k base g n cap : Nat} {e : TypeId} {w : World} {xs : List α} (h : OV enc k e base w (.slice (some ⟨g, 0, none⟩) n cap) xs) (hn : xs.length = n) (i : Nat) : w.frozen? ⟨g, i, none⟩ = false := by
  subst hn
  exact World.ownsRow.frozenAt h i
theorem EV.row3' {α : Type} {enc : α → List Value} {k b off n c : Nat} {w : World} {v : Value} {xs : List α} (h : EV enc k w v xs) (hv : v = .slice (some ⟨b, off, none⟩) n c) (hn : 0 < xs.length) : ER enc k w b off xs := by subst hv; exact h.row3 hn
theorem isUp_last {gs : List (Int × Int)} {p : List Nat} (h : IsUp gs p) (hp : 0 < p.length) : 0 ∈ p := by
  obtain ⟨x, hx⟩ : ∃ x, p[p.length - 1]? = some x := ⟨_, List.getElem?_eq_getElem (by omega)⟩
  rcases Nat.eq_zero_or_pos x with rfl | h0
  · exact List.mem_of_getElem? hx
  · have := (List.getElem?_eq_some_iff.1 ((h _ x hx).2.2 h0).1).1
    omega
/-- The state at a walk of the way up. -/
structure FilW (w : World) (B0 Bo gb : Nat) (cap : Nat) (c : StC) (s : St) (bs : List Bool) (W : World) : Prop where
  bo : Boxed W Bo 94 (.slice (some ⟨gb, 0, none⟩) s.gs.length cap)
  ov : OV encB1 1 4 w.heap.size W (.slice (some ⟨gb, 0, none⟩) s.gs.length cap) bs
  bx : StBox W B0 c s
  eg : EV encG 2 W c.vg s.gs
  be : Below w.heap.size w W
theorem FilW.chg {w W W2 : World} {B0 Bo gb cap B : Nat} {c : StC} {s : St} {bs : List Bool} (h : FilW w B0 Bo gb cap c s bs W) (hc : Chg B (fun _ => False) W W2) (hB : w.heap.size ≤ B) : FilW w B0 Bo gb cap c s bs W2 := by
  refine ⟨h.bo.chg hc (fun t => t), h.ov.chg hc (fun _ _ t => t), hc.cells h.bx (fun t => t), h.eg.keep fun p u hcc => hc.cell hcc (fun t => t), h.be.trans ⟨hc.os, hc.tape, hc.output, hc.size, fun q hq => ?_⟩⟩
  have h1 := hc.block q _ (Array.getElem?_eq_getElem (show q < W.heap.size by have := h.be.size; omega)) (fun t => t) (.inl (by omega))
  rw [h1, ← Array.getElem?_eq_getElem]
theorem FilW.below {w W W2 : World} {B0 Bo gb cap : Nat} {c : StC} {s : St} {bs : List Bool} (h : FilW w B0 Bo gb cap c s bs W) (hb : Below W.heap.size W W2) : FilW w B0 Bo gb cap c s bs W2 :=
  ⟨h.bo.below hb, h.ov.below hb, h.bx.below hb, h.eg.below hb, h.be.trans (hb.mono h.be.size)⟩
theorem FilW.set {w W : World} {B0 Bo gb cap x : Nat} {c : StC} {s : St} {bs : List Bool} (h : FilW w B0 Bo gb cap c s bs W) (hl : bs.length = s.gs.length) (h0 : w.heap.size ≤ gb) (hg : ∀ g n c', c.vg = .slice (some g) n c' → g.block ≠ gb) (hbo : Bo ≠ gb) (hb0 : B0 ≠ gb) :
    FilW w B0 Bo gb cap c s (bs.set x true) (W.setCell ⟨gb, x, none⟩ (.bool true)) := by
  obtain ⟨o, g⟩ := h.ov.setB hl (i := x) true
  refine ⟨h.bo.setOther (by show Bo ≠ gb; exact hbo), o, (Below.heap_setCell _ _ _ _ hb0).trans h.bx, h.eg.grown g (fun b o n c' hv e => hg _ _ _ hv (by injection e with e; exact e.symm)), h.be.setCell (p := ⟨gb, x, none⟩) h0 _⟩

set_option maxRecDepth 100000 in
set_option maxHeartbeats 3200000 in
theorem filled_in (w : World) (c : StC) (s : St) (cpu : Int) (h : StAt w c s) (hs : Shp s) :
    CallsIn W0 0 Try.prog 43 #[c.val s, .int .i64 cpu] w fun e w' => ∃ v, e = .returned v ∧ OV encB1 1 4 w.heap.size w' v (fillL s cpu) ∧ Below w.heap.size w w' := by
  have hG := right_iff.1 hs.right
  have hB := hG.bef
  have hGl := hG.many
  have hG0 := hG.pos
  have hroot := hG.root
  have hts := hs.len
  have HSH := Lib.hid hs
  have HB := Lib.hid hB
  have HROOT := Lib.hid hroot
  have HT := Lib.hid h.et
  obtain ⟨Ag, cg, hvg⟩ := h.eg.shape
  obtain ⟨bg, og, cg', hvg2, _, _⟩ := h.eg.row hG0
  have hEG := h.eg
  have hvgw : ∀ g n c', c.vg = .slice (some g) n c' → g.block < w.heap.size := fun g n c' hv => by
    obtain ⟨b, o, c2, hv2, _, hr⟩ := h.eg.row hG0
    rw [hv] at hv2
    injection hv2 with e1; injection e1 with e1; subst e1
    exact hr.lt hG0 (fun x => by rw [encG_len]; omega)
  have HVGW := Lib.hid hvgw
  have HVG := Lib.hid hvg2
  have HEG := Lib.hid hEG
  have CC := Lib.hid (show c.cells s = #[.int .i64 s.n, .int .u64 s.cr, c.vg, c.vc, c.vu, c.vt, c.vs] from rfl)
  have BX := StBox.new w c s
  have bA := bel_alloc w (.cells (c.cells s) 38)
  have HBX := Lib.hid BX
  have HBA := Lib.hid bA
  obtain ⟨b0, b1, b2, b3, b4, b5, b6⟩ := BX.cell
  rw [hvg2] at b2
  unfold StC.val
  rw [CC.out] at b0 b1 b2 b3 b4 b5 b6 ⊢
  clear hs hG hB hroot h hvg hvg2 hEG hvgw BX bA
  have hfn : ∀ f, W0.fn f := fun _ => trivial
  have hd0 : W0.depth = none := rfl
  refine callsIn_of_wp_marks Try.func43 rfl trivial ?_ rfl
  simp only [Try.ntmps43, List.size_toArray, List.length_cons, List.length_nil, Nat.reduceAdd, Nat.reduceSub, Array.replicate_succ, Array.replicate_zero, List.push_toArray, List.append_toArray, List.nil_append, List.cons_append]
  gi_wp2_with (gi_at_make; refine wpListIn_makeB _ rfl _ _ rfl w.heap.size s.gs.length rfl rfl (by omega) (by simp) ?_)
  intro w2 o2 g2
  have hgb : OV encB1 1 4 (w.heap.size + 1) w2 (.slice (some ⟨w.heap.size + 1, 0, none⟩) s.gs.length s.gs.length) (List.replicate s.gs.length false) := by
    have := o2
    refine ⟨this.1, ?_⟩
    rcases this.2 with ⟨hn, _⟩ | ⟨g, cap, cur, hv, _, rest⟩
    · cases hn
    · have hg : g = w.heap.size + 1 := by injection hv with e1; injection e1 with e1; injection e1 with e1; exact e1.symm
      exact .inr ⟨g, cap, cur, hv, by omega, rest⟩
  have hgs := (hgb.block _ rfl).2
  have W1 : StBox w2 w.heap.size c s := (g2.block _ (by simp) (by simp)).trans HBX.out
  have be2 : Below w.heap.size w w2 := by
    have := HBA.out.grown g2 (by simp) (fun k hk => by simp at hk)
    exact this
  obtain ⟨gb, hgbe⟩ : ∃ gb, w.heap.size + 1 = gb := ⟨_, rfl⟩
  obtain ⟨Z, hZ⟩ : ∃ Z, w.heap.size = Z := ⟨_, rfl⟩
  rw [hgbe] at hgb hgs o2 ⊢
  obtain ⟨Bo, hBo⟩ : ∃ Bo, w2.heap.size = Bo := ⟨_, rfl⟩
  have bA2 := bel_alloc w2 (.cells #[.slice (some ⟨gb, 0, none⟩) s.gs.length s.gs.length] 94)
  have W3 : FilW w Z Bo gb s.gs.length c s (List.replicate s.gs.length false) (w2.alloc (.cells #[.slice (some ⟨gb, 0, none⟩) s.gs.length s.gs.length] 94)) := by
    refine ⟨?_, (hgb.base_le (by omega)).below bA2, (by rw [← hZ]; exact W1.below bA2), (HEG.out.below be2).below bA2, be2.trans (bA2.mono be2.size)⟩
    have := Boxed.new w2 94 (.slice (some ⟨gb, 0, none⟩) s.gs.length s.gs.length)
    rwa [hBo] at this
  obtain ⟨d0, d1, d2, d3, d4, d5, d6⟩ := W3.bx.cell
  have hz3 := World.size_alloc w2 (.cells #[.slice (some ⟨gb, 0, none⟩) s.gs.length s.gs.length] 94)
  have RM := Lib.hid (fun W => ready_mk W c s cpu)
  unfold StC.val at RM
  simp only [CC.out] at RM
  have HW3 := Lib.hid W3
  clear b0 b1 b2 b3 b4 b5 b6 g2 hgb W1 bA2 W3 o2
  gi_wp2
  have hz3' : gb < (w2.alloc (.cells #[.slice (some ⟨gb, 0, none⟩) s.gs.length s.gs.length] 94)).heap.size := by omega
  have hzz : Bo < (w2.alloc (.cells #[.slice (some ⟨gb, 0, none⟩) s.gs.length s.gs.length] 94)).heap.size := by omega
  have hbog : Bo ≠ gb := by omega
  have hzg : Z ≠ gb := by omega
  have hwg : w.heap.size ≤ gb := by omega
  have hwg' : w.heap.size < gb := by omega
  have hZw := Lib.hid hZ
  generalize w2.alloc (.cells #[.slice (some ⟨gb, 0, none⟩) s.gs.length s.gs.length] 94) = w3 at HW3 hz3' hzz ⊢
  clear d0 d1 d2 d3 d4 d5 d6 hz3 hBo hgs be2 hZ hgbe HBX HBA
  refine (in_of (RM.out _)).mono ?_
  rintro e w5 ⟨rfl, rfl⟩
  have B5 := below_step (bel_alloc w3 (.cells (c.cells s) 38)) (bel_alloc (w3.alloc (.cells (c.cells s) 38)) (.cells #[.int .i64 cpu] 3))
  have S5 : StBox ((w3.alloc (.cells (c.cells s) 38)).alloc (.cells #[.int .i64 cpu] 3)) w3.heap.size c s := (StBox.new w3 c s).below (bel_alloc _ _)
  have C5 : Boxed ((w3.alloc (.cells (c.cells s) 38)).alloc (.cells #[.int .i64 cpu] 3)) (w3.heap.size + 1) 3 (.int .i64 cpu) := by
    have := Boxed.new (w3.alloc (.cells (c.cells s) 38)) 3 (.int .i64 cpu)
    rwa [World.size_alloc] at this
  have z5 : ((w3.alloc (.cells (c.cells s) 38)).alloc (.cells #[.int .i64 cpu] 3)).heap.size = w3.heap.size + 1 + 1 := by simp
  rw [CC.out] at B5 S5 C5 z5
  generalize (w3.alloc (.cells #[.int .i64 s.n, .int .u64 s.cr, c.vg, c.vc, c.vu, c.vt, c.vs] 38)).alloc (.cells #[.int .i64 cpu] 3) = w5 at B5 S5 C5 z5 ⊢
  have HW5 := HW3.out.below B5
  have IT := ready1_iter w5 w3.heap.size (w3.heap.size + 1) c s cpu S5 C5 (HT.out.below HW5.be) (by omega)
  have hS : ∀ k, RdS w3.heap.size (w3.heap.size + 1) c.vt s.ts k → k < w5.heap.size ∧ k ≠ gb := by
    rintro k (rfl | rfl | ⟨hne, off, n, cap, hv⟩)
    · omega
    · omega
    · obtain ⟨b, o, c2, hv2, _, hr⟩ := HT.out.row (List.length_pos_iff.2 hne)
      rw [hv] at hv2
      injection hv2 with e1; injection e1 with e1; injection e1 with e1
      have := hr.lt (List.length_pos_iff.2 hne) (fun x => by rw [encT_len]; omega)
      have := HW5.be.size
      omega
  have HSS := Lib.hid hS
  have HWF := Lib.hid HW5
  have HIT := Lib.hid IT
  clear HW3 B5 S5 C5 IT hS HW5 RM
  obtain ⟨S, hSe⟩ : ∃ S, RdS w3.heap.size (w3.heap.size + 1) c.vt s.ts = S := ⟨_, rfl⟩
  obtain ⟨Q1, hQ1⟩ : ∃ Q1, w3.heap.size = Q1 := ⟨_, rfl⟩
  rw [hSe] at HSS HIT
  clear hSe
  rw [hQ1] at HIT z5 hz3' hzz ⊢
  clear hQ1
  gi_wp2
  refine wp_range (xs := fun k => #[ValT ((rdyL s cpu)[k]?.getD tk0)]) rfl (enters_of Try.func89 (by kernel_rfl) rfl) HIT.out
    (fun k e => e.elim) (fun k e => (HSS.out k e).1) (fun k => rfl)
    (fun k W => FilW w Z Bo gb s.gs.length c s (fillsN s cpu k) W) (fun _ _ => False)
    (fun k W1 W2 h hc => h.chg hc (by have := HWF.out.be.size; exact this))
    (fun _ _ _ h _ => h) (by rw [fillsN_zero]; exact HWF.out) ?round ?done (fun _ _ _ h => h.elim)
  case round =>
    rintro l k W hk hl hl2 hJ
    obtain ⟨t, ht⟩ : ∃ t, (rdyL s cpu)[k]? = some t := ⟨_, List.getElem?_eq_getElem hk⟩
    have htb := tks_each HSH.out.tks t (List.mem_filter.1 (List.mem_of_getElem? ht)).1
    have hup := path_up HB.out (Nat.le_refl _) t.g.toNat (by omega)
    have hhd := path_head HB.out (g := t.g.toNat) (by omega)
    have huc := upC_fills (cpu := cpu) HB.out (fun t ht => by have := tks_each HSH.out.tks t (List.mem_filter.1 ht).1; omega) k (Nat.le_of_lt hk)
    have hfs := fillsN_succ ht
    have htg : ((t.g.toNat : Nat) : Int) = t.g := Int.toNat_of_nonneg (by omega)
    simp only [ht, Option.getD_some, ValT]
    gi_wp2
    refine ⟨BK.alloc _, fun W2 hc hq => ?_⟩
    clear hq
    have bA := bel_alloc W (.cells #[.int .i64 t.id, .int .i64 t.g, .int .i64 t.wt, .int .i64 t.cpu, .int .u64 t.mask, .bool t.rdy, .int .u64 t.v, .int .u32 t.r] 61)
    have F2 := (hJ.below bA).chg hc (by have := HWF.out.be.size; exact this)
    have rt := ((EV.newL (w := W) (e := 61) (xs := [t]) (n := 1) (c := 1) (cs := #[.int .i64 t.id, .int .i64 t.g, .int .i64 t.wt, .int .i64 t.cpu, .int .u64 t.mask, .bool t.rdy, .int .u64 t.v, .int .u32 t.r]) encT_len rfl rfl (Nat.le_refl _)).row3 (by simp))
    have rt2 : ER encT 8 W2 W.heap.size 0 [t] := rt.keep fun p u _ hcc => hc.cell hcc (fun t => t)
    obtain ⟨d0, d1, d2, d3, d4, d5, d6, d7⟩ := rt2.tk (i := 0) rfl
    simp only [Nat.zero_mul, Nat.zero_add] at d0 d1 d2 d3 d4 d5 d6 d7
    rw [← htg] at d1
    obtain ⟨p, hp⟩ : ∃ p, path s.gs t.g.toNat = p := ⟨_, rfl⟩
    obtain ⟨g0, hg0⟩ : ∃ g0, t.g.toNat = g0 := ⟨_, rfl⟩
    obtain ⟨bs, hbs⟩ : ∃ bs, fillsN s cpu k = bs := ⟨_, rfl⟩
    have hbl : bs.length = s.gs.length := by rw [← hbs]; exact fillsN_len _ _ _
    rw [hp] at hup hhd hfs
    rw [hg0] at hhd d1
    rw [hbs] at hfs huc F2
    have HUP := Lib.hid hup
    have HHD := Lib.hid hhd
    have HFS := Lib.hid hfs
    have HUC := Lib.hid huc
    have HBL := Lib.hid hbl
    have HF2 := Lib.hid F2
    obtain ⟨P, hP⟩ : ∃ P, W.heap.size = P := ⟨_, rfl⟩
    rw [hP] at d0 d1 d2 d3 d4 d5 d6 d7 ⊢
    have hpl : 0 < p.length := by have := (List.getElem?_eq_some_iff.1 hhd).1; omega
    clear hP rt rt2 bA hc hJ ht htb hup hhd huc hfs htg hbs hp hg0 hbl F2 HIT HSH
    gi_wp2
    gi_loopg [7] (p.length + 1) (fun q gv wr => ∃ i x : Nat, i + q = p.length + 1 ∧ (p[i]? = some x ∨ (i = p.length ∧ x = 0)) ∧ gv = .int .i64 (x : Int) ∧ FilW w Z Bo gb s.gs.length c s (markB bs (p.take i)) wr ∧ BK S W2 wr)
    case atStart => exact ⟨0, g0, by omega, .inl HHD.out, rfl, by rw [List.take_zero, markB_nil]; exact HF2.out, BK.refl _ _⟩
    case round =>
      obtain ⟨i, x, hi, hx, rfl, hF, hbk⟩ := hrel
      have hml : (markB bs (p.take i)).length = s.gs.length := by rw [markB_len]; exact HBL.out
      have hxl : x < s.gs.length := by
        rcases hx with hx | ⟨_, rfl⟩
        · exact (HUP.out i x hx).1
        · exact hG0
      have rb := (hF.ov.ev encB1_len).row3 (by omega)
      have cb := rb.bool (i := x) (by omega)
      rw [Nat.zero_add] at cb
      have co := hF.bo.cell
      obtain ⟨d0, d1, d2, d3, d4, d5, d6⟩ := hF.bx.cell
      rw [HVG.out] at d2
      have HF := Lib.hid hF
      have HBK := Lib.hid hbk
      have HX := Lib.hid hx
      have HI := Lib.hid hi
      have HML := Lib.hid hml
      have x0 : (0 : Int) ≤ (x : Int) := by omega
      have x1 : (x : Int) < (s.gs.length : Int) := by omega
      clear rb hF hbk hx hi hml d0 d1 d3 d4 d5 d6
      cases hb : (markB bs (p.take i)).getD x false with
      | true =>
        rw [hb] at cb
        have X := Lib.hid (show markB bs (p.take i) = fillsN s cpu (k + 1) by
          rw [HFS.out]
          rcases HX.out with hx | ⟨hx, _⟩
          · exact mark_stop HUP.out HUC.out HBL.out hx hb
          · rw [List.take_of_length_le (by omega)])
        clear hb
        gi_wp2
        exact ⟨HBK.out, by show FilW w Z Bo gb s.gs.length c s (fillsN s cpu (k + 1)) wr; rw [← X.out]; exact HF.out⟩
      | false =>
        rw [hb] at cb
        have hpi : p[i]? = some x := by
          rcases HX.out with hx | ⟨hx, rfl⟩
          · exact hx
          · exfalso
            rw [List.take_of_length_le (by omega), markB_getD (by rw [HBL.out]; exact hG0), Bool.or_eq_false_iff] at hb
            have := List.contains_iff_mem.2 (isUp_last HUP.out hpl)
            rw [hb.2] at this; cases this
        have F3 := HF.out.set (x := x) HML.out hwg (fun g n c' hv => by have := HVGW.out g n c' hv; omega) hbog hzg
        rw [markB_set hpi] at F3
        have fz := OV.frz' HF.out.ov HML.out x
        have e2 := F3.bx.cell.2.2.1
        rw [HVG.out] at e2
        have rg := (F3.eg.row3' HVG.out hG0)
        obtain ⟨gg, hgg⟩ : ∃ gg, s.gs[x]? = some gg := ⟨_, List.getElem?_eq_getElem hxl⟩
        have eg := (rg.grp hgg).1
        rw [← par_get hgg] at eg
        have HUPX := Lib.hid (HUP.out i x hpi)
        have bk3 : BK S W2 (wr.setCell ⟨gb, x, none⟩ (.bool true)) := HBK.out.trans (BK.setCell _ cb (fun h => (HSS.out gb h).2 rfl))
        have hpar : ∃ y : Nat, par s.gs x = (y : Int) ∧ (p[i + 1]? = some y ∨ (i + 1 = p.length ∧ y = 0)) := by
          rcases Nat.eq_zero_or_pos x with h0 | h0
          · subst h0
            exact ⟨0, by rw [par_get HROOT.out]; rfl, .inr ⟨HUPX.out.2.1 rfl, rfl⟩⟩
          · obtain ⟨e1, e2, e3⟩ := HUPX.out.2.2 h0
            exact ⟨(par s.gs x).toNat, (Int.toNat_of_nonneg e2).symm, .inl e1⟩
        obtain ⟨y, hy, hy2⟩ := hpar
        rw [hy] at eg
        have HY := Lib.hid hy2
        have HF3 := Lib.hid F3
        have HB3 := Lib.hid bk3
        have hil := (List.getElem?_eq_some_iff.1 hpi).1
        clear hb hpi F3 rg hgg hy hy2 bk3
        gi_wp2
        gi_roundg (gk - 1)
        case measure => have := HI.out; omega
        case rel => exact ⟨i + 1, y, by have := HI.out; omega, HY.out, rfl, HF3.out, HB3.out⟩
  case done =>
    rintro D W hJ hD hK
    have h1c := hJ.bo.cell
    have HJ := Lib.hid hJ
    clear hJ
    gi_wp2
    refine post_mark hK (fun w' => results_tmp rfl _ _ w') ⟨_, rfl, ?_, ?_⟩
    · rw [← fillsN_all]
      exact HJ.out.ov.chg (Chg.putObj (B := 0) hK rfl (Nat.zero_le _)) (fun _ _ t => t)
    · exact HJ.out.be.trans (below_putObj (Below.refl _ _) (by have := HWF.out.be.size; omega) _)
end Go.Proofs.Ytenngfkgfdogjaa
namespace Go.Proofs.Ytenngfkgfdogjaa
open Go Go.RowKit Go.Shelf

theorem mem2_cells (w : World) (x n G : Nat) (cpu g p v : Int) (b : Bool) (cn : Nat) (Bs Bc Bg Bf bs os br or_ bg og bb ob cs cr cg cb : Nat)
    (hx : x < G) (hG : G ≤ 100000) (hc0 : 0 ≤ cpu) (hcn : cpu.toNat = cn) (hc1 : cpu < (n : Int)) 
    (a6 : w.cell? ⟨Bs, 6, none⟩ = some (.slice (some ⟨bs, os, none⟩) G cs)) (a2 : w.cell? ⟨Bs, 2, none⟩ = some (.slice (some ⟨bg, og, none⟩) G cg)) (ac : w.cell? ⟨Bc, 0, none⟩ = some (.int .i64 cpu)) (ag : w.cell? ⟨Bg, 0, none⟩ = some (.int .i64 g)) (af : w.cell? ⟨Bf, 0, none⟩ = some (.slice (some ⟨bb, ob, none⟩) G cb))
    (ar : w.cell? ⟨bs, os + x, none⟩ = some (.slice (some ⟨br, or_, none⟩) n cr)) (av : w.cell? ⟨br, or_ + cn * 3, none⟩ = some (.int .u64 v)) (ap : w.cell? ⟨bg, og + x * 2, none⟩ = some (.int .i64 p)) (ab : w.cell? ⟨bb, ob + x, none⟩ = some (.bool b)) :
    Calls Try.prog 85 #[.int .i64 (x : Int), .pointer (some ⟨Bs, 0, none⟩), .pointer (some ⟨Bc, 0, none⟩), .pointer (some ⟨Bg, 0, none⟩), .pointer (some ⟨Bf, 0, none⟩)] w
      fun e w' => e = .returned (.tuple #[.agg #[.int .u64 v, .bool true, .int .i64 (x : Int)], .bool (decide (0 < x) && decide (p = g) && b)]) ∧ Below w.heap.size w w' := by
  by_cases h0 : 0 < x
  · by_cases hp : p = g
    · exact mem2_c w x n G cpu g p v b cn Bs Bc Bg Bf bs os br or_ bg og bb ob cs cr cg cb hx hG hc0 hcn hc1 a6 a2 ac ag af ar av ap ab h0 hp
    · exact mem2_b w x n G cpu g p v b cn Bs Bc Bg Bf bs os br or_ bg og bb ob cs cr cg cb hx hG hc0 hcn hc1 a6 a2 ac ag af ar av ap ab h0 hp
  · exact mem2_a w x n G cpu g p v b cn Bs Bc Bg Bf bs os br or_ bg og bb ob cs cr cg cb hx hG hc0 hcn hc1 a6 a2 ac ag af ar av ap ab h0
end Go.Proofs.Ytenngfkgfdogjaa
namespace Go.Proofs.Ytenngfkgfdogjaa
open Go Go.RowKit Go.Shelf
attribute [local go_sem] Oper.semAt_some

theorem made_filter {α β : Type} (l : List α) (d : α) (key : α → β) (p : α → Bool) : ∀ k, k ≤ l.length → made (fun k => (key (l[k]?.getD d), p (l[k]?.getD d))) k = ((l.take k).filter p).map key
  | 0, _ => rfl
  | k + 1, hk => by
    have hx : l[k]? = some l[k] := List.getElem?_eq_getElem (by omega)
    unfold made
    rw [made_filter l d key p k (by omega), List.take_add_one, hx, Option.toList_some, List.filter_append, List.map_append]
    cases h : p l[k] <;> simp [h]
theorem made_tks (s : St) (g cpu : Int) : made (fun k => (tkKey ((rdyL s cpu)[k]?.getD tk0), decide (((rdyL s cpu)[k]?.getD tk0).g = g))) (rdyL s cpu).length = tksK s g cpu := by
  rw [made_filter (rdyL s cpu) tk0 tkKey (fun t => decide (t.g = g)) _ (Nat.le_refl _), List.take_length]; rfl
theorem made_range {β : Type} (key : Nat → β) (p : Nat → Bool) : ∀ k, made (fun k => (key k, p k)) k = ((List.range k).filter p).map key
  | 0 => rfl
  | k + 1 => by
    unfold made
    rw [made_range key p k, List.range_succ, List.filter_append, List.map_append]
    cases h : p k <;> simp [h]
theorem made_grp (s : St) (g cpu : Int) : made (fun k => (spKey s cpu k, isCh s g cpu k)) s.gs.length = grpK s g cpu := made_range _ _ _
def sSA (c : StC) (s : St) : SP := ⟨fun w => StAt w c s, fun _ _ b h => h.below b⟩
def sSB (B : Nat) (c : StC) (s : St) : SP := ⟨fun w => StBox w B c s, fun _ _ b h => h.below b⟩
def sBX (B : Nat) (t : TypeId) (v : Value) : SP := ⟨fun w => Boxed w B t v, fun _ _ b h => h.below b⟩
/-- The second closure, over a state. -/
theorem mem2_ok (w : World) (c : StC) (s : St) (g cpu : Int) (x Bs Bc Bg Bf : Nat) (fv : Value) (h : StAt w c s) (hs : Shp s) (hc0 : 0 ≤ cpu) (hc1 : cpu < s.n) (hx : x < s.gs.length)
    (bs : StBox w Bs c s) (bc : Boxed w Bc 3 (.int .i64 cpu)) (bg : Boxed w Bg 3 (.int .i64 g)) (bf : Boxed w Bf 94 fv) (ef : EV encB1 1 w fv (fillL s cpu)) :
    Calls Try.prog 85 #[.int .i64 (x : Int), .pointer (some ⟨Bs, 0, none⟩), .pointer (some ⟨Bc, 0, none⟩), .pointer (some ⟨Bg, 0, none⟩), .pointer (some ⟨Bf, 0, none⟩)] w
      fun e w' => e = .returned (.tuple #[.agg #[.int .u64 (spKey s cpu x).v, .bool (spKey s cpu x).sp, .int .i64 (spKey s cpu x).id], .bool (isCh s g cpu x)]) ∧ Below w.heap.size w w' := by
  have hG := (right_iff.1 hs.right)
  have hGl := hG.many
  have hss := hs.ss
  have hfl : (fillL s cpu).length = s.gs.length := by simp [fillL]
  obtain ⟨bS, oS, cS, hvs, _, rS⟩ := h.es.1.row (by omega)
  obtain ⟨bG, oG, cG, hvg, _, rG⟩ := h.eg.row hG.pos
  obtain ⟨bF, oF, cF, hvf, _, rF⟩ := ef.row (by omega)
  obtain ⟨r, hr⟩ : ∃ r, s.ss[x]? = some r := ⟨_, List.getElem?_eq_getElem (by omega)⟩
  have hrm := List.mem_of_getElem? hr
  have hrl := hs.row r hrm
  obtain ⟨bR, oR, cR, hvr, _, rR⟩ := (h.es.2 r hrm).row (by omega)
  have hcn : cpu.toNat < r.2.length := by omega
  obtain ⟨sp, hsp⟩ : ∃ sp, r.2[cpu.toNat]? = some sp := ⟨_, List.getElem?_eq_getElem hcn⟩
  have av : w.cell? ⟨bR, oR + cpu.toNat * 3, none⟩ = some (.int .u64 sp.v) := rR _ _ hsp 0 _ rfl
  have ar := rS x r hr 0 _ rfl
  simp only [Nat.mul_one, Nat.add_zero] at ar
  rw [hvr] at ar
  obtain ⟨gg, hgg⟩ : ∃ gg, s.gs[x]? = some gg := ⟨_, List.getElem?_eq_getElem hx⟩
  have ap := (rG.grp hgg).1
  rw [← par_get hgg] at ap
  have ab := rF.bool (i := x) (by omega)
  obtain ⟨_, _, a2, _, _, _, a6⟩ := bs.cell
  rw [hvg] at a2
  rw [hvs, hss] at a6
  have af := bf.cell
  rw [hvf, hfl] at af
  have := mem2_cells w x r.2.length s.gs.length cpu g (par s.gs x) sp.v ((fillL s cpu).getD x false) cpu.toNat Bs Bc Bg Bf bS oS bR oR bG oG bF oF cS cR cG cF hx (by omega) hc0 rfl (by omega) a6 a2 bc.cell bg.cell af ar av ap ab
  have e1 : spotV s x cpu = sp := by unfold spotV; rw [hr]; simp [hsp]
  have e2 : (fillL s cpu).getD x false = fillB s.gs (rdyL s cpu) x := by rw [List.getD_eq_getElem?_getD]; simp [fillL, hx]
  unfold isCh spKey
  rw [e1]
  rw [e2] at this
  exact this
end Go.Proofs.Ytenngfkgfdogjaa
namespace Go.Proofs.Ytenngfkgfdogjaa
open Go Go.RowKit Go.Shelf Go.Sort

section
variable {α : Type} [Inhabited α] {enc : α → List Value} {k : Nat}
theorem flatK_list (hk : ∀ x, (enc x).length = k) (h0 : 0 < k) (xs : List α) : flatK enc k xs.toArray = (xs.flatMap enc).toArray := by
  refine Array.ext (by simp [flat_len hk]) fun t h1 h2 => ?_
  have ht : t < xs.length * k := by simpa using h1
  have hi : t / k < xs.length := Nat.div_lt_of_lt_mul (by rwa [Nat.mul_comm])
  have hj : t % k < (enc xs[t / k]).length := by rw [hk]; exact Nat.mod_lt _ h0
  have hg := flat_get hk xs (t / k) xs[t / k] (List.getElem?_eq_getElem hi) (t % k) _ (List.getElem?_eq_getElem hj)
  rw [show t / k * k + t % k = t by rw [Nat.mul_comm]; exact Nat.div_add_mod t k] at hg
  have e1 : (flatK enc k xs.toArray)[t] = (enc xs[t / k])[t % k] := by
    simp [flatK, hi, hj]
  rw [e1]
  have := (List.getElem?_eq_some_iff.1 hg).2
  simpa using this.symm
theorem holdsK_row {w : World} {g : Nat} {cur : Array Value} {e : TypeId} (hk : ∀ x, (enc x).length = k) (h0 : 0 < k) {xs : List α} (hb : w.heap[g]? = some (.cells cur e (0, 0))) (ht : cur.toList.take (xs.length * k) = xs.flatMap enc) : HoldsK enc k w g 0 xs.toArray := by
  unfold HoldsK
  rw [flatK_list hk h0]
  intro j hj
  have hj' : j < xs.length * k := by simpa [flat_len hk] using hj
  refine ⟨?_, by simp [World.frozen?, hb]⟩
  have h1 : (cur.toList.take (xs.length * k))[j]? = (xs.flatMap enc)[j]? := by rw [ht]
  rw [List.getElem?_take_of_lt hj'] at h1
  simp only [World.cell?, hb, Nat.zero_add]
  simp only [Option.isSome_none, Bool.false_eq_true, if_false]
  rw [← Array.getElem?_toList, h1]
  have hl : j < (xs.flatMap enc).length := by rw [flat_len hk]; exact hj'
  have e := List.getElem?_eq_getElem hl
  simp [e]
theorem sortedK_heap {w : World} {g n : Nat} {os : Array Obj} {cur : Array Value} {e : TypeId} {fr : Nat × Nat} (d : Array α) (hb : w.heap[g]? = some (.cells cur e fr)) :
    (sortWorldK enc k w g 0 n d os).heap[g]? = some (.cells (putCells id 0 (flatK enc k d) cur) e fr) := by
  have hg : g < w.heap.size := (Array.getElem?_eq_some_iff.1 hb).1
  unfold sortWorldK putRowK
  rw [heap_grow_old _ _ (by simpa using hg)]
  simp [putRow, mapBlock, Sort.ahead, Array.getElem?_modify, hb, onCells]
theorem sortedK_grown {w : World} {g n : Nat} {os : Array Obj} (d : Array α) : w.grownBy (sortWorldK enc k w g 0 n d os) (some g) := by
  unfold sortWorldK putRowK
  refine ⟨rfl, rfl, rfl, by simp, fun j hj hne => ?_⟩
  rw [heap_grow_old _ _ (by simpa using hj)]
  have : g ≠ j := fun e => hne (by rw [e])
  simp [putRow, mapBlock, Sort.ahead, Array.getElem?_modify, this]
theorem sortedK_row (hk : ∀ x, (enc x).length = k) (h0 : 0 < k) {w : World} {base g cap n : Nat} {e : TypeId} {os : Array Obj} {cur : Array Value} {ts : List α} {m : Nat} (hl : ts.length = m) (hbase : base ≤ g) (hb : w.heap[g]? = some (.cells cur e (0, 0)))
    (h1 : m ≤ cap) (h2 : cap ≤ maxLen) (h3 : cur.size = cap * k) : OV enc k e base (sortWorldK enc k w g 0 n ts.toArray os) (.slice (some ⟨g, 0, none⟩) m cap) ts := by
  subst hl
  refine ⟨by rw [flat_len hk], .inr ⟨g, cap, _, rfl, hbase, sortedK_heap _ hb, h1, h2, by simp [putCells, h3], ?_⟩⟩
  rw [flatK_list hk h0]
  have hle : ts.length * k ≤ cap * k := Nat.mul_le_mul_right k h1
  apply List.ext_getElem?
  intro j
  by_cases hj : j < ts.length * k
  · have hl : j < (ts.flatMap enc).length := by rw [flat_len hk]; exact hj
    rw [List.getElem?_take_of_lt hj, Array.getElem?_toList]
    have e := List.getElem?_eq_getElem hl
    have hs : j < (List.map (fun a => (enc a).length) ts).sum := by have := hl; rwa [List.length_flatMap] at this
    simp [putCells, hs, e, show j < cur.size by omega]
  · rw [List.getElem?_take_eq_none (by omega), List.getElem?_eq_none (by rw [flat_len hk]; omega)]
end
end Go.Proofs.Ytenngfkgfdogjaa
namespace Go.Proofs.Ytenngfkgfdogjaa
open Go Go.RowKit Go.Shelf Go.Sort

theorem ltOf_cmpK (a b : Ky) : ltOf cmpK a b = keyLt a b := cmpK_lt a b
theorem swoK : SWO (ltOf cmpK) where
  irrefl x := by rw [ltOf_cmpK]; exact keyLt_irrefl x
  trans x y z h1 h2 := by rw [ltOf_cmpK] at *; exact keyLt_trans h1 h2
  ntrans x y z h1 h2 := by
    rw [ltOf_cmpK] at *
    cases h : keyLt x z with
    | false => rfl
    | true =>
      exfalso
      by_cases exy : x = y
      · subst exy; rw [h] at h2; cases h2
      · rcases keyLt_total exy with h3 | h3
        · rw [h3] at h1; cases h1
        · by_cases eyz : y = z
          · subst eyz; rw [h] at h1; cases h1
          · rcases keyLt_total eyz with h4 | h4
            · rw [h4] at h2; cases h2
            · have := keyLt_trans (keyLt_trans h4 h3) h
              rw [keyLt_irrefl] at this; cases this
theorem srtK_len (xs : List Ky) : (srtK xs).length = xs.length := List.length_mergeSort xs
set_option maxHeartbeats 1000000 in
theorem sort_ky (w : World) (v : Value) (xs : List Ky) (base : Nat) (h : OV encY 3 24 base w v xs) (hb : xs.length ≤ 1000000000) :
    Calls Try.prog 86 #[v, .func (.func 38) #[] #[]] w fun e w' => e = .returned (.tuple #[]) ∧ OV encY 3 24 base w' v (srtK xs) ∧ w.grownBy w' v.ownBlock := by
  have eg : ∀ args w, (callFunc 38 args).run Try.prog w = .ok (.enter 38 args) w := enters_of Try.func38 (by kernel_rfl) rfl
  rcases h.2 with ⟨rfl, h0⟩ | ⟨g, cap, cur, rfl, hbg, hg, hnc, hcm, hcs, htake⟩
  · obtain rfl : xs = [] := List.eq_nil_of_length_eq_zero h0
    refine (AnyF.slices_SortFunc_none Try.sortKy none 0 _ w).mono ?_
    rintro e w' ⟨rfl, rfl⟩
    exact ⟨rfl, by simpa [srtK] using h, ⟨rfl, rfl, rfl, Nat.le_refl _, fun _ _ _ => rfl⟩⟩
  · refine (AnyQ.slices_SortFunc_total Try.sortKy 3 (fun w => by kernel_rfl) (fun w => by kernel_rfl) encY encY_len encY_one cmpK swoK 38 #[] g 0 cap xs.toArray w eg
      (fun m os dk _ x y => compare_gro _ x y) (holdsK_row encY_len (by decide) hg htake) (Array.getElem?_eq_some_iff.1 hg).1 (by simp; omega) (fun x y h1 h2 => ?_)).mono ?_
    · rw [ltOf_cmpK] at h1 h2
      by_cases e : x = y
      · exact e
      · rcases keyLt_total e with h | h
        · rw [h] at h1; cases h1
        · rw [h] at h2; cases h2
    · rintro e w' ⟨rfl, n, os, rfl⟩
      have hs : (xs.toArray.toList.mergeSort fun x y => !(ltOf cmpK) y x) = srtK xs := by
        show (xs.mergeSort fun x y => !(ltOf cmpK) y x) = xs.mergeSort keyLe
        congr 1
        funext x y
        rw [ltOf_cmpK]; rfl
      rw [hs]
      exact ⟨rfl, sortedK_row encY_len (by decide) (srtK_len xs) hbg hg hnc hcm hcs, sortedK_grown _⟩
end Go.Proofs.Ytenngfkgfdogjaa
namespace Go.Proofs.Ytenngfkgfdogjaa
open Go Go.RowKit Go.Shelf
attribute [local go_sem] Oper.semAt_some

theorem tksK_len (s : St) (g cpu : Int) : (tksK s g cpu).length ≤ s.ts.length := by
  unfold tksK rdyL
  rw [List.length_map]
  exact Nat.le_trans (List.length_filter_le _ _) (List.length_filter_le _ _)
theorem grpK_len (s : St) (g cpu : Int) : (grpK s g cpu).length ≤ s.gs.length := by
  unfold grpK
  rw [List.length_map]
  exact Nat.le_trans (List.length_filter_le _ _) (by simp)
theorem rdyL_len (s : St) (cpu : Int) : (rdyL s cpu).length ≤ s.ts.length := List.length_filter_le _ _
theorem rdS_lt {w : World} {Bs Bc : Nat} {vt : Value} {ts : List Tk} (h : EV encT 8 w vt ts) (h1 : Bs < w.heap.size) (h2 : Bc < w.heap.size) : ∀ k, RdS Bs Bc vt ts k → k < w.heap.size := by
  rintro k (rfl | rfl | ⟨hne, off, n, cap, hv⟩)
  · exact h1
  · exact h2
  · obtain ⟨b, o, c2, hv2, _, hr⟩ := h.row (List.length_pos_iff.2 hne)
    rw [hv] at hv2
    injection hv2 with e1; injection e1 with e1; injection e1 with e1
    have := hr.lt (List.length_pos_iff.2 hne) (fun x => by rw [encT_len]; omega)
    omega
set_option maxRecDepth 100000 in
set_option maxHeartbeats 3200000 in
theorem members_ok (w : World) (c : StC) (s : St) (g cpu : Int) (h : StAt w c s) (hs : Shp s) (hc0 : 0 ≤ cpu) (hc1 : cpu < s.n) :
    Calls Try.prog 42 #[c.val s, .int .i64 g, .int .i64 cpu] w fun e w' => ∃ v, e = .returned v ∧ OV encY 3 24 w.heap.size w' v (memL s g cpu) ∧ Below w.heap.size w w' := by
  have hG := (right_iff.1 hs.right)
  have hGl := hG.many
  have hts := hs.len
  have l1 := tksK_len s g cpu
  have l2 := grpK_len s g cpu
  have l3 := rdyL_len s cpu
  have hfl : (fillL s cpu).length = s.gs.length := by simp [fillL]
  have HFL := Lib.hid hfl
  have HSH := Lib.hid hs
  have CC := Lib.hid (show c.cells s = #[.int .i64 s.n, .int .u64 s.cr, c.vg, c.vc, c.vu, c.vt, c.vs] from rfl)
  have FL := Lib.hid (fun W (hW : StAt W c s) => of_in (filled_in W c s cpu hW HSH.out))
  have RM := Lib.hid (fun W => ready_mk W c s cpu)
  have H := Lib.hid h
  unfold StC.val at FL RM ⊢
  simp only [CC.out] at FL RM ⊢
  have BX := StBox.new w c s
  have a1 := bel_alloc w (.cells (c.cells s) 38)
  have a2 := bel_alloc (w.alloc (.cells (c.cells s) 38)) (.cells #[.int .i64 g] 3)
  have a3 := bel_alloc ((w.alloc (.cells (c.cells s) 38)).alloc (.cells #[.int .i64 g] 3)) (.cells #[.int .i64 cpu] 3)
  have x1 : Boxed ((w.alloc (.cells (c.cells s) 38)).alloc (.cells #[.int .i64 g] 3)) (w.heap.size + 1) 3 (.int .i64 g) := by
    have := Boxed.new (w.alloc (.cells (c.cells s) 38)) 3 (.int .i64 g); rwa [World.size_alloc] at this
  have x2 : Boxed (((w.alloc (.cells (c.cells s) 38)).alloc (.cells #[.int .i64 g] 3)).alloc (.cells #[.int .i64 cpu] 3)) (w.heap.size + 1 + 1) 3 (.int .i64 cpu) := by
    have := Boxed.new ((w.alloc (.cells (c.cells s) 38)).alloc (.cells #[.int .i64 g] 3)) 3 (.int .i64 cpu); rwa [World.size_alloc, World.size_alloc] at this
  have bw := below_step (below_step a1 a2) a3
  have F : Facts (((w.alloc (.cells (c.cells s) 38)).alloc (.cells #[.int .i64 g] 3)).alloc (.cells #[.int .i64 cpu] 3)) [sSA c s, sSB w.heap.size c s, sBX (w.heap.size + 1) 3 (.int .i64 g), sBX (w.heap.size + 1 + 1) 3 (.int .i64 cpu), sB w] :=
    ⟨((h.below a1).below a2).below a3, (BX.below a2).below a3, x1.below a3, x2, bw, trivial⟩
  rw [CC.out] at F
  clear hG hs hfl h BX a1 a2 a3 x1 x2 bw H
  go_enter Try.func42, Try.ntmps42
  go_upto_region 1 with fail
  generalize ((w.alloc (.cells #[.int .i64 s.n, .int .u64 s.cr, c.vg, c.vc, c.vu, c.vt, c.vs] 38)).alloc (.cells #[.int .i64 g] 3)).alloc (.cells #[.int .i64 cpu] 3) = w1 at F ⊢
  obtain ⟨X0, hX0⟩ : ∃ X0, w.heap.size = X0 := ⟨_, rfl⟩
  obtain ⟨X1, hX1⟩ : ∃ X1, X0 + 1 = X1 := ⟨_, rfl⟩
  obtain ⟨X2, hX2⟩ : ∃ X2, X1 + 1 = X2 := ⟨_, rfl⟩
  rw [hX0] at F
  simp only [hX0, hX1, hX2] at F ⊢
  have HX0 := Lib.hid hX0
  clear hX0 hX1 hX2
  obtain ⟨b0, b1, b2, b3, b4, b5, b6⟩ := (F.get 1 : StBox w1 X0 c s).cell
  have cg := (F.get 2 : Boxed w1 X1 3 (.int .i64 g)).cell
  have cc := (F.get 3 : Boxed w1 X2 3 (.int .i64 cpu)).cell
  go_wp2_with fail
  refine (FL.out w1 (F.get 0)).mono ?_
  rintro e w2 ⟨fv, rfl, o2, bb⟩
  clear b0 b1 b2 b3 b4 b5 b6 cg cc FL
  obtain ⟨Af, cf, hfv⟩ := (o2.ev encB1_len).shape
  subst hfv
  rw [HFL.out] at o2
  have a4 := bel_alloc w2 (.cells #[.slice Af s.gs.length cf] 94)
  have x4 := Boxed.new w2 94 (.slice Af s.gs.length cf)
  replace F : Facts (w2.alloc (.cells #[.slice Af s.gs.length cf] 94)) (sBX w2.heap.size 94 (.slice Af s.gs.length cf) :: sEV encB1 1 (.slice Af s.gs.length cf) (fillL s cpu) :: _) := ⟨x4, (o2.ev encB1_len).below a4, (F.below bb).below a4⟩
  rw [HFL.out]
  go_upto_region 2 with fail
  generalize w2.alloc (.cells #[.slice Af s.gs.length cf] 94) = w3 at F ⊢
  obtain ⟨X3, hX3⟩ : ∃ X3, w2.heap.size = X3 := ⟨_, rfl⟩
  simp only [hX3] at F ⊢
  clear a4 x4 o2 bb hX3
  obtain ⟨b0, b1, b2, b3, b4, b5, b6⟩ := (F.get 3 : StBox w3 X0 c s).cell
  have cc := (F.get 5 : Boxed w3 X2 3 (.int .i64 cpu)).cell
  go_wp2_with fail
  refine (RM.out w3).mono ?_
  rintro e w4' ⟨rfl, rfl⟩
  have B5 := below_step (bel_alloc w3 (.cells (c.cells s) 38)) (bel_alloc (w3.alloc (.cells (c.cells s) 38)) (.cells #[.int .i64 cpu] 3))
  have S5 : StBox ((w3.alloc (.cells (c.cells s) 38)).alloc (.cells #[.int .i64 cpu] 3)) w3.heap.size c s := (StBox.new w3 c s).below (bel_alloc _ _)
  have C5 : Boxed ((w3.alloc (.cells (c.cells s) 38)).alloc (.cells #[.int .i64 cpu] 3)) (w3.heap.size + 1) 3 (.int .i64 cpu) := by
    have := Boxed.new (w3.alloc (.cells (c.cells s) 38)) 3 (.int .i64 cpu)
    rwa [World.size_alloc] at this
  rw [CC.out] at B5 S5 C5
  generalize (w3.alloc (.cells #[.int .i64 s.n, .int .u64 s.cr, c.vg, c.vc, c.vu, c.vt, c.vs] 38)).alloc (.cells #[.int .i64 cpu] 3) = w5 at B5 S5 C5 ⊢
  replace F := F.below B5
  have hw5 := (F.get 6 : Below w.heap.size w w5).size
  have IT := ready1_iter w5 w3.heap.size (w3.heap.size + 1) c s cpu S5 C5 (F.get 2 : StAt w5 c s).et (by omega)
  have EA := of_in (eachTK_ok w5 89 #[.pointer (some ⟨w3.heap.size, 0, none⟩), .pointer (some ⟨w3.heap.size + 1, 0, none⟩)] (fun k => (rdyL s cpu)[k]?.getD tk0) (rdyL s cpu).length _ 82 #[.pointer (some ⟨X1, 0, none⟩)]
    (fun k => (tkKey ((rdyL s cpu)[k]?.getD tk0), decide (((rdyL s cpu)[k]?.getD tk0).g = g)))
    (enters_of Try.func89 (by kernel_rfl) rfl) (enters_of Try.func82 (by kernel_rfl) rfl) IT (rdS_lt (F.get 2 : StAt w5 c s).et S5.lt C5.lt) (by omega)
    (fun W k _ hb => mem1_ok W X1 g _ ((F.get 4 : Boxed w5 X1 3 (.int .i64 g)).below hb)))
  rw [made_tks] at EA
  have EAH := Lib.hid EA
  clear IT S5 C5 B5 EA b0 b1 b2 b3 b4 b5 b6 cc RM
  go_wp2_with fail
  refine EAH.out.mono ?_
  rintro e w6 ⟨v6, rfl, o6, bb⟩
  replace F : Facts w6 (sOV encY 3 24 w5.heap.size v6 (tksK s g cpu) :: _) := ⟨o6, F.below bb⟩
  clear o6 bb EAH
  have cf := (F.get 1 : Boxed w6 X3 94 (.slice Af s.gs.length cf)).cell
  go_wp2_with fail
  refine (indices_ok w6 (s.gs.length : Nat)).mono ?_
  rintro e w7' ⟨rfl, rfl⟩
  have B7 := bel_alloc w6 (.cells #[.int .i64 (s.gs.length : Nat)] 3)
  have C7 := Boxed.new w6 3 (.int .i64 (s.gs.length : Nat))
  generalize w6.alloc (.cells #[.int .i64 (s.gs.length : Nat)] 3) = w7 at B7 C7 ⊢
  replace F := F.below B7
  have EB := of_in (eachIK_ok w7 116 #[.pointer (some ⟨w6.heap.size, 0, none⟩)] (fun k => (k : Int)) s.gs.length (fun k => k = w6.heap.size) 85 #[.pointer (some ⟨X0, 0, none⟩), .pointer (some ⟨X2, 0, none⟩), .pointer (some ⟨X1, 0, none⟩), .pointer (some ⟨X3, 0, none⟩)]
    (fun k => (spKey s cpu k, isCh s g cpu k))
    (enters_of Try.func116 (by kernel_rfl) rfl) (enters_of Try.func85 (by kernel_rfl) rfl) (indices1_iter w7 w6.heap.size s.gs.length C7 (by omega)) (fun k hk => by rw [hk]; exact C7.lt) (by omega)
    (fun W k hk hb => by
      have G := F.below hb
      exact mem2_ok W c s g cpu k X0 X2 X1 X3 _ (G.get 3) HSH.out hc0 hc1 hk (G.get 4) (G.get 6) (G.get 5) (G.get 1) (G.get 2)))
  rw [made_grp] at EB
  have EBH := Lib.hid EB
  clear B7 C7 EB cf
  go_wp2_with fail
  refine EBH.out.mono ?_
  rintro e w8 ⟨v8, rfl, o8, bb⟩
  replace F : Facts w8 (sOV encY 3 24 w7.heap.size v8 (grpK s g cpu) :: _) := ⟨o8, F.below bb⟩
  clear o8 bb EBH
  have o6 := OV.base_le (F.get 1 : OV encY 3 24 w5.heap.size w8 v6 (tksK s g cpu)) hw5
  have HO6 := Lib.hid o6
  have HO8 := Lib.hid ((F.get 0 : OV encY 3 24 w7.heap.size w8 v8 (grpK s g cpu)).ev encY_len)
  have HB8 := Lib.hid (F.get 8 : Below w.heap.size w w8)
  have hs8 := HB8.out.size
  clear F o6
  go_wp2_with (at_builtin; refine wpList_app elemY encY_len encY_one rfl (.tmp 24) (.tmp 25) rfl _ _ rfl rfl HO6.out HO8.out ?q1 ?q2 ?_)
  case q1 => omega
  case q2 => omega
  intro v9 w9 o9 g9
  have HB9 := Lib.hid (HB8.out.grown g9 hs8 (fun k hk => (HO6.out.block k hk).1))
  have SO := Lib.hid (sort_ky w9 v9 _ w.heap.size o9 (by rw [List.length_append]; omega))
  have OB := Lib.hid o9.block
  clear o9 g9 HO6 HO8 HB8
  go_wp2_with fail
  refine SO.out.mono ?_
  rintro e w10 ⟨rfl, o10, g10⟩
  have HBF := Lib.hid (HB9.out.grown g10 HB9.out.size (fun k hk => (OB.out k hk).1))
  have HOF := Lib.hid (show OV encY 3 24 w.heap.size w10 v9 (memL s g cpu) from o10)
  clear o10 g10 SO OB HB9
  go_wp2
  go_ret
  exact ⟨v9, rfl, HOF.out, HBF.out⟩
end Go.Proofs.Ytenngfkgfdogjaa
