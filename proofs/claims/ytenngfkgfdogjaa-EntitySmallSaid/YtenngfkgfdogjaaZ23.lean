/- What quantumlaw21.Made makes, in plain lists: it is shaped | A state in its box, and what lies beside it: stores into the box | A region that draws its order, by one step for each operation: what an operation yields stays true under what the others do | quantumlaw21.Made: one spot's numbers. -/
import Derived.Test.YtenngfkgfdogjaaZ12
import Derived.Test.YtenngfkgfdogjaaZ3
import Derived.Test.YtenngfkgfdogjaaZ17
import Derived.Test.YtenngfkgfdogjaaZ1
import Derived.Orders
set_option linter.unusedVariables false
set_option linter.unusedSimpArgs false
set_option linter.unusedSectionVars false
namespace Go.Proofs.Ytenngfkgfdogjaa
open Go Go.RowKit Go.Shelf

/-- A task, in small numbers. -/
structure Sm where
  g : Nat
  wt : Nat
  v : Nat
  cpu : Nat
  rdy : Bool
structure SmOk (t : Sm) : Prop where
  g : t.g < 65536
  wt : t.wt < 65536
  v : t.v < 65536
  cpu : t.cpu < 256
def encM (t : Sm) : List Value := [.int .u16 (t.g : Nat), .int .u16 (t.wt : Nat), .int .u16 (t.v : Nat), .int .u8 (t.cpu : Nat), .bool t.rdy]
theorem encM_len (t : Sm) : (encM t).length = 5 := rfl
theorem encM_one (t : Sm) : ∀ u ∈ encM t, u.oneCell' = true := by intro u hu; simp [encM] at hu; rcases hu with rfl | rfl | rfl | rfl | rfl <;> rfl
theorem ER.sm {w : World} {b off : Nat} {ts : List Sm} (h : ER encM 5 w b off ts) {i : Nat} {t : Sm} (hi : ts[i]? = some t) :
    w.cell? ⟨b, off + i * 5, none⟩ = some (.int .u16 (t.g : Nat)) ∧ w.cell? ⟨b, off + i * 5 + 1, none⟩ = some (.int .u16 (t.wt : Nat)) ∧ w.cell? ⟨b, off + i * 5 + 2, none⟩ = some (.int .u16 (t.v : Nat)) ∧ w.cell? ⟨b, off + i * 5 + 3, none⟩ = some (.int .u8 (t.cpu : Nat)) ∧ w.cell? ⟨b, off + i * 5 + 4, none⟩ = some (.bool t.rdy) :=
  ⟨h i t hi 0 _ rfl, h i t hi 1 _ rfl, h i t hi 2 _ rfl, h i t hi 3 _ rfl, h i t hi 4 _ rfl⟩
def nextI (id : Nat) (t : Sm) : Nat := id + (1 + t.v % 3)
def mkTk (n G id : Nat) (t : Sm) : Tk := ⟨(nextI id t : Nat), (t.g % G : Nat), 1 + (t.wt : Nat), (t.cpu % n : Nat), (2 ^ (t.cpu % n) : Nat), t.rdy, (t.v : Nat), 0⟩
def madT (n G : Nat) : Nat → List Sm → List Tk
  | _, [] => []
  | id, t :: r => mkTk n G id t :: madT n G (nextI id t) r
def lastI (id : Nat) (l : List Sm) : Nat := l.foldl nextI id
section
variable {n G : Nat}
theorem madT_snoc : ∀ (l : List Sm) (id : Nat) (t : Sm), madT n G id (l ++ [t]) = madT n G id l ++ [mkTk n G (lastI id l) t]
  | [], _, _ => rfl
  | x :: l, id, t => by
    show mkTk n G id x :: madT n G (nextI id x) (l ++ [t]) = _
    rw [madT_snoc l]; rfl
theorem lastI_snoc (l : List Sm) (id : Nat) (t : Sm) : lastI id (l ++ [t]) = nextI (lastI id l) t := by simp [lastI, List.foldl_append]
theorem madT_len : ∀ (l : List Sm) (id : Nat), (madT n G id l).length = l.length
  | [], _ => rfl
  | x :: l, id => by show (madT n G _ l).length + 1 = _; rw [madT_len l]; rfl
theorem lastI_le : ∀ (l : List Sm) (id : Nat), lastI id l ≤ id + 3 * l.length
  | [], _ => by simp [lastI]
  | x :: l, id => by
    have := lastI_le l (nextI id x)
    show lastI (nextI id x) l ≤ _
    unfold nextI at this ⊢
    rw [List.length_cons]; omega
theorem madT_ok (hn : 0 < n) (hG : 0 < G) : ∀ (l : List Sm) (id : Nat), (∀ t ∈ l, SmOk t) → id + 3 * l.length ≤ 65535 → tksOk (n : Nat) G (id : Nat) (madT n G id l) = true
  | [], _, _, _ => rfl
  | x :: l, id, h, hl => by
    have hx := h x (by simp)
    have h1 := hx.wt
    have m1 := Nat.mod_lt x.g hG
    have m2 := Nat.mod_lt x.cpu hn
    rw [List.length_cons] at hl
    have hN : nextI id x ≤ id + 3 := by unfold nextI; omega
    have hN' : id + 1 ≤ nextI id x := by unfold nextI; omega
    show (tkOk n G id (mkTk n G id x) && tksOk n G (mkTk n G id x).id (madT n G (nextI id x) l)) = true
    rw [Bool.and_eq_true, tkOk_iff]
    refine ⟨?_, madT_ok hn hG l (nextI id x) (fun t ht => h t (by simp [ht])) (by omega)⟩
    show (((id : Int) + 1 ≤ ((nextI id x : Nat) : Int) ∧ ((nextI id x : Nat) : Int) ≤ 65535) ∧ (0 ≤ ((x.g % G : Nat) : Int) ∧ ((x.g % G : Nat) : Int) ≤ (G : Int) - 1) ∧ (1 ≤ 1 + (x.wt : Int) ∧ 1 + (x.wt : Int) ≤ 65536) ∧ 0 ≤ ((x.cpu % n : Nat) : Int) ∧ ((x.cpu % n : Nat) : Int) ≤ (n : Int) - 1)
    omega
end
def spotOf (sl : List Nat) (n g c : Nat) : Sp :=
  if sl.length = 0 then ⟨0, 0, 0⟩ else ⟨if g = 0 then 0 else ((sl.getD ((g * n + c) % sl.length) 0 : Nat) : Int), 0, ((sl.getD ((g * n + c + 1) % sl.length) 0 : Nat) : Int)⟩
def madR (sl : List Nat) (n g : Nat) : List Sp := (List.range n).map (spotOf sl n g)
def madN (cpus : Nat) : Nat := 1 + cpus % 8
def madS (cpus : Nat) (ns : List Nat) (ts : List Sm) (sl : List Nat) : St :=
  ⟨(madN cpus : Nat), 0, madG (ns.take 10), List.replicate (madN cpus) 0, List.replicate (madN cpus) 0, madT (madN cpus) (madG (ns.take 10)).length 0 (ts.take 30), (List.range (madG (ns.take 10)).length).map fun g => (.slice none 0 0, madR sl (madN cpus) g)⟩
theorem madG_len10 {ns : List Nat} (h : ∀ n ∈ ns, n < 65536) : GOK (madG (ns.take 10)) ∧ (madG (ns.take 10)).length = 1 + min 10 ns.length := by
  obtain ⟨a, b⟩ := made_ok (l := ns.take 10) (fun n hn => h n (List.mem_of_mem_take hn))
  exact ⟨a, by rw [b, List.length_take]; omega⟩
theorem madS_shp {cpus : Nat} {ns : List Nat} {ts : List Sm} {sl : List Nat} (hns : ∀ n ∈ ns, n < 65536) (hts : ∀ t ∈ ts, SmOk t) : Shp (madS cpus ns ts sl) := by
  obtain ⟨hg, hl⟩ := madG_len10 hns
  have hN : 1 ≤ madN cpus ∧ madN cpus ≤ 8 := by unfold madN; omega
  unfold madS
  refine ⟨?_, ?_, right_iff.2 hg, ?_, ?_, ?_, ?_, ?_⟩
  · dsimp only; omega
  · dsimp only; omega
  · simp
  · simp
  · simp
  · intro x hx
    obtain ⟨g, _, rfl⟩ := List.mem_map.1 hx
    simp [madR]
  · have := madT_ok (n := madN cpus) (G := (madG (ns.take 10)).length) (by omega) (by omega) (ts.take 30) 0 (fun t ht => hts t (List.mem_of_mem_take ht)) (by rw [List.length_take]; omega)
    simpa using this
end Go.Proofs.Ytenngfkgfdogjaa
namespace Go.Proofs.Ytenngfkgfdogjaa
open Go Go.RowKit Go.Shelf

theorem OV.ne_bx {α : Type} {enc : α → List Value} {k base X : Nat} {e : TypeId} {w : World} {v : Value} {c : StC} {s : St} {xs : List α} (h : OV enc k e base w v xs) (hb : StBox w X c s) (he : e ≠ 38) : v.ownBlock = none ∨ v.ownBlock ≠ some X := by
  rcases h.2 with ⟨rfl, _⟩ | ⟨g', cap', cur, rfl, _, hg, _⟩
  · exact .inl rfl
  · right
    intro he2
    obtain rfl : g' = X := by simpa [Value.ownBlock] using he2
    unfold StBox at hb
    rw [hb] at hg
    simp at hg
    exact he hg.2.symm
theorem OV.setbx {α : Type} {enc : α → List Value} {k base X : Nat} {e : TypeId} {w : World} {v : Value} {c : StC} {s : St} {xs : List α} (h : OV enc k e base w v xs) (hb : StBox w X c s) (he : e ≠ 38) (i : Nat) (u : Value) : OV enc k e base (w.setCell ⟨X, i, none⟩ u) v xs :=
  h.same fun g o hg ho => (Below.heap_setCell _ _ _ _ (fun e => by
    rcases h.ne_bx hb he with h1 | h1
    · rw [h1] at hg; cases hg
    · exact h1 (by rw [hg, e]))).trans ho
theorem StO.setbx {base X : Nat} {w : World} {c c' : StC} {s s' : St} (h : StO base w c s) (hb : StBox w X c' s') (i : Nat) (u : Value) : StO base (w.setCell ⟨X, i, none⟩ u) c s :=
  ⟨h.og.setbx hb (by decide) i u, h.oc.setbx hb (by decide) i u, h.ou.setbx hb (by decide) i u, h.ot.setbx hb (by decide) i u, h.os.setbx hb (by decide) i u, fun x hx => (h.orr x hx).setbx hb (by decide) i u⟩
theorem set7_other {W : World} {X g : Nat} (hg : g ≠ X) (v0 v1 v2 v3 v4 v5 v6 : Value) : (set7 W X v0 v1 v2 v3 v4 v5 v6).heap[g]? = W.heap[g]? := by
  unfold set7
  have h := fun (W : World) (i : Nat) (v : Value) => Below.heap_setCell W ⟨X, i, none⟩ v g hg
  rw [h, h, h, h, h, h, h]
theorem OV.set7 {α : Type} {enc : α → List Value} {k base X : Nat} {e : TypeId} {w : World} {v : Value} {xs : List α} (h : OV enc k e base w v xs) (hb : ZBox w X) (he : e ≠ 38) (v0 v1 v2 v3 v4 v5 v6 : Value) : OV enc k e base (set7 w X v0 v1 v2 v3 v4 v5 v6) v xs :=
  h.same fun g o hg ho => (set7_other (fun e2 => by
    rcases h.2 with ⟨rfl, _⟩ | ⟨g', cap', cur, rfl, _, hg', _⟩
    · cases hg
    · obtain rfl : g' = g := by simpa [Value.ownBlock] using hg
      subst e2
      unfold ZBox at hb
      rw [hb] at hg'
      simp at hg'
      exact he hg'.2.symm) _ _ _ _ _ _ _).trans ho

/-- Where the making of a state stands. -/
structure Md (w : World) (X : Nat) (c : StC) (s : St) (wx : World) : Prop where
  bx : StBox wx X c s
  o : StO w.heap.size wx c s
  zb : ZBox wx w.heap.size
  bel : Below w.heap.size w wx
  ne : w.heap.size < X
theorem Md.below {w wx wy : World} {X : Nat} {c : StC} {s : St} (h : Md w X c s wx) (hb : Below wx.heap.size wx wy) : Md w X c s wy :=
  ⟨h.bx.below hb, h.o.below hb, h.zb.below hb, h.bel.trans (hb.mono h.bel.size), h.ne⟩
def madX (n : Nat) (gs : List (Int × Int)) (ts : List Tk) (ss : List (Value × List Sp)) : St := ⟨(n : Nat), 0, gs, List.replicate n 0, List.replicate n 0, ts, ss⟩
def mad0 (n : Nat) (gs : List (Int × Int)) : St := ⟨(n : Nat), 0, gs, List.replicate n 0, List.replicate n 0, [], []⟩
theorem ov_zeros {w : World} {n m base : Nat} (hm : w.heap.size = m) (hb : base ≤ m) (hn : n ≤ 64) : OV encI 1 3 base (w.alloc (.cells (Array.replicate n (.int .i64 0)) 3)) (.slice (some ⟨m, 0, none⟩) n n) (List.replicate n 0) := by
  subst hm
  refine OV.lit w _ n hb (by unfold maxLen; omega) (by simp) ?_ (by simp)
  rw [encI_flat, List.map_replicate, Array.toList_replicate]
theorem zbox_new {w : World} {m : Nat} (hm : w.heap.size = m) : ZBox (w.alloc (.cells #[.int .i64 0, .int .u64 0, .slice none 0 0, .slice none 0 0, .slice none 0 0, .slice none 0 0, .slice none 0 0] 38)) m := by subst hm; exact heap_alloc_new w _
theorem ZBox.lt {w : World} {m : Nat} (h : ZBox w m) : m < w.heap.size := (Array.getElem?_eq_some_iff.1 h).1
theorem ZBox.alloc {w : World} {m : Nat} (h : ZBox w m) (o : Obj) : ZBox (w.alloc o) m := h.below (bel_alloc _ _)
theorem md_of {w W : World} {X n : Nat} {gs : List (Int × Int)} {vg va vb : Value} (hz : ZBox W w.heap.size) (hX : ZBox W X) (hne : w.heap.size < X) (hb : Below w.heap.size w W) (og : OV encG 2 82 w.heap.size W vg gs)
    (oa : OV encI 1 3 w.heap.size W va (List.replicate n 0)) (ob : OV encI 1 3 w.heap.size W vb (List.replicate n 0)) (hXs : w.heap.size ≤ X) :
    Md w X ⟨vg, va, vb, .slice none 0 0, .slice none 0 0⟩ (mad0 n gs) (set7 W X (.int .i64 n) (.int .u64 0) vg va vb (.slice none 0 0) (.slice none 0 0)) :=
  ⟨by unfold StBox; exact fill7 hX _ _ _ _ _ _ _,
   ⟨og.set7 hX (by decide) _ _ _ _ _ _ _, oa.set7 hX (by decide) _ _ _ _ _ _ _, ob.set7 hX (by decide) _ _ _ _ _ _ _, OV.nil _ _, OV.nil _ _, fun x hx => by simp [mad0] at hx⟩,
   (set7_other (fun e => by omega) _ _ _ _ _ _ _).trans hz,
   ((((((hb.setCell (p := ⟨X, 0, none⟩) hXs _).setCell (p := ⟨X, 1, none⟩) hXs _).setCell (p := ⟨X, 2, none⟩) hXs _).setCell (p := ⟨X, 3, none⟩) hXs _).setCell (p := ⟨X, 4, none⟩) hXs _).setCell (p := ⟨X, 5, none⟩) hXs _).setCell (p := ⟨X, 6, none⟩) hXs _, hne⟩
theorem OV.ne_z {α : Type} {enc : α → List Value} {k base Z : Nat} {e : TypeId} {w : World} {v : Value} {xs : List α} (h : OV enc k e base w v xs) (hb : ZBox w Z) (he : e ≠ 38) : v.ownBlock = none ∨ v.ownBlock ≠ some Z := by
  rcases h.2 with ⟨rfl, _⟩ | ⟨g', cap', cur, rfl, _, hg, _⟩
  · exact .inl rfl
  · right
    intro he2
    obtain rfl : g' = Z := by simpa [Value.ownBlock] using he2
    unfold ZBox at hb
    rw [hb] at hg
    simp at hg
    exact he hg.2.symm
theorem grown_same {W w1 : World} {row : Option Nat} {X : Nat} (hg : W.grownBy w1 row) (hX : X < W.heap.size) (hne : row = none ∨ row ≠ some X) : w1.heap[X]? = W.heap[X]? :=
  hg.block X hX (fun e => by rcases hne with h | h; · rw [h] at e; cases e
                             · exact h e.symm)
section
variable {w W w1 : World} {X : Nat} {c : StC} {s : St} {v' : Value} {ts' : List Tk}
theorem Md.app_box (M : Md w X c s W) (g1 : W.grownBy w1 c.vt.ownBlock) : StBox w1 X c s := (grown_same g1 M.bx.lt (M.o.ot.ne_bx M.bx (by decide))).trans M.bx
/-- The tasks have grown, and are put into the box. -/
theorem Md.app (M : Md w X c s W) (o1 : OV encT 8 61 w.heap.size w1 v' ts') (g1 : W.grownBy w1 c.vt.ownBlock) : Md w X { c with vt := v' } { s with ts := ts' } (w1.setCell ⟨X, 5, none⟩ v') := by
  have b1 := M.app_box g1
  have hz : ZBox w1 w.heap.size := (grown_same g1 M.zb.lt (M.o.ot.ne_z M.zb (by decide))).trans M.zb
  have o : StO w.heap.size w1 { c with vt := v' } { s with ts := ts' } :=
    ⟨M.o.og.keep g1 (M.o.og.ne M.o.ot (by decide)), M.o.oc.keep g1 (M.o.oc.ne M.o.ot (by decide)), M.o.ou.keep g1 (M.o.ou.ne M.o.ot (by decide)), o1, M.o.os.keep g1 (M.o.os.ne M.o.ot (by decide)), fun x hx => (M.o.orr x hx).keep g1 ((M.o.orr x hx).ne M.o.ot (by decide))⟩
  have hb : Below w.heap.size w w1 := M.bel.grown g1 M.bel.size (fun k hk => (M.o.ot.block k hk).1)
  refine ⟨b1.set rfl, o.setbx b1 5 v', hz.other (fun e => by have := M.ne; have : X = w.heap.size := e; omega), hb.setCell (p := ⟨X, 5, none⟩) (by have := M.ne; show _ ≤ X; omega) _, M.ne⟩
end
end Go.Proofs.Ytenngfkgfdogjaa
namespace Go.Proofs.Ytenngfkgfdogjaa
open Go Go.RowKit

section
variable {P : Program} {md : Region.Mode} {ops : Array Oper} {Q : Exit → Act → World → Prop}

theorem ready_mem {listed : Array Bool} {i : Nat} (h : i ∈ Region.ready md ops listed) : i < ops.size ∧ listed.getD i true = false ∧ ∃ o, ops[i]? = some o ∧ ∀ e ∈ o.after.toList, Region.binds md e = true → listed.getD e.on false = true := by
  unfold Region.ready at h
  obtain ⟨h1, h2⟩ := List.mem_filter.1 h
  have hi := List.mem_range.1 h1
  rw [Bool.and_eq_true] at h2
  obtain ⟨h3, h4⟩ := h2
  refine ⟨hi, by simpa using h3, ops[i], Array.getElem?_eq_getElem hi, fun e he hb => ?_⟩
  rw [Array.getElem?_eq_getElem hi] at h4
  simp only [Option.map_some, Option.getD_some, Array.all_eq_true_iff_forall_mem] at h4
  have := h4 e (by simpa using he)
  simpa [hb] using this
def left (listed : Array Bool) : Nat := listed.toList.countP (fun b => !b)
theorem left_set {listed : Array Bool} {i : Nat} (h : listed.getD i true = false) : left (listed.setIfInBounds i true) + 1 = left listed := by
  have hi : i < listed.size := by
    rcases Nat.lt_or_ge i listed.size with h' | h'
    · exact h'
    · rw [Array.getD_eq_getD_getElem?, Array.getElem?_eq_none h'] at h; simp at h
  have hv : listed.toList[i]? = some false := by
    rw [Array.getD_eq_getD_getElem?, Array.getElem?_eq_getElem hi] at h
    simp only [Option.getD_some] at h
    rw [Array.getElem?_toList, Array.getElem?_eq_getElem hi, h]
  unfold left
  rw [Array.toList_setIfInBounds]
  generalize listed.toList = l at hv
  clear h hi
  induction l generalizing i with
  | nil => simp at hv
  | cons x r ih =>
    rcases i with _ | i
    · simp at hv; subst hv; simp
    · simp at hv
      rw [List.set_cons_succ, List.countP_cons, List.countP_cons, ← ih hv]
      omega
theorem ready_none {listed : Array Bool} (hs : listed.size = ops.size) (h : left listed = 0) : Region.ready md ops listed = [] := by
  unfold Region.ready
  rw [List.filter_eq_nil_iff]
  intro i hi
  have hi := List.mem_range.1 hi
  have : listed.getD i true = true := by
    unfold left at h
    rw [List.countP_eq_zero] at h
    have h2 := h listed[i] (by simp)
    rw [Array.getD_eq_getD_getElem?, Array.getElem?_eq_getElem (by omega)]
    simpa using h2
  rw [this]; simp
/-- By an invariant of what has come up. -/
theorem wpAny_inv (I : Array Bool → Act → World → Prop)
    (hstep : ∀ listed a w i, listed.size = ops.size → I listed a w → i ∈ Region.ready md ops listed → wpOp P ops Q i (I (listed.setIfInBounds i true)) a w)
    (hend : ∀ listed a w, listed.size = ops.size → I listed a w → Region.ready md ops listed = [] → Q .normal a w) :
    ∀ fuel listed a w, listed.size = ops.size → left listed ≤ fuel → I listed a w → wpAny P md ops Q fuel listed a w
  | 0, listed, a, w, hs, hl, hI => by
    have hr : Region.ready md ops listed = [] := ready_none hs (by omega)
    exact ⟨hr, hend listed a w hs hI hr⟩
  | fuel + 1, listed, a, w, hs, hl, hI => ⟨hend listed a w hs hI, fun i hi => by
    have hm := ready_mem hi
    have hc := left_set hm.2.1
    exact wpOp_mono (fun a' w' h => wpAny_inv I hstep hend fuel _ a' w' (by simpa using hs) (by omega) h) (hstep listed a w i hs hI hi)⟩
/-- Operation i waits for operation j. -/
def depB (md : Region.Mode) (ops : Array Oper) (i j : Nat) : Bool := (ops[i]?).any fun o => o.after.any fun e => Region.binds md e && e.on == j
def upd (x : Nat → Value) (i : Nat) (v : Value) (j : Nat) : Value := if j = i then v else x j
theorem upd_self (x : Nat → Value) (i : Nat) (v : Value) : upd x i v i = v := if_pos rfl
theorem upd_ne {x : Nat → Value} {i j : Nat} {v : Value} (h : j ≠ i) : upd x i v j = x j := if_neg h
theorem set_cases {listed : Array Bool} {i j : Nat} (h : (listed.setIfInBounds i true).getD j false = true) : j = i ∨ listed.getD j false = true := by
  by_cases e : j = i
  · exact .inl e
  · right
    rw [Array.getD_eq_getD_getElem?, Array.getElem?_setIfInBounds_ne (fun h => e h.symm)] at h
    rwa [Array.getD_eq_getD_getElem?]
/-- All operations but the last only add to what is there (R); the last waits for all others. F: what an operation's value is worth; b: the frame by the operations' values. -/
theorem wp_region_last {id : Nat} {a : Act} {w : World} (hm : P.follows .mixedOrders = true) (N : Nat) (hN : ops.size = N + 1) (R : World → World → Prop)
    (b : (Nat → Value) → Act) (F : Nat → Value → World → Prop) (B : World → Prop) (hF : ∀ i v w w', R w w' → F i v w → F i v w') (hB : ∀ w w', R w w' → B w → B w')
    (hgd : (List.range (N + 1)).all (fun i => ((ops[i]?).map (·.guard.isNone)).getD false) = true)
    (hlast : (List.range N).all (depB .any ops N) = true) (hord : (List.range (N + 1)).all (fun i => ((ops[i]?).map (fun o => o.after.all fun e => !Region.binds .any e || decide (e.on < i))).getD false) = true)
    (hsteps : ∀ i o, i < N → ops[i]? = some o → ∀ x w, B w → (∀ j, depB .any ops i j = true → F j (x j) w) → ∀ K : Act → World → Prop, (∀ v w', R w w' → F i v w' → K (b (upd x i v)) w') → o.wp P (b x) w K Q)
    (hfin : ∀ o, ops[N]? = some o → ∀ x w, B w → (∀ j, j < N → F j (x j) w) → ∀ K : Act → World → Prop, (∀ a' w', Q .normal a' w' → K a' w') → o.wp P (b x) w K Q)
    (x0 : Nat → Value) (h0 : a = b x0) (hB0 : B w.drew) : (Code.region id ops true).wp P Q a w := by
  refine wp_region_any hm ?_
  have hwant : ∀ i o, ops[i]? = some o → ∀ ts, Region.wanted o (yielded ops ts) = true := fun i o ho ts => by
    have hi := (Array.getElem?_eq_some_iff.1 ho).1
    have := List.all_eq_true.1 hgd i (List.mem_range.2 (by omega))
    rw [ho] at this
    simp only [Option.map_some, Option.getD_some, Option.isNone_iff_eq_none] at this
    simp [Region.wanted, this]
  refine wpAny_inv (I := fun listed a w => ((∀ j, j ≤ N → listed.getD j false = true) ∧ Q .normal a w) ∨ (listed.getD N false = false ∧ ∃ x, a = b x ∧ B w ∧ ∀ j, j < N → listed.getD j false = true → F j (x j) w)) ?_ ?_ _ _ _ _ (by simp) ?_ ?_
  · intro listed a w i hs hI hi
    obtain ⟨h1, h2, o, ho, hdep⟩ := ready_mem hi
    have hdp : ∀ j, depB .any ops i j = true → listed.getD j false = true := fun j hj => by
      unfold depB at hj
      rw [ho] at hj
      simp only [Option.any_some] at hj
      rw [← Array.any_toList] at hj
      obtain ⟨e, he, hj⟩ := List.any_eq_true.1 hj
      rw [Bool.and_eq_true, beq_iff_eq] at hj
      rw [← hj.2]; exact hdep e he hj.1
    have hstp : ∀ K, o.wp P a w K Q → wpOp P ops Q i K a w := fun K h => by
      unfold wpOp; rw [ho]; simp only
      rw [if_pos (hwant i o ho _)]; exact .inl h
    refine hstp _ ?_
    rcases hI with ⟨hl, _⟩ | ⟨hl, x, rfl, hb, hf⟩
    · -- nothing comes up behind the last
      exfalso
      have := hl i (by omega)
      rw [Array.getD_eq_getD_getElem?, Array.getElem?_eq_getElem (by omega)] at h2 this
      simp at h2 this; rw [h2] at this; cases this
    · rcases Nat.lt_or_ge i N with hiN | hiN
      · refine Oper.wp_mono (fun a' w' h => ?_) (hsteps i o hiN ho x w hb (fun j hj => ?_) (fun a' w' => ∃ v, a' = b (upd x i v) ∧ R w w' ∧ F i v w') (fun v w' h1 h2 => ⟨v, rfl, h1, h2⟩))
        · obtain ⟨v, rfl, hr, hfi⟩ := h
          refine .inr ⟨?_, upd x i v, rfl, hB _ _ hr hb, fun j hj hlj => ?_⟩
          · rw [Array.getD_eq_getD_getElem?, Array.getElem?_setIfInBounds_ne (by omega), ← Array.getD_eq_getD_getElem?]; exact hl
          · rcases set_cases hlj with rfl | hlj
            · rw [upd_self]; exact hfi
            · by_cases e : j = i
              · subst e; rw [upd_self]; exact hfi
              · rw [upd_ne e]; exact hF _ _ _ _ hr (hf j hj hlj)
        · have hlj := hdp j hj
          rcases Nat.lt_or_ge j N with hjN | hjN
          · exact hf j hjN hlj
          · exfalso
            have hjs : j < listed.size := by
              rcases Nat.lt_or_ge j listed.size with h' | h'
              · exact h'
              · rw [Array.getD_eq_getD_getElem?, Array.getElem?_eq_none h'] at hlj; simp at hlj
            obtain rfl : j = N := by omega
            rw [hlj] at hl; cases hl
      · obtain rfl : i = N := by omega
        have hall : ∀ j, j < i → listed.getD j false = true := fun j hj => hdp j (List.all_eq_true.1 hlast j (List.mem_range.2 hj))
        refine Oper.wp_mono (fun a' w' h => .inl ⟨fun j hj => ?_, h⟩) (hfin o ho x w hb (fun j hj => hf j hj (hall j hj)) (Q .normal) (fun _ _ h => h))
        by_cases e : j = i
        · subst e; rw [Array.getD_eq_getD_getElem?, Array.getElem?_setIfInBounds_self_of_lt (by omega)]; rfl
        · rw [Array.getD_eq_getD_getElem?, Array.getElem?_setIfInBounds_ne (fun h => e h.symm), ← Array.getD_eq_getD_getElem?]; exact hall j (by omega)
  · intro listed a w hs hI hr
    rcases hI with ⟨_, h⟩ | ⟨hl, x, rfl, hb, hf⟩
    · exact h
    · exfalso
      -- the least that has not come up is ready
      have hle : ∀ k, k ≤ N → listed.getD k false = true := by
        intro k
        induction k using Nat.strongRecOn with
        | _ k ih =>
          intro hk
          have hks : k < listed.size := by omega
          cases hv : listed.getD k false with
          | true => rfl
          | false =>
            exfalso
            have hmem : k ∈ Region.ready .any ops listed := by
              unfold Region.ready
              refine List.mem_filter.2 ⟨List.mem_range.2 (by omega), ?_⟩
              rw [Bool.and_eq_true]
              refine ⟨?_, ?_⟩
              · rw [Array.getD_eq_getD_getElem?, Array.getElem?_eq_getElem hks] at hv ⊢
                simpa using hv
              · have ho := List.all_eq_true.1 hord k (List.mem_range.2 (by omega))
                rw [Array.getElem?_eq_getElem (show k < ops.size by omega)] at ho ⊢
                simp only [Option.map_some, Option.getD_some] at ho ⊢
                rw [← Array.all_toList] at ho ⊢
                rw [List.all_eq_true] at ho ⊢
                intro e he
                have hon := ho e he
                cases hbe : Region.binds .any e with
                | false => rfl
                | true =>
                  rw [hbe] at hon
                  have hon' : e.on < k := by simpa using hon
                  rw [ih e.on hon' (by omega)]; rfl
            rw [hr] at hmem; cases hmem
      rw [hle N (Nat.le_refl _)] at hl; cases hl
  · refine Nat.le_trans List.countP_le_length ?_
    simp
  · exact .inr ⟨by rw [Array.getD_eq_getD_getElem?, Array.getElem?_replicate, if_pos (by omega)]; rfl, x0, h0, hB0, fun j hj h => by
      rw [Array.getD_eq_getD_getElem?, Array.getElem?_replicate] at h
      split at h <;> simp at h⟩
/-- Operations that leave the world as it is (F: what each yields), and a chain of K others, each behind the one before (B k: what is so when k of them are done). -/
theorem wp_region_chain {id : Nat} {a : Act} {w : World} (hm : P.follows .mixedOrders = true) (N : Nat) (hN : ops.size = N) (K : Nat) (ch : Nat → Nat)
    (b : (Nat → Value) → Act) (F : Nat → Value → Prop) (B : Nat → (Nat → Value) → World → Prop)
    (hch : (List.range K).all (fun k => decide (ch k < N) && (List.range K).all (fun m => k == m || ch k != ch m) && (k == 0 || depB .any ops (ch k) (ch (k - 1)))) = true)
    (hB : ∀ k x i v w, ((List.range K).any fun m => ch m == i) = false → B k x w → B k (upd x i v) w)
    (hgd : (List.range N).all (fun i => ((ops[i]?).map (·.guard.isNone)).getD false) = true)
    (hord : (List.range N).all (fun i => ((ops[i]?).map (fun o => o.after.all fun e => !Region.binds .any e || decide (e.on < i))).getD false) = true)
    (hpure : ∀ i o, i < N → ((List.range K).any fun m => ch m == i) = false → ops[i]? = some o → ∀ k x w, k ≤ K → B k x w → (∀ j, depB .any ops i j = true → ((List.range K).any fun m => ch m == j) = false → F j (x j)) → (∀ m, m < K → depB .any ops i (ch m) = true → m < k) → (∀ m, m < k → depB .any ops (ch m) i = false) →
      ∀ Kt : Act → World → Prop, (∀ v, F i v → Kt (b (upd x i v)) w) → o.wp P (b x) w Kt Q)
    (hchain : ∀ k o, k < K → ops[ch k]? = some o → ∀ x w, B k x w → (∀ j, depB .any ops (ch k) j = true → ((List.range K).any fun m => ch m == j) = false → F j (x j)) →
      ∀ Kt : Act → World → Prop, (∀ v w', B (k + 1) (upd x (ch k) v) w' → Kt (b (upd x (ch k) v)) w') → o.wp P (b x) w Kt Q)
    (hend : ∀ x w, B K x w → (∀ j, j < N → ((List.range K).any fun m => ch m == j) = false → F j (x j)) → Q .normal (b x) w)
    (x0 : Nat → Value) (h0 : a = b x0) (hB0 : B 0 x0 w.drew) : (Code.region id ops true).wp P Q a w := by
  refine wp_region_any hm ?_
  have hwant : ∀ i o, ops[i]? = some o → ∀ ts, Region.wanted o (yielded ops ts) = true := fun i o ho ts => by
    have hi := (Array.getElem?_eq_some_iff.1 ho).1
    have := List.all_eq_true.1 hgd i (List.mem_range.2 (by omega))
    rw [ho] at this
    simp only [Option.map_some, Option.getD_some, Option.isNone_iff_eq_none] at this
    simp [Region.wanted, this]
  have hc1 : ∀ k, k < K → ch k < N := fun k hk => by
    have := List.all_eq_true.1 hch k (List.mem_range.2 hk)
    simp only [Bool.and_eq_true, decide_eq_true_eq] at this
    exact this.1.1
  have hc2 : ∀ k m, k < K → m < K → ch k = ch m → k = m := fun k m hk hm e => by
    have := List.all_eq_true.1 hch k (List.mem_range.2 hk)
    simp only [Bool.and_eq_true] at this
    have := List.all_eq_true.1 this.1.2 m (List.mem_range.2 hm)
    simpa [e] using this
  have hc3 : ∀ k, 0 < k → k < K → depB .any ops (ch k) (ch (k - 1)) = true := fun k h0 hk => by
    have := List.all_eq_true.1 hch k (List.mem_range.2 hk)
    simp only [Bool.and_eq_true, Bool.or_eq_true, beq_iff_eq] at this
    rcases this.2 with h | h
    · omega
    · exact h
  have hnc : ∀ i, ((List.range K).any fun m => ch m == i) = true ↔ ∃ m, m < K ∧ ch m = i := fun i => by simp
  refine wpAny_inv (I := fun listed a w => ∃ x k, a = b x ∧ k ≤ K ∧ (∀ m, m < K → (listed.getD (ch m) false = true ↔ m < k)) ∧ (∀ m, m < k → ∀ j, depB .any ops (ch m) j = true → listed.getD j false = true) ∧ B k x w ∧ ∀ j, j < N → ((List.range K).any fun m => ch m == j) = false → listed.getD j false = true → F j (x j)) ?_ ?_ _ _ _ _ (by simp) ?_ ?_
  · rintro listed a w i hs ⟨x, k, rfl, hk, hlk, hld, hb, hf⟩ hi
    obtain ⟨h1, h2, o, ho, hdep⟩ := ready_mem hi
    have hdp : ∀ j, depB .any ops i j = true → listed.getD j false = true := fun j hj => by
      unfold depB at hj
      rw [ho] at hj
      simp only [Option.any_some] at hj
      rw [← Array.any_toList] at hj
      obtain ⟨e, he, hj⟩ := List.any_eq_true.1 hj
      rw [Bool.and_eq_true, beq_iff_eq] at hj
      rw [← hj.2]; exact hdep e he hj.1
    have hlt : ∀ j, listed.getD j false = true → j < N := fun j hj => by
      rcases Nat.lt_or_ge j listed.size with h' | h'
      · omega
      · rw [Array.getD_eq_getD_getElem?, Array.getElem?_eq_none h'] at hj; simp at hj
    have hil : listed.getD i false = false := by
      rw [Array.getD_eq_getD_getElem?, Array.getElem?_eq_getElem (by omega)] at h2 ⊢
      simpa using h2
    have hfd : ∀ j, depB .any ops i j = true → ((List.range K).any fun m => ch m == j) = false → F j (x j) := fun j hj hn => hf j (hlt j (hdp j hj)) hn (hdp j hj)
    unfold wpOp; rw [ho]; simp only
    rw [if_pos (hwant i o ho _)]
    refine .inl ?_
    have hset : ∀ j, j ≠ i → (listed.setIfInBounds i true).getD j false = listed.getD j false := fun j hj => by
      rw [Array.getD_eq_getD_getElem?, Array.getElem?_setIfInBounds_ne (fun e => hj e.symm), ← Array.getD_eq_getD_getElem?]
    have hset' : (listed.setIfInBounds i true).getD i false = true := by
      rw [Array.getD_eq_getD_getElem?, Array.getElem?_setIfInBounds_self_of_lt (by omega)]; rfl
    cases hic : ((List.range K).any fun m => ch m == i) with
    | false =>
      have hne : ∀ m, m < K → ch m ≠ i := fun m hm e => by
        have := (hnc i).2 ⟨m, hm, e⟩
        rw [hic] at this; cases this
      refine hpure i o (by omega) hic ho k x w hk hb hfd (fun m hm hd => (hlk m hm).1 (hdp _ hd)) (fun m hm => ?_) _ (fun v hv => ⟨upd x i v, k, rfl, hk, fun m hm => ?_, fun m hm j hj => ?_, hB k x i v w hic hb, fun j hj hjc hlj => ?_⟩)
      · cases hdd : depB .any ops (ch m) i with
        | false => rfl
        | true => rw [hld m hm i hdd] at hil; cases hil
      · rw [hset _ (hne m hm)]; exact hlk m hm
      · by_cases e : j = i
        · subst e; exact hset'
        · rw [hset _ e]; exact hld m hm j hj
      · rcases set_cases hlj with rfl | hlj
        · rw [upd_self]; exact hv
        · by_cases e : j = i
          · subst e; rw [upd_self]; exact hv
          · rw [upd_ne e]; exact hf j hj hjc hlj
    | true =>
      obtain ⟨m, hm, rfl⟩ := (hnc i).1 hic
      have hmk : m = k := by
        have h3 : ¬ m < k := fun h => by rw [(hlk m hm).2 h] at hil; cases hil
        rcases Nat.lt_or_ge k m with h4 | h4
        · exfalso
          have := hdp _ (hc3 m (by omega) hm)
          have := (hlk (m - 1) (by omega)).1 this
          omega
        · omega
      subst hmk
      refine hchain m o hm ho x w hb hfd _ (fun v w' hv => ⟨upd x (ch m) v, m + 1, rfl, by omega, fun q hq => ?_, fun q hq j hj => ?_, hv, fun j hj hjc hlj => ?_⟩)
      · by_cases e : q = m
        · subst e; rw [hset']; simp
        · rw [hset _ (fun h => e (hc2 q m hq hm h)), hlk q hq]; omega
      · by_cases e : j = ch m
        · subst e; exact hset'
        · rw [hset _ e]
          rcases Nat.lt_or_ge q m with h | h
          · exact hld q h j hj
          · obtain rfl : q = m := by omega
            exact hdp j hj
      · have hjne : j ≠ ch m := fun e => by
          have := (hnc j).2 ⟨m, hm, e.symm⟩
          rw [hjc] at this; cases this
        rw [hset _ hjne] at hlj
        rw [upd_ne hjne]; exact hf j hj hjc hlj
  · rintro listed a w hs ⟨x, k, rfl, hk, hlk, hld, hb, hf⟩ hr
    have hle : ∀ q, q < N → listed.getD q false = true := by
      intro q
      induction q using Nat.strongRecOn with
      | _ q ih =>
        intro hq
        have hks : q < listed.size := by omega
        cases hv : listed.getD q false with
        | true => rfl
        | false =>
          exfalso
          have hmem : q ∈ Region.ready .any ops listed := by
            unfold Region.ready
            refine List.mem_filter.2 ⟨List.mem_range.2 (by omega), ?_⟩
            rw [Bool.and_eq_true]
            refine ⟨?_, ?_⟩
            · rw [Array.getD_eq_getD_getElem?, Array.getElem?_eq_getElem hks] at hv ⊢
              simpa using hv
            · have ho := List.all_eq_true.1 hord q (List.mem_range.2 (by omega))
              rw [Array.getElem?_eq_getElem (show q < ops.size by omega)] at ho ⊢
              simp only [Option.map_some, Option.getD_some] at ho ⊢
              rw [← Array.all_toList] at ho ⊢
              rw [List.all_eq_true] at ho ⊢
              intro e he
              have hon := ho e he
              cases hbe : Region.binds .any e with
              | false => rfl
              | true =>
                rw [hbe] at hon
                have hon' : e.on < q := by simpa using hon
                rw [ih e.on hon' (by omega)]; rfl
          rw [hr] at hmem; cases hmem
    have hkK : k = K := by
      rcases Nat.lt_or_ge k K with h | h
      · exfalso
        have := (hlk k h).1 (hle _ (hc1 k h))
        omega
      · omega
    subst hkK
    exact hend x w hb (fun j hj hjc => hf j hj hjc (hle j hj))
  · refine Nat.le_trans List.countP_le_length ?_
    simp
  · refine ⟨x0, 0, h0, Nat.zero_le _, fun m hm => ?_, fun m hm => by omega, hB0, fun j hj _ h => ?_⟩
    · rw [Array.getD_eq_getD_getElem?, Array.getElem?_replicate]
      split <;> simp
    · rw [Array.getD_eq_getD_getElem?, Array.getElem?_replicate] at h
      split at h <;> simp at h
end
section
variable {P : Program} {α : Type} {enc : α → List Value} {k bytes base : Nat} {t e : TypeId} {w w' : World} {v sv : Value} {xs ys : List α}
theorem wp_app {o : Oper} {a : Act} {K : Act → World → Prop} {Q : Exit → Act → World → Prop} (T : ElemT P t e k bytes) (hk : ∀ x, (enc x).length = k) (h1 : ∀ x, ∀ u ∈ enc x, u.oneCell' = true)
    (s x : Operand) (ho : o.op = .call { callee := .builtin .append, args := #[s, x], argTypes := #[t, t] })
    (v sv : Value) (hs : a.eval s = v) (hx : a.eval x = sv) (hown : OV enc k e base w v xs) (hys : EV enc k w sv ys) (hn : xs.length + ys.length ≤ 1000000000) (hbase : base ≤ w.heap.size)
    (h : ∀ v' w', OV enc k e base w' v' (xs ++ ys) → w.grownBy w' v.ownBlock → K (a.put o.dst v') w') : Oper.wp P o a w K Q := by
  obtain ⟨v', w', hr, h2, h3⟩ := run_app T hk h1 o.type hown hys hn hbase
  unfold Oper.wp execOp
  simp only [ho, resolve, invoke, builtin, Sem.run_bind, Sem.run_pure, Result.andThen_ok, List.map_toArray, List.map_cons, List.map_nil, hs, hx, hr]
  exact h v' w' h2 h3
end
end Go.Proofs.Ytenngfkgfdogjaa
namespace Go.Proofs.Ytenngfkgfdogjaa
open Go Go.RowKit Go.Shelf
attribute [local go_sem] Oper.semAt_some

/-- The box of a spot. -/
def SpB (W : World) (B : Nat) (v fl : Int) : Prop := W.heap[B]? = some (.cells #[.int .u64 v, .int .u32 0, .int .u64 fl] 51 (0, 0))
theorem SpB.cell {W : World} {B : Nat} {v fl : Int} (h : SpB W B v fl) : W.cell? ⟨B, 0, none⟩ = some (.int .u64 v) ∧ W.cell? ⟨B, 1, none⟩ = some (.int .u32 0) ∧ W.cell? ⟨B, 2, none⟩ = some (.int .u64 fl) := by
  have hc := fun i => cell_of_row W B i _ _ (0, 0) h
  exact ⟨(hc 0).trans rfl, (hc 1).trans rfl, (hc 2).trans rfl⟩
theorem SpB.frz {W : World} {B : Nat} {v fl : Int} (h : SpB W B v fl) (i : Nat) : W.frozen? ⟨B, i, none⟩ = false := frozen_of_row W B i _ _ h
theorem SpB.set0 {W : World} {B : Nat} {v fl : Int} (h : SpB W B v fl) (v' : Int) : SpB (W.setCell ⟨B, 0, none⟩ (.int .u64 v')) B v' fl := heap_setCell_same W B 0 _ _ _ h
theorem SpB.set2 {W : World} {B : Nat} {v fl : Int} (h : SpB W B v fl) (v' : Int) : SpB (W.setCell ⟨B, 2, none⟩ (.int .u64 v')) B v v' := heap_setCell_same W B 2 _ _ _ h
theorem SpB.lt {W : World} {B : Nat} {v fl : Int} (h : SpB W B v fl) : B < W.heap.size := (Array.getElem?_eq_some_iff.1 h).1
/-- Where region 21 stands when k of its two stores are done. -/
def SpK (w1 : World) (B : Nat) (v fl : Int) (k : Nat) (W : World) : Prop :=
  Mod (fun q => q = B) w1 W ∧ (k = 0 → SpB W B 0 0) ∧ (k = 1 → SpB W B v 0) ∧ (k = 2 → SpB W B v fl)
/-- The first statement of a chain. -/
def headR : Code → Code
  | .seq a _ => a
  | c => c
set_option maxRecDepth 100000 in
set_option maxHeartbeats 6400000 in
theorem made_r21 (w1 : World) (B b3 o3 c3 m kn i1 i2 : Nat) (sl : List Nat) {u0 u1 u2 u4 u5 u6 u7 u8 u9 u10 u11 u12 u13 u14 u15 u16 u17 u20 u21 u22 u23 u24 u25 u26 u27 u28 u29 u30 u31 u32 u33 u34 u35 u36 u37 u38 u39 u40 u41 u42 u43 u44 u45 u46 u47 u48 u49 u50 u51 u52 u53 u54 u55 u56 u57 u58 u59 u60 u61 u62 u63 u64 u65 u66 u67 u68 u69 u70 u71 u72 u73 u74 u75 u76 u77 u78 u79 u80 u81 u82 u83 u84 u85 u86 u87 u88 u89 u90 u91 u92 u93 u94 u95 u96 u97 u98 u99 u100 u101 u102 u103 u104 u105 u106 u107 u108 u109 u110 u111 u112 u113 u114 u115 u116 u117 u118 u119 u120 u121 u122 u123 u124 u125 u126 u127 u128 u129 u130 u131 u132 u133 u134 u135 u136 u137 u138 u139 u140 u141 : Value} (hB : SpB w1 B 0 0) (hr : ER encU16 1 w1 b3 o3 sl) (hne : b3 ≠ B) (hlt : ∀ n ∈ sl, n < 65536) (hm : sl.length = m) (hm0 : 0 < m) (hm1 : m ≤ 9223372036854775807) (hK : kn ≤ 1000) (h1 : kn % m = i1) (h2 : (kn + 1) % m = i2)
    (Q : Exit → Act → World → Prop)
    (hQ : ∀ (u107 u108 u109 u110 u111 u112 u113 u114 u115 u116 u117 u118 u119 u120 u121 u122 u123 u124 u125 : Value) (W : World), Mod (fun q => q = B) w1 W → SpB W B (sl.getD i1 0 : Nat) (sl.getD i2 0 : Nat) →
      Q .normal ⟨#[u0, u1, u2, .slice (some ⟨b3, o3, none⟩) m c3, u4, u5, u6, u7, u8, u9, u10, u11, u12, u13, u14, u15, u16, u17, .pointer (some ⟨B, 0, none⟩), .int .i64 kn, u20, u21, u22, u23, u24, u25, u26, u27, u28, u29, u30, u31, u32, u33, u34, u35, u36, u37, u38, u39, u40, u41, u42, u43, u44, u45, u46, u47, u48, u49, u50, u51, u52, u53, u54, u55, u56, u57, u58, u59, u60, u61, u62, u63, u64, u65, u66, u67, u68, u69, u70, u71, u72, u73, u74, u75, u76, u77, u78, u79, u80, u81, u82, u83, u84, u85, u86, u87, u88, u89, u90, u91, u92, u93, u94, u95, u96, u97, u98, u99, u100, u101, u102, u103, u104, u105, u106, u107, u108, u109, u110, u111, u112, u113, u114, u115, u116, u117, u118, u119, u120, u121, u122, u123, u124, u125, u126, u127, u128, u129, u130, u131, u132, u133, u134, u135, u136, u137, u138, u139, u140, u141], []⟩ W) :
    Code.wp Try.prog (headR (tailR Try.f15 21)) Q
      ⟨#[u0, u1, u2, .slice (some ⟨b3, o3, none⟩) m c3, u4, u5, u6, u7, u8, u9, u10, u11, u12, u13, u14, u15, u16, u17, .pointer (some ⟨B, 0, none⟩), .int .i64 kn, u20, u21, u22, u23, u24, u25, u26, u27, u28, u29, u30, u31, u32, u33, u34, u35, u36, u37, u38, u39, u40, u41, u42, u43, u44, u45, u46, u47, u48, u49, u50, u51, u52, u53, u54, u55, u56, u57, u58, u59, u60, u61, u62, u63, u64, u65, u66, u67, u68, u69, u70, u71, u72, u73, u74, u75, u76, u77, u78, u79, u80, u81, u82, u83, u84, u85, u86, u87, u88, u89, u90, u91, u92, u93, u94, u95, u96, u97, u98, u99, u100, u101, u102, u103, u104, u105, u106, u107, u108, u109, u110, u111, u112, u113, u114, u115, u116, u117, u118, u119, u120, u121, u122, u123, u124, u125, u126, u127, u128, u129, u130, u131, u132, u133, u134, u135, u136, u137, u138, u139, u140, u141], []⟩ w1 := by
  conv => arg 2; whnf
  conv => arg 4; dsimp only
  have l1 : i1 < m := by rw [← h1]; exact Nat.mod_lt _ hm0
  have l2 : i2 < m := by rw [← h2]; exact Nat.mod_lt _ hm0
  obtain ⟨x1, hx1⟩ : ∃ x, sl[i1]? = some x := ⟨_, List.getElem?_eq_getElem (by omega)⟩
  obtain ⟨x2, hx2⟩ : ∃ x, sl[i2]? = some x := ⟨_, List.getElem?_eq_getElem (by omega)⟩
  rw [show sl.getD i1 0 = x1 by rw [List.getD_eq_getElem?_getD, hx1]; rfl, show sl.getD i2 0 = x2 by rw [List.getD_eq_getElem?_getD, hx2]; rfl] at hQ
  have y1 := hlt x1 (List.mem_of_getElem? hx1)
  have y2 := hlt x2 (List.mem_of_getElem? hx2)
  have C1 := Lib.hid (show w1.cell? ⟨b3, o3 + i1, none⟩ = some (.int .u16 (x1 : Nat)) by have := hr i1 x1 hx1 0 _ rfl; simpa using this)
  have C2 := Lib.hid (show w1.cell? ⟨b3, o3 + i2, none⟩ = some (.int .u16 (x2 : Nat)) by have := hr i2 x2 hx2 0 _ rfl; simpa using this)
  have t1 : (kn : Int).tmod (m : Int) = (i1 : Int) := by rw [← h1]; rfl
  have t2 : ((kn : Int) + 1).tmod (m : Int) = (i2 : Int) := by rw [← h2]; rfl
  have hmn : ¬ (m : Int) = 0 := by omega
  have hmn' : ¬ m = 0 := by omega
  have k1 : IntKind.i64.wrap ((kn : Int) + 1) = (kn : Int) + 1 := IntWalk.i64_in _ (by omega)
  have v1 : IntKind.u64.wrap (x1 : Int) = x1 := IntWalk.u64_in _ (by omega)
  have v2 : IntKind.u64.wrap (x2 : Int) = x2 := IntWalk.u64_in _ (by omega)
  have i10 : (0 : Int) ≤ (i1 : Int) := by omega
  have i11 : (i1 : Int) < (m : Int) := by omega
  have i20 : (0 : Int) ≤ (i2 : Int) := by omega
  have i21 : (i2 : Int) < (m : Int) := by omega
  have HQ := Lib.hid hQ
  clear hQ hx1 hx2 hlt hr hm h1 h2
  refine wp_region_chain (by kernel_rfl) 21 rfl 2 (fun m => match m with | 0 => 18 | _ => 20) (fun x => ⟨#[u0, u1, u2, .slice (some ⟨b3, o3, none⟩) m c3, u4, u5, u6, u7, u8, u9, u10, u11, u12, u13, u14, u15, u16, u17, .pointer (some ⟨B, 0, none⟩), .int .i64 kn, u20, u21, u22, u23, u24, u25, u26, u27, u28, u29, u30, u31, u32, u33, u34, u35, u36, u37, u38, u39, u40, u41, u42, u43, u44, u45, u46, u47, u48, u49, u50, u51, u52, u53, u54, u55, u56, u57, u58, u59, u60, u61, u62, u63, u64, u65, u66, u67, u68, u69, u70, u71, u72, u73, u74, u75, u76, u77, u78, u79, u80, u81, u82, u83, u84, u85, u86, u87, u88, u89, u90, u91, u92, u93, u94, u95, u96, u97, u98, u99, u100, u101, u102, u103, u104, u105, u106, x 0, x 1, x 2, x 3, x 4, x 5, x 6, x 7, x 8, x 9, x 10, x 11, x 12, x 13, x 14, x 15, x 16, x 17, x 19, u126, u127, u128, u129, u130, u131, u132, u133, u134, u135, u136, u137, u138, u139, u140, u141], []⟩) (fun i v => match i with | 0 => v = .slice (some ⟨b3, o3, none⟩) m c3 | 1 => v = .int .i64 (kn : Nat) | 2 => v = .slice (some ⟨b3, o3, none⟩) m c3 | 3 => v = .int .i64 (m : Nat) | 4 => v = .int .i64 (i1 : Nat) | 5 => v = .pointer (some ⟨b3, o3 + i1, none⟩) | 6 => v = .int .u16 (x1 : Nat) | 7 => v = .int .u64 (x1 : Nat) | 8 => v = .slice (some ⟨b3, o3, none⟩) m c3 | 9 => v = .int .i64 (kn : Nat) | 10 => v = .int .i64 ((kn : Int) + 1) | 11 => v = .slice (some ⟨b3, o3, none⟩) m c3 | 12 => v = .int .i64 (m : Nat) | 13 => v = .int .i64 (i2 : Nat) | 14 => v = .pointer (some ⟨b3, o3 + i2, none⟩) | 15 => v = .int .u16 (x2 : Nat) | 16 => v = .int .u64 (x2 : Nat) | 17 => v = .pointer (some ⟨B, 0, none⟩) | 19 => v = .pointer (some ⟨B, 2, none⟩) | _ => True)
    (fun k _ W => SpK w1 B x1 x2 k W) (by kernel_rfl) ?hB (by kernel_rfl) (by kernel_rfl) ?hpure ?hchain ?hend (fun i => (#[u107, u108, u109, u110, u111, u112, u113, u114, u115, u116, u117, u118, u119, u120, u121, u122, u123, u124, undef, u125, undef] : Array Value).getD i undef) rfl ?hstart
  case hstart =>
    exact ⟨Mod.drew, fun _ => hB, fun h => by omega, fun h => by omega⟩
  case hB =>
    intro k x i v W _ h
    exact h
  case hpure =>
    intro i o hi hnc ho k x W hk hB hd hbf hx K hK
    rcases (show i = 0 ∨ i = 1 ∨ i = 2 ∨ i = 3 ∨ i = 4 ∨ i = 5 ∨ i = 6 ∨ i = 7 ∨ i = 8 ∨ i = 9 ∨ i = 10 ∨ i = 11 ∨ i = 12 ∨ i = 13 ∨ i = 14 ∨ i = 15 ∨ i = 16 ∨ i = 17 ∨ i = 18 ∨ i = 19 ∨ i = 20 by omega) with rfl | rfl | rfl | rfl | rfl | rfl | rfl | rfl | rfl | rfl | rfl | rfl | rfl | rfl | rfl | rfl | rfl | rfl | rfl | rfl | rfl
    · obtain rfl := Option.some.inj ho
      clear ho hd hx hbf hB hnc hi
      simp only [upd, reduceIte, Nat.reduceEqDiff] at hK
      dsimp only
      go_simp
      exact hK _ rfl
    · obtain rfl := Option.some.inj ho
      clear ho hd hx hbf hB hnc hi
      simp only [upd, reduceIte, Nat.reduceEqDiff] at hK
      dsimp only
      go_simp
      exact hK _ rfl
    · obtain rfl := Option.some.inj ho
      clear ho hd hx hbf hB hnc hi
      simp only [upd, reduceIte, Nat.reduceEqDiff] at hK
      dsimp only
      go_simp
      exact hK _ rfl
    · obtain rfl := Option.some.inj ho
      have e2 : x 2 = .slice (some ⟨b3, o3, none⟩) m c3 := hd 2 (by kernel_rfl) (by kernel_rfl)
      clear ho hd hx hbf hB hnc hi
      simp only [upd, reduceIte, Nat.reduceEqDiff, e2] at hK
      dsimp only
      go_simp
      exact hK _ rfl
    · obtain rfl := Option.some.inj ho
      have e1 : x 1 = .int .i64 (kn : Nat) := hd 1 (by kernel_rfl) (by kernel_rfl)
      have e3 : x 3 = .int .i64 (m : Nat) := hd 3 (by kernel_rfl) (by kernel_rfl)
      clear ho hd hx hbf hB hnc hi
      simp only [upd, reduceIte, Nat.reduceEqDiff, e1, e3] at hK
      dsimp only
      go_simp
      exact hK _ rfl
    · obtain rfl := Option.some.inj ho
      have e0 : x 0 = .slice (some ⟨b3, o3, none⟩) m c3 := hd 0 (by kernel_rfl) (by kernel_rfl)
      have e4 : x 4 = .int .i64 (i1 : Nat) := hd 4 (by kernel_rfl) (by kernel_rfl)
      clear ho hd hx hbf hB hnc hi
      simp only [upd, reduceIte, Nat.reduceEqDiff, e0, e4] at hK
      dsimp only
      go_simp
      exact hK _ rfl
    · obtain rfl := Option.some.inj ho
      have e5 : x 5 = .pointer (some ⟨b3, o3 + i1, none⟩) := hd 5 (by kernel_rfl) (by kernel_rfl)
      have hk2 : k < 2 := by
        rcases Nat.lt_or_ge k 2 with h | h
        · exact h
        · exact absurd (show false = true from (hx 1 (by omega)).symm.trans (by kernel_rfl)) (by simp)
      have c1 := hB.1.cell C1.out hne
      have c2 := hB.1.cell C2.out hne
      clear ho hd hx hbf hB hnc hi
      simp only [upd, reduceIte, Nat.reduceEqDiff, e5] at hK
      dsimp only
      go_simp
      exact hK _ rfl
    · obtain rfl := Option.some.inj ho
      have e6 : x 6 = .int .u16 (x1 : Nat) := hd 6 (by kernel_rfl) (by kernel_rfl)
      clear ho hd hx hbf hB hnc hi
      simp only [upd, reduceIte, Nat.reduceEqDiff, e6] at hK
      dsimp only
      go_simp
      exact hK _ rfl
    · obtain rfl := Option.some.inj ho
      clear ho hd hx hbf hB hnc hi
      simp only [upd, reduceIte, Nat.reduceEqDiff] at hK
      dsimp only
      go_simp
      exact hK _ rfl
    · obtain rfl := Option.some.inj ho
      clear ho hd hx hbf hB hnc hi
      simp only [upd, reduceIte, Nat.reduceEqDiff] at hK
      dsimp only
      go_simp
      exact hK _ rfl
    · obtain rfl := Option.some.inj ho
      have e9 : x 9 = .int .i64 (kn : Nat) := hd 9 (by kernel_rfl) (by kernel_rfl)
      clear ho hd hx hbf hB hnc hi
      simp only [upd, reduceIte, Nat.reduceEqDiff, e9] at hK
      dsimp only
      go_simp
      exact hK _ rfl
    · obtain rfl := Option.some.inj ho
      clear ho hd hx hbf hB hnc hi
      simp only [upd, reduceIte, Nat.reduceEqDiff] at hK
      dsimp only
      go_simp
      exact hK _ rfl
    · obtain rfl := Option.some.inj ho
      have e11 : x 11 = .slice (some ⟨b3, o3, none⟩) m c3 := hd 11 (by kernel_rfl) (by kernel_rfl)
      clear ho hd hx hbf hB hnc hi
      simp only [upd, reduceIte, Nat.reduceEqDiff, e11] at hK
      dsimp only
      go_simp
      exact hK _ rfl
    · obtain rfl := Option.some.inj ho
      have e10 : x 10 = .int .i64 ((kn : Int) + 1) := hd 10 (by kernel_rfl) (by kernel_rfl)
      have e12 : x 12 = .int .i64 (m : Nat) := hd 12 (by kernel_rfl) (by kernel_rfl)
      clear ho hd hx hbf hB hnc hi
      simp only [upd, reduceIte, Nat.reduceEqDiff, e10, e12] at hK
      dsimp only
      go_simp
      exact hK _ rfl
    · obtain rfl := Option.some.inj ho
      have e8 : x 8 = .slice (some ⟨b3, o3, none⟩) m c3 := hd 8 (by kernel_rfl) (by kernel_rfl)
      have e13 : x 13 = .int .i64 (i2 : Nat) := hd 13 (by kernel_rfl) (by kernel_rfl)
      clear ho hd hx hbf hB hnc hi
      simp only [upd, reduceIte, Nat.reduceEqDiff, e8, e13] at hK
      dsimp only
      go_simp
      exact hK _ rfl
    · obtain rfl := Option.some.inj ho
      have e14 : x 14 = .pointer (some ⟨b3, o3 + i2, none⟩) := hd 14 (by kernel_rfl) (by kernel_rfl)
      have hk2 : k < 2 := by
        rcases Nat.lt_or_ge k 2 with h | h
        · exact h
        · exact absurd (show false = true from (hx 1 (by omega)).symm.trans (by kernel_rfl)) (by simp)
      have c1 := hB.1.cell C1.out hne
      have c2 := hB.1.cell C2.out hne
      clear ho hd hx hbf hB hnc hi
      simp only [upd, reduceIte, Nat.reduceEqDiff, e14] at hK
      dsimp only
      go_simp
      exact hK _ rfl
    · obtain rfl := Option.some.inj ho
      have e15 : x 15 = .int .u16 (x2 : Nat) := hd 15 (by kernel_rfl) (by kernel_rfl)
      clear ho hd hx hbf hB hnc hi
      simp only [upd, reduceIte, Nat.reduceEqDiff, e15] at hK
      dsimp only
      go_simp
      exact hK _ rfl
    · obtain rfl := Option.some.inj ho
      clear ho hd hx hbf hB hnc hi
      simp only [upd, reduceIte, Nat.reduceEqDiff] at hK
      dsimp only
      go_simp
      exact hK _ rfl
    · exact absurd (show true = false from hnc) (by simp)
    · obtain rfl := Option.some.inj ho
      clear ho hd hx hbf hB hnc hi
      simp only [upd, reduceIte, Nat.reduceEqDiff] at hK
      dsimp only
      go_simp
      exact hK _ rfl
    · exact absurd (show true = false from hnc) (by simp)
  case hchain =>
    intro k o hk ho x W hB hd K hK
    rcases (show k = 0 ∨ k = 1 by omega) with rfl | rfl
    · obtain rfl := Option.some.inj ho
      have e7 : x 7 = .int .u64 (x1 : Nat) := hd 7 (by kernel_rfl) (by kernel_rfl)
      have e17 : x 17 = .pointer (some ⟨B, 0, none⟩) := hd 17 (by kernel_rfl) (by kernel_rfl)
      clear ho hd hk
      obtain ⟨hmo, h0, _⟩ := hB
      have hs := h0 rfl
      obtain ⟨c0, _, _⟩ := hs.cell
      have f0 := hs.frz 0
      simp only [upd, reduceIte, Nat.reduceEqDiff, e7, e17] at hK
      dsimp only
      go_simp
      exact hK undef _ ⟨hmo.trans (Mod.setCell _ rfl), fun h => by omega, fun _ => hs.set0 _, fun h => by omega⟩
    · obtain rfl := Option.some.inj ho
      have e16 : x 16 = .int .u64 (x2 : Nat) := hd 16 (by kernel_rfl) (by kernel_rfl)
      have e19 : x 19 = .pointer (some ⟨B, 2, none⟩) := hd 19 (by kernel_rfl) (by kernel_rfl)
      clear ho hd hk
      obtain ⟨hmo, _, h1, _⟩ := hB
      have hs := h1 rfl
      obtain ⟨_, _, c2⟩ := hs.cell
      have f2 := hs.frz 2
      simp only [upd, reduceIte, Nat.reduceEqDiff, e16, e19] at hK
      dsimp only
      go_simp
      exact hK undef _ ⟨hmo.trans (Mod.setCell _ rfl), fun h => by omega, fun h => by omega, fun _ => hs.set2 _⟩
  case hend =>
    intro x W hB hd
    exact HQ.out _ _ _ _ _ _ _ _ _ _ _ _ _ _ _ _ _ _ _ W hB.1 (hB.2.2.2 rfl)
end Go.Proofs.Ytenngfkgfdogjaa
