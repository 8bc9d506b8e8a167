/- Plain model of chapter 21: states, keys, queues | Contracts of package entity: in, Shaped, check | Contract of entity.Shaped | Contract of entity.Shaped: its first tests; and check | Contracts of entity: Shaped, check; compare, Less. -/
import Derived.Test.YtenngfkgfdogjaaZ2
import Derived.Test.YtenngfkgfdogjaaZ1
import Derived.Deep.CutBlock
set_option linter.unusedVariables false
set_option linter.unusedSimpArgs false
set_option linter.unusedSectionVars false
namespace Go.Proofs.Ytenngfkgfdogjaa
open Go.RowKit Go.Shelf

structure Tk where
  id : Int
  g : Int
  wt : Int
  cpu : Int
  mask : Int
  rdy : Bool
  v : Int
  r : Int
def encT (t : Tk) : List Value := [.int .i64 t.id, .int .i64 t.g, .int .i64 t.wt, .int .i64 t.cpu, .int .u64 t.mask, .bool t.rdy, .int .u64 t.v, .int .u32 t.r]
theorem encT_len (t : Tk) : (encT t).length = 8 := rfl
theorem encT_one (t : Tk) : ∀ u ∈ encT t, u.oneCell' = true := by intro u hu; simp [encT] at hu; rcases hu with rfl | rfl | rfl | rfl | rfl | rfl | rfl | rfl <;> rfl
structure Sp where
  v : Int
  r : Int
  fl : Int
def encS (s : Sp) : List Value := [.int .u64 s.v, .int .u32 s.r, .int .u64 s.fl]
theorem encS_len (s : Sp) : (encS s).length = 3 := rfl
theorem encS_one (s : Sp) : ∀ u ∈ encS s, u.oneCell' = true := by intro u hu; simp [encS] at hu; rcases hu with rfl | rfl | rfl <;> rfl
structure Ky where
  v : Int
  sp : Bool
  id : Int
instance : Inhabited Ky := ⟨⟨0, false, 0⟩⟩
instance : DecidableEq Ky := fun a b => decidable_of_iff (a.v = b.v ∧ a.sp = b.sp ∧ a.id = b.id) (by cases a; cases b; simp)
def encY (k : Ky) : List Value := [.int .u64 k.v, .bool k.sp, .int .i64 k.id]
theorem encY_len (k : Ky) : (encY k).length = 3 := rfl
theorem encY_one (k : Ky) : ∀ u ∈ encY k, u.oneCell' = true := by intro u hu; simp [encY] at hu; rcases hu with rfl | rfl | rfl <;> rfl
def encB1 (b : Bool) : List Value := [.bool b]
theorem encB1_len (b : Bool) : (encB1 b).length = 1 := rfl
def encR (x : Value × List Sp) : List Value := [x.1]
theorem encR_len (x : Value × List Sp) : (encR x).length = 1 := rfl

/-- The slice value v reads as rows of spots. -/
def RowsS (w : World) (v : Value) (xs : List (Value × List Sp)) : Prop := EV encR 1 w v xs ∧ ∀ x ∈ xs, EV encS 3 w x.1 x.2
theorem RowsS.below {w w' : World} {v : Value} {xs : List (Value × List Sp)} (h : RowsS w v xs) (hb : Below w.heap.size w w') : RowsS w' v xs :=
  ⟨h.1.below hb, fun x hx => (h.2 x hx).below hb⟩

structure St where
  n : Int
  cr : Int
  gs : List (Int × Int)
  cl : List Int
  cu : List Int
  ts : List Tk
  ss : List (Value × List Sp)

/-- The seven cells of a state. -/
structure StC where
  vg : Value
  vc : Value
  vu : Value
  vt : Value
  vs : Value
def StC.cells (c : StC) (s : St) : Array Value := #[.int .i64 s.n, .int .u64 s.cr, c.vg, c.vc, c.vu, c.vt, c.vs]
def StC.val (c : StC) (s : St) : Value := .agg (c.cells s)
structure StAt (w : World) (c : StC) (s : St) : Prop where
  eg : EV encG 2 w c.vg s.gs
  ec : EV encI 1 w c.vc s.cl
  eu : EV encI 1 w c.vu s.cu
  et : EV encT 8 w c.vt s.ts
  es : RowsS w c.vs s.ss
theorem StAt.below {w w' : World} {c : StC} {s : St} (h : StAt w c s) (hb : Below w.heap.size w w') : StAt w' c s :=
  ⟨h.eg.below hb, h.ec.below hb, h.eu.below hb, h.et.below hb, h.es.below hb⟩

/-! ### shaped -/
def inB (n lo hi : Int) : Bool := decide (lo ≤ n) && decide (n ≤ hi)
theorem inB_iff {n lo hi : Int} : inB n lo hi = true ↔ lo ≤ n ∧ n ≤ hi := by simp [inB]
def tkOk (n : Int) (G : Nat) (last : Int) (t : Tk) : Bool := inB t.id (last + 1) 65535 && inB t.g 0 ((G : Int) - 1) && inB t.wt 1 65536 && inB t.cpu 0 (n - 1)
def tksOk (n : Int) (G : Nat) : Int → List Tk → Bool
  | _, [] => true
  | last, t :: r => tkOk n G last t && tksOk n G t.id r
def shapedB (s : St) : Bool :=
  inB s.n 1 64 && rightB s.gs && decide ((s.cl.length : Int) = s.n) && decide ((s.cu.length : Int) = s.n) && decide (s.ss.length = s.gs.length) && s.ss.all (fun x => decide ((x.2.length : Int) = s.n)) && tksOk s.n s.gs.length 0 s.ts
/-- What is known of a shaped state. -/
structure Shp (s : St) : Prop where
  n1 : 1 ≤ s.n
  n2 : s.n ≤ 64
  right : rightB s.gs = true
  cl : (s.cl.length : Int) = s.n
  cu : (s.cu.length : Int) = s.n
  ss : s.ss.length = s.gs.length
  row : ∀ x ∈ s.ss, (x.2.length : Int) = s.n
  tks : tksOk s.n s.gs.length 0 s.ts = true
theorem shp_iff {s : St} : shapedB s = true ↔ Shp s := by
  unfold shapedB
  simp only [Bool.and_eq_true, decide_eq_true_eq, List.all_eq_true, inB_iff]
  exact ⟨fun ⟨⟨⟨⟨⟨⟨⟨a, b⟩, c⟩, d⟩, e⟩, f⟩, g⟩, h⟩ => ⟨a, b, c, d, e, f, g, h⟩, fun ⟨a, b, c, d, e, f, g, h⟩ => ⟨⟨⟨⟨⟨⟨⟨a, b⟩, c⟩, d⟩, e⟩, f⟩, g⟩, h⟩⟩
theorem tkOk_iff {n : Int} {G : Nat} {last : Int} {t : Tk} : tkOk n G last t = true ↔ (last + 1 ≤ t.id ∧ t.id ≤ 65535) ∧ (0 ≤ t.g ∧ t.g ≤ (G : Int) - 1) ∧ (1 ≤ t.wt ∧ t.wt ≤ 65536) ∧ 0 ≤ t.cpu ∧ t.cpu ≤ n - 1 := by
  unfold tkOk
  simp only [Bool.and_eq_true, inB_iff, and_assoc]
theorem tks_each {n : Int} {G : Nat} : ∀ {last : Int} {ts : List Tk}, tksOk n G last ts = true → ∀ t ∈ ts, last < t.id ∧ t.id ≤ 65535 ∧ 0 ≤ t.g ∧ t.g < G ∧ 1 ≤ t.wt ∧ t.wt ≤ 65536 ∧ 0 ≤ t.cpu ∧ t.cpu < n
  | _, [], _, t, ht => by simp at ht
  | last, x :: r, h, t, ht => by
    unfold tksOk at h
    rw [Bool.and_eq_true, tkOk_iff] at h
    rcases List.mem_cons.1 ht with rfl | ht
    · omega
    · have := tks_each h.2 t ht; omega
theorem tks_pw {n : Int} {G : Nat} : ∀ {last : Int} {ts : List Tk}, tksOk n G last ts = true → ts.Pairwise (fun a b => a.id < b.id)
  | _, [], _ => List.Pairwise.nil
  | last, x :: r, h => by
    unfold tksOk at h
    rw [Bool.and_eq_true] at h
    exact List.pairwise_cons.2 ⟨fun t ht => (tks_each h.2 t ht).1, tks_pw h.2⟩
theorem tks_len {n : Int} {G : Nat} : ∀ {last : Int} {ts : List Tk}, 0 ≤ last → last ≤ 65535 → tksOk n G last ts = true → (ts.length : Int) + last ≤ 65535
  | last, [], h0, h1, _ => by simp; omega
  | last, x :: r, h0, h1, h => by
    unfold tksOk at h
    rw [Bool.and_eq_true, tkOk_iff] at h
    have := tks_len (last := x.id) (by omega) (by omega) h.2
    rw [List.length_cons]; omega
theorem Shp.len {s : St} (h : Shp s) : s.ts.length ≤ 65535 := by have := tks_len (by omega) (by omega) h.tks; omega
/-- The error of a state, a group and a CPU. -/
def chkE (s : St) (g cpu : Int) : Int := if shapedB s = false then 210 else if inB g 0 ((s.gs.length : Int) - 1) && inB cpu 0 (s.n - 1) then 0 else 2
theorem chk_zero {s : St} {g cpu : Int} : chkE s g cpu = 0 ↔ Shp s ∧ (0 ≤ g ∧ g < s.gs.length) ∧ 0 ≤ cpu ∧ cpu < s.n := by
  unfold chkE
  cases hs : shapedB s with
  | false => simp; intro h; rw [shp_iff.2 h] at hs; cases hs
  | true =>
    rw [if_neg (by simp)]
    have h1 := shp_iff.1 hs
    cases hi : inB g 0 ((s.gs.length : Int) - 1) && inB cpu 0 (s.n - 1) with
    | true =>
      rw [Bool.and_eq_true, inB_iff, inB_iff] at hi
      simp only [if_true, true_iff]
      exact ⟨h1, by omega, by omega⟩
    | false =>
      simp only [Bool.false_eq_true, if_false]
      constructor
      · intro h; cases h
      · rintro ⟨_, h2, h3⟩
        have : (inB g 0 ((s.gs.length : Int) - 1) && inB cpu 0 (s.n - 1)) = true := by rw [Bool.and_eq_true, inB_iff, inB_iff]; omega
        rw [this] at hi; cases hi

/-! ### keys -/
def keyLt (a b : Ky) : Bool := decide (a.v < b.v) || decide (a.v = b.v) && (!a.sp && b.sp || (a.sp == b.sp) && decide (a.id < b.id))
def cmpI (a b : Int) : Int := if a < b then -1 else if b < a then 1 else 0
def kindI (b : Bool) : Int := if b then 1 else 0
def cmpK (a b : Ky) : Int := if cmpI a.v b.v ≠ 0 then cmpI a.v b.v else if kindI a.sp - kindI b.sp ≠ 0 then kindI a.sp - kindI b.sp else cmpI a.id b.id
theorem cmpK_lt (a b : Ky) : decide (cmpK a b < 0) = keyLt a b := by
  obtain ⟨av, az, ai⟩ := a
  obtain ⟨bv, bz, bi⟩ := b
  unfold cmpK keyLt cmpI
  dsimp only
  by_cases h1 : av < bv
  · simp [h1]
  · by_cases h2 : bv < av
    · have : ¬ av = bv := by omega
      simp [h1, h2, this]
    · obtain rfl : av = bv := by omega
      cases az <;> cases bz <;> simp [kindI]
      all_goals
        by_cases h3 : ai < bi
        · simp [h3]
        · by_cases h4 : bi < ai <;> simp [h3, h4]
theorem keyLt_irrefl (a : Ky) : keyLt a a = false := by cases a; rename_i v s i; cases s <;> simp [keyLt]
theorem keyLt_trans {a b c : Ky} (h1 : keyLt a b = true) (h2 : keyLt b c = true) : keyLt a c = true := by
  obtain ⟨av, az, ai⟩ := a
  obtain ⟨bv, bz, bi⟩ := b
  obtain ⟨cv, cz, ci⟩ := c
  cases az <;> cases bz <;> cases cz <;> simp [keyLt] at * <;> omega
theorem keyLt_total {a b : Ky} (h : a ≠ b) : keyLt a b = true ∨ keyLt b a = true := by
  obtain ⟨av, az, ai⟩ := a
  obtain ⟨bv, bz, bi⟩ := b
  have h' : ¬ (av = bv ∧ az = bz ∧ ai = bi) := fun ⟨x, y, z⟩ => h (by rw [x, y, z])
  cases az <;> cases bz <;> simp [keyLt] at * <;> omega
theorem keyLt_asymm {a b : Ky} (h : keyLt a b = true) : keyLt b a = false := by
  cases hb : keyLt b a with
  | false => rfl
  | true => have := keyLt_trans h hb; rw [keyLt_irrefl] at this; cases this
def keyLe (a b : Ky) : Bool := !keyLt b a
def srtK (l : List Ky) : List Ky := l.mergeSort keyLe

/-! ### queues -/
def rdyB (cpu : Int) (t : Tk) : Bool := t.rdy && decide (t.cpu = cpu)
def rdyL (s : St) (cpu : Int) : List Tk := s.ts.filter (rdyB cpu)
def fillB (gs : List (Int × Int)) (l : List Tk) (g : Nat) : Bool := l.any fun t => (path gs t.g.toNat).contains g
def fillL (s : St) (cpu : Int) : List Bool := (List.range s.gs.length).map (fillB s.gs (rdyL s cpu))
def tkKey (t : Tk) : Ky := ⟨t.v, false, t.id⟩
def spotV (s : St) (g : Nat) (cpu : Int) : Sp := (((s.ss[g]?.getD (.slice none 0 0, [])).2)[cpu.toNat]?).getD ⟨0, 0, 0⟩
def spKey (s : St) (cpu : Int) (x : Nat) : Ky := ⟨(spotV s x cpu).v, true, x⟩
def isCh (s : St) (g cpu : Int) (x : Nat) : Bool := decide (0 < x) && decide (par s.gs x = g) && fillB s.gs (rdyL s cpu) x
def tksK (s : St) (g cpu : Int) : List Ky := ((rdyL s cpu).filter fun t => decide (t.g = g)).map tkKey
def grpK (s : St) (g cpu : Int) : List Ky := ((List.range s.gs.length).filter (isCh s g cpu)).map (spKey s cpu)
def memL (s : St) (g cpu : Int) : List Ky := srtK (tksK s g cpu ++ grpK s g cpu)
def walkF (s : St) (cpu : Int) : Nat → Int → List Ky
  | 0, _ => []
  | f + 1, g => match memL s g cpu with
    | [] => []
    | k :: _ => if k.sp then k :: walkF s cpu f k.id else [k]
def walkL (s : St) (cpu : Int) : List Ky := walkF s cpu (s.gs.length + 1) 0
def loadL (l : List Tk) : Int := (l.map Tk.wt).sum
def floorV (s : St) (g : Nat) (cpu : Nat) : Int := match memL s g cpu with
  | [] => (spotV s g cpu).fl
  | k :: _ => max (spotV s g cpu).fl k.v
def floorsL (s : St) : List (List Int) := (List.range s.gs.length).map fun g => (List.range s.n.toNat).map fun c => floorV s g c
def findI (s : St) (id : Int) : Option Nat := s.ts.findIdx? (fun t => t.id == id)
end Go.Proofs.Ytenngfkgfdogjaa
namespace Go.Proofs.Ytenngfkgfdogjaa
open Go Go.RowKit Go.Shelf
attribute [local go_sem] Oper.semAt_some

set_option maxHeartbeats 400000 in
theorem in_ok (n lo hi : Int) (w : World) :
    Calls Try.prog 61 #[.int .i64 n, .int .i64 lo, .int .i64 hi] w fun e w' => e = .returned (.bool (inB n lo hi)) ∧ w = w' := by
  by_cases h1 : lo ≤ n <;> by_cases h2 : n ≤ hi
  all_goals
    go_enter Try.func61, Try.ntmps61
    go_wp2
    go_ret
    exact ⟨by simp [inB, h1, h2], rfl⟩

/-- The boxed state. -/
def StBox (w : World) (B : Nat) (c : StC) (s : St) : Prop := w.heap[B]? = some (.cells (c.cells s) 38 (0, 0))
theorem StBox.new (w : World) (c : StC) (s : St) : StBox (w.alloc (.cells (c.cells s) 38)) w.heap.size c s := heap_alloc_new w _
theorem StBox.lt {w : World} {B : Nat} {c : StC} {s : St} (h : StBox w B c s) : B < w.heap.size := (Array.getElem?_eq_some_iff.1 h).1
theorem StBox.below {w w' : World} {B : Nat} {c : StC} {s : St} (h : StBox w B c s) (hb : Below w.heap.size w w') : StBox w' B c s := (hb.block B h.lt).trans h
theorem StBox.cell {w : World} {B : Nat} {c : StC} {s : St} (h : StBox w B c s) :
    w.cell? ⟨B, 0, none⟩ = some (.int .i64 s.n) ∧ w.cell? ⟨B, 1, none⟩ = some (.int .u64 s.cr) ∧ w.cell? ⟨B, 2, none⟩ = some c.vg ∧ w.cell? ⟨B, 3, none⟩ = some c.vc ∧ w.cell? ⟨B, 4, none⟩ = some c.vu ∧ w.cell? ⟨B, 5, none⟩ = some c.vt ∧ w.cell? ⟨B, 6, none⟩ = some c.vs := by
  have hc := fun i => cell_of_row w B i (c.cells s) 38 (0, 0) h
  refine ⟨(hc 0).trans rfl, (hc 1).trans rfl, (hc 2).trans rfl, (hc 3).trans rfl, (hc 4).trans rfl, (hc 5).trans rfl, (hc 6).trans rfl⟩

set_option maxHeartbeats 400000 in
theorem shaped1_ok (w : World) (A : Option Addr) (n c B : Nat) (m : Int) (hc : w.cell? ⟨B, 0, none⟩ = some (.int .i64 m)) :
    Calls Try.prog 64 #[.slice A n c, .pointer (some ⟨B, 0, none⟩)] w fun e w' => e = .returned (.bool (!decide ((n : Int) = m))) ∧ w = w' := by
  by_cases h : (n : Int) = m
  all_goals
    go_enter Try.func64, Try.ntmps64
    go_wp2
    go_ret
    exact ⟨by simp [h], rfl⟩
set_option maxHeartbeats 800000 in
theorem spots_any (w : World) (v : Value) (xs : List (Value × List Sp)) (B : Nat) (m : Int) (h : RowsS w v xs) (hc : w.cell? ⟨B, 0, none⟩ = some (.int .i64 m)) (hlen : xs.length ≤ 100000) :
    Calls Try.prog 63 #[v, .func (.func 64) #[] #[.pointer (some ⟨B, 0, none⟩)]] w fun e w' => e = .returned (.bool (xs.any fun x => !decide ((x.2.length : Int) = m))) ∧ w = w' := by
  have eg : ∀ args w, (callFunc 64 args).run Try.prog w = .ok (.enter 64 args) w := enters_of Try.func64 (by kernel_rfl) rfl
  have idx : Calls Try.prog 94 #[v, .func (.func 64) #[] #[.pointer (some ⟨B, 0, none⟩)]] w fun e w' => (∃ i : Int, e = .returned (.int .i64 i) ∧ (decide (0 ≤ i) = xs.any fun x => !decide ((x.2.length : Int) = m)) ∧ i ≤ 100000) ∧ w = w' := by
    obtain ⟨A, c, rfl⟩ := h.1.shape
    have H := Lib.hid h
    have HC := Lib.hid hc
    clear h hc
    obtain ⟨L, hL⟩ : ∃ L, xs.length = L := ⟨_, rfl⟩
    have HL := Lib.hid hL
    rw [hL] at hlen H ⊢
    clear hL
    go_enter Try.func94, Try.ntmps94
    go_wp2
    go_loopg [8] L (fun k i wr => ∃ j : Nat, j + k = L ∧ i = .int .i64 j ∧ w = wr ∧ ((xs.take j).any fun x => !decide ((x.2.length : Int) = m)) = false)
    case atStart => exact ⟨0, by omega, rfl, rfl, by simp⟩
    case round =>
      obtain ⟨j, hj, rfl, rfl, ht⟩ := hrel
      have HT := Lib.hid ht
      have HJ := Lib.hid hj
      clear ht hj
      by_cases hlt : j < L
      · have hd : decide ((j : Int) < (L : Int)) = true := by rw [decide_eq_true_eq]; omega
        obtain ⟨x, hx⟩ : ∃ x, xs[j]? = some x := ⟨_, List.getElem?_eq_getElem (by rw [HL.out]; omega)⟩
        obtain ⟨b, off, c', hv, _, hr⟩ := H.out.1.row (by rw [HL.out]; omega)
        simp only [Value.slice.injEq] at hv
        obtain ⟨rfl, hz, rfl⟩ := hv
        clear hz
        have cj := hr j x hx 0 _ rfl
        simp only [Nat.mul_one, Nat.add_zero] at cj
        obtain ⟨Ax, cx, hsx⟩ := (H.out.2 x (List.mem_of_getElem? hx)).shape
        rw [hsx] at cj
        have CL := Lib.hid (shaped1_ok w Ax x.2.length cx B m HC.out)
        have TK := Lib.hid (show (xs.take (j + 1)) = xs.take j ++ [x] by rw [List.take_add_one, hx, Option.toList_some])
        have XM := Lib.hid (List.mem_of_getElem? hx)
        clear hr hx hsx
        go_wp2_with fail
        refine CL.out.mono ?_
        rintro e w' ⟨rfl, rfl⟩
        by_cases he : (x.2.length : Int) = m
        · have hb : decide ((x.2.length : Int) = m) = true := by simp [he]
          rw [hb]
          have HE := Lib.hid he
          clear he hb
          go_wp2_with fail
          go_roundg (gk - 1)
          case measure => have := HJ.out; omega
          case rel => exact ⟨j + 1, by have := HJ.out; omega, by go_num, rfl, by rw [TK.out, List.any_append, HT.out]; simp [HE.out]⟩
        · have hb : decide ((x.2.length : Int) = m) = false := by simp [he]
          rw [hb]
          have HE := Lib.hid he
          clear he hb
          go_wp2_with fail
          go_ret
          refine ⟨⟨(j : Int), rfl, ?_, by omega⟩, rfl⟩
          rw [show decide (0 ≤ (j : Int)) = true by simp]
          exact (List.any_eq_true.2 ⟨x, XM.out, by simp [HE.out]⟩).symm
      · have hd : decide ((j : Int) < (L : Int)) = false := by rw [decide_eq_false_iff_not]; omega
        go_wp2_with fail
        go_ret
        refine ⟨⟨-1, rfl, ?_, by omega⟩, rfl⟩
        have := HT.out
        rw [List.take_of_length_le (by rw [HL.out]; omega)] at this
        rw [this]; rfl
  have ID := Lib.hid idx
  clear idx h hc
  go_enter Try.func63, Try.ntmps63
  go_wp2_with fail
  refine ID.out.mono ?_
  rintro e w' ⟨⟨i, rfl, hi, _⟩, rfl⟩
  have HI := Lib.hid hi
  clear hi ID
  go_wp2
  go_ret
  exact ⟨ret_bool HI.out, rfl⟩
end Go.Proofs.Ytenngfkgfdogjaa
namespace Go.Proofs.Ytenngfkgfdogjaa
open Go Go.RowKit Go.Shelf
attribute [local go_sem] Oper.semAt_some

theorem bel_alloc (w : World) (o : Obj) : Below w.heap.size w (w.alloc o) := (Below.refl _ _).alloc (Nat.le_refl _) _
theorem EV.newL {α : Type} {enc : α → List Value} {k : Nat} {e : TypeId} {w : World} {xs : List α} {c n : Nat} {cs : Array Value} (hk : ∀ x, (enc x).length = k) (hcs : cs.toList = xs.flatMap enc) (hn : xs.length = n) (hc : n ≤ c) :
    EV enc k (w.alloc (.cells cs e)) (.slice (some ⟨w.heap.size, 0, none⟩) n c) xs := by
  subst hn
  refine EV.mk (fun i y hy j u hu => ?_) hc
  have := cell_of_row (w.alloc (.cells cs e)) w.heap.size (i * k + j) cs e (0, 0) (heap_alloc_new w _)
  rw [Nat.zero_add, this]
  have := flat_get hk xs i y hy j u hu
  rw [← hcs] at this
  simpa using this
theorem ER.tk {w : World} {b off : Nat} {ts : List Tk} (h : ER encT 8 w b off ts) {i : Nat} {t : Tk} (hi : ts[i]? = some t) :
    w.cell? ⟨b, off + i * 8, none⟩ = some (.int .i64 t.id) ∧ w.cell? ⟨b, off + i * 8 + 1, none⟩ = some (.int .i64 t.g) ∧ w.cell? ⟨b, off + i * 8 + 2, none⟩ = some (.int .i64 t.wt) ∧ w.cell? ⟨b, off + i * 8 + 3, none⟩ = some (.int .i64 t.cpu) ∧
    w.cell? ⟨b, off + i * 8 + 4, none⟩ = some (.int .u64 t.mask) ∧ w.cell? ⟨b, off + i * 8 + 5, none⟩ = some (.bool t.rdy) ∧ w.cell? ⟨b, off + i * 8 + 6, none⟩ = some (.int .u64 t.v) ∧ w.cell? ⟨b, off + i * 8 + 7, none⟩ = some (.int .u32 t.r) :=
  ⟨h i t hi 0 _ rfl, h i t hi 1 _ rfl, h i t hi 2 _ rfl, h i t hi 3 _ rfl, h i t hi 4 _ rfl, h i t hi 5 _ rfl, h i t hi 6 _ rfl, h i t hi 7 _ rfl⟩
theorem tks_drop {n : Int} {G : Nat} {last : Int} {ts : List Tk} {j : Nat} {t : Tk} (h : ts[j]? = some t) : tksOk n G last (ts.drop j) = (tkOk n G last t && tksOk n G t.id (ts.drop (j + 1))) := by
  rw [List.drop_eq_getElem_cons (List.getElem?_eq_some_iff.1 h).1, (List.getElem?_eq_some_iff.1 h).2]; rfl
set_option maxRecDepth 100000 in
set_option maxHeartbeats 1600000 in
theorem shaped_t6 (w wc : World) (B N : Nat) (c : StC) (s : St) {u0 u2 u4 u5 u6 u7 u8 u9 u10 u11 u12 u13 u14 u15 u16 u17 u18 u19 u20 u21 u22 u23 u24 u25 u26 u27 u28 u29 u30 u31 u32 u33 u34 u35 u36 u37 u38 u39 u40 u41 u42 u43 u44 u45 u46 u47 u48 u49 u50 u51 u52 u53 u54 u55 u56 u57 u58 u59 u60 u61 u62 u63 u64 u65 u66 u67 u68 u69 u70 u71 u72 u73 u74 u75 u76 u77 u78 u79 u80 u81 u82 u83 u84 u85 u86 u87 u88 : Value} (h : StAt wc c s) (hB : StBox wc B c s) (hN : Boxed wc N 3 (.int .i64 s.n)) (hb : Below w.heap.size w wc) (n1 : 1 ≤ s.n) (n2 : s.n ≤ 64) (hg : s.gs.length ≤ 256) (ht : s.ts.length ≤ 1000000)
    (hE : shapedB s = tksOk s.n s.gs.length 0 s.ts) :
    Code.wp Try.prog (tailR Try.f31 6) (bodyPost Try.prog Try.f31 fun e w' => e = .returned (.bool (shapedB s)) ∧ Below w.heap.size w w')
      ⟨#[u0, .pointer (some ⟨B, 0, none⟩), u2, .pointer (some ⟨N, 0, none⟩), u4, u5, u6, u7, u8, u9, u10, u11, u12, u13, u14, u15, u16, u17, u18, u19, u20, u21, u22, u23, u24, u25, u26, u27, u28, u29, u30, u31, u32, u33, u34, u35, u36, u37, u38, u39, u40, u41, u42, u43, u44, u45, u46, u47, u48, u49, u50, u51, u52, u53, u54, u55, u56, u57, u58, u59, u60, u61, u62, u63, u64, u65, u66, u67, u68, u69, u70, u71, u72, u73, u74, u75, u76, u77, u78, u79, u80, u81, u82, u83, u84, u85, u86, u87, u88], []⟩ wc := by
  conv => arg 2; whnf
  conv => arg 4; dsimp only
  obtain ⟨b0, b1, b2, b3, b4, b5, b6⟩ := hB.cell
  obtain ⟨At, ct, hvt⟩ := h.et.shape
  obtain ⟨Ag, cg, hvg⟩ := h.eg.shape
  rw [hvt] at b5
  rw [hvg] at b2
  have HT := Lib.hid (show EV encT 8 wc (.slice At s.ts.length ct) s.ts by rw [← hvt]; exact h.et)
  have HBX := Lib.hid hB
  have HNX := Lib.hid hN
  have HB := Lib.hid hb
  have HE := Lib.hid hE
  have sc := hb.size
  have hvg' := Lib.hid hvg
  clear h hB hN hb hE hvt hvg b0 b1 b3 b4 b6
  obtain ⟨L, hL⟩ : ∃ L, s.ts.length = L := ⟨_, rfl⟩
  have HL := Lib.hid hL
  rw [hL] at ht HT b5
  clear hL
  go_wp2_with fail
  go_loopg [4, 51] L (fun k la i wr => ∃ (j : Nat) (lv : Int), j + k = L ∧ i = .int .i64 j ∧ la = .int .i64 lv ∧ 0 ≤ lv ∧ lv ≤ 65535 ∧ shapedB s = tksOk s.n s.gs.length lv (s.ts.drop j) ∧ Below wc.heap.size wc wr)
  case atStart => exact ⟨0, 0, by omega, rfl, rfl, by decide, by decide, HE.out, Below.refl _ _⟩
  case round =>
    obtain ⟨j, lv, hj, rfl, rfl, hl0, hl1, he, hb⟩ := hrel
    have HJ := Lib.hid hj
    have HER := Lib.hid he
    have HBR := Lib.hid hb
    have sr := hb.size
    clear hj he hb HE
    have bx := (HBX.out.below HBR.out).cell
    have nx := (HNX.out.below HBR.out).cell
    by_cases hlt : j < L
    · have hd : decide ((j : Int) < (L : Int)) = true := by rw [decide_eq_true_eq]; omega
      obtain ⟨t, ht⟩ : ∃ t, s.ts[j]? = some t := ⟨_, List.getElem?_eq_getElem (by rw [HL.out]; omega)⟩
      obtain ⟨b, off, c', hv, _, hr⟩ := (HT.out.below HBR.out).row (by rw [HL.out]; omega)
      simp only [Value.slice.injEq] at hv
      obtain ⟨rfl, hz, rfl⟩ := hv
      clear hz
      obtain ⟨c0, c1, c2, c3, c4, c5, c6, c7⟩ := hr.tk ht
      have HR := Lib.hid hr
      clear hr
      go_upto_region 10 with fail
      obtain ⟨d0, d1, d2, d3, _⟩ := (show ER encT 8 (wr.alloc (.cells #[.int .i64 t.id, .int .i64 t.g, .int .i64 t.wt, .int .i64 t.cpu, .int .u64 t.mask, .bool t.rdy, .int .u64 t.v, .int .u32 t.r] 61)) wr.heap.size 0 [t] from ((EV.newL (xs := [t]) (n := 1) (c := 1) encT_len rfl rfl (Nat.le_refl _)).row3 (by simp))).tk (i := 0) rfl
      simp only [Nat.zero_mul, Nat.zero_add] at d0 d1 d2 d3
      have HB2 := Lib.hid (HBR.out.trans ((bel_alloc wr (.cells #[.int .i64 t.id, .int .i64 t.g, .int .i64 t.wt, .int .i64 t.cpu, .int .u64 t.mask, .bool t.rdy, .int .u64 t.v, .int .u32 t.r] 61)).mono sr))
      have e2 := ((HBX.out.below HB2.out).cell).2.2.1
      rw [hvg'.out] at e2
      have en := (HNX.out.below HB2.out).cell
      have TD := Lib.hid (tks_drop (n := s.n) (G := s.gs.length) (last := lv) ht)
      clear bx nx c0 c1 c2 c3 c4 c5 c6 c7 HR
      generalize wr.alloc (.cells #[.int .i64 t.id, .int .i64 t.g, .int .i64 t.wt, .int .i64 t.cpu, .int .u64 t.mask, .bool t.rdy, .int .u64 t.v, .int .u32 t.r] 61) = w1 at d0 d1 d2 d3 HB2 e2 en ⊢
      obtain ⟨P, hP⟩ : ∃ P, wr.heap.size = P := ⟨_, rfl⟩
      rw [hP] at d0 d1 d2 d3 ⊢
      clear hP
      have wl : IntKind.i64.wrap (lv + 1) = lv + 1 := IntWalk.i64_in _ (by omega)
      have wg : IntKind.i64.wrap ((s.gs.length : Int) - 1) = (s.gs.length : Int) - 1 := IntWalk.i64_in _ (by omega)
      have wn : IntKind.i64.wrap (s.n - 1) = s.n - 1 := IntWalk.i64_in _ (by omega)
      have fin : ∀ x : Bool, tkOk s.n s.gs.length lv t = x → shapedB s = (x && tksOk s.n s.gs.length t.id (s.ts.drop (j + 1))) := fun x hx => by rw [HER.out, TD.out, hx]
      have FIN := Lib.hid fin
      have ID := Lib.hid (fun h : tkOk s.n s.gs.length lv t = true => (tkOk_iff.1 h).1)
      clear fin ht
      cases k1 : inB t.id (lv + 1) 65535 with
      | false =>
        have X := Lib.hid (FIN.out false (by unfold tkOk; rw [k1]; rfl))
        go_wp2_with (go_at_call 61; refine (in_ok _ _ _ _).mono ?_; rintro e w' ⟨rfl, rfl⟩)
        go_ret
        exact ⟨ret_bool X.out.symm, HB.out.trans (HB2.out.mono sc)⟩
      | true =>
      cases k2 : inB t.g 0 ((s.gs.length : Int) - 1) with
      | false =>
        have X := Lib.hid (FIN.out false (by unfold tkOk; rw [k1, k2]; rfl))
        go_wp2_with (go_at_call 61; refine (in_ok _ _ _ _).mono ?_; rintro e w' ⟨rfl, rfl⟩)
        go_ret
        exact ⟨ret_bool X.out.symm, HB.out.trans (HB2.out.mono sc)⟩
      | true =>
      cases k3 : inB t.wt 1 65536 with
      | false =>
        have X := Lib.hid (FIN.out false (by unfold tkOk; rw [k1, k2, k3]; rfl))
        go_wp2_with (go_at_call 61; refine (in_ok _ _ _ _).mono ?_; rintro e w' ⟨rfl, rfl⟩)
        go_ret
        exact ⟨ret_bool X.out.symm, HB.out.trans (HB2.out.mono sc)⟩
      | true =>
      cases k4 : inB t.cpu 0 (s.n - 1) with
      | false =>
        have X := Lib.hid (FIN.out false (by unfold tkOk; rw [k1, k2, k3, k4]; rfl))
        go_wp2_with (go_at_call 61; refine (in_ok _ _ _ _).mono ?_; rintro e w' ⟨rfl, rfl⟩)
        go_ret
        exact ⟨ret_bool X.out.symm, HB.out.trans (HB2.out.mono sc)⟩
      | true =>
        have hok : tkOk s.n s.gs.length lv t = true := by unfold tkOk; rw [k1, k2, k3, k4]; rfl
        have X := Lib.hid (FIN.out true hok)
        have I := Lib.hid (ID.out hok)
        clear hok
        go_wp2_with (go_at_call 61; refine (in_ok _ _ _ _).mono ?_; rintro e w' ⟨rfl, rfl⟩)
        go_roundg (gk - 1)
        case measure => have := HJ.out; omega
        case rel => exact ⟨j + 1, t.id, by have := HJ.out; omega, by go_num, rfl, by have := I.out; omega, by have := I.out; omega, by rw [X.out]; rfl, HB2.out⟩
    · have hd : decide ((j : Int) < (L : Int)) = false := by rw [decide_eq_false_iff_not]; omega
      have X := Lib.hid (show shapedB s = true from by rw [HER.out, List.drop_eq_nil_of_le (by rw [HL.out]; omega)]; rfl)
      clear HER
      go_wp2_with fail
      go_ret
      exact ⟨ret_bool X.out.symm, HB.out.trans (HBR.out.mono sc)⟩
end Go.Proofs.Ytenngfkgfdogjaa
namespace Go.Proofs.Ytenngfkgfdogjaa
open Go Go.RowKit Go.Shelf
attribute [local go_sem] Oper.semAt_some

set_option maxRecDepth 100000 in
set_option maxHeartbeats 1600000 in
theorem shaped_t4 (w wc : World) (B N : Nat) (c : StC) (s : St) {u0 u2 u4 u5 u6 u7 u8 u9 u10 u11 u12 u13 u14 u15 u16 u17 u18 u19 u20 u21 u22 u23 u24 u25 u26 u27 u28 u29 u30 u31 u32 u33 u34 u35 u36 u37 u38 u39 u40 u41 u42 u43 u44 u45 u46 u47 u48 u49 u50 u51 u52 u53 u54 u55 u56 u57 u58 u59 u60 u61 u62 u63 u64 u65 u66 u67 u68 u69 u70 u71 u72 u73 u74 u75 u76 u77 u78 u79 u80 u81 u82 u83 u84 u85 u86 u87 u88 : Value} (h : StAt wc c s) (hB : StBox wc B c s) (hN : Boxed wc N 3 (.int .i64 s.n)) (hb : Below w.heap.size w wc) (n1 : 1 ≤ s.n) (n2 : s.n ≤ 64) (hg : s.gs.length ≤ 256) (ht : s.ts.length ≤ 1000000) (hss : s.ss.length = s.gs.length)
    (hE : shapedB s = (s.ss.all (fun x => decide ((x.2.length : Int) = s.n)) && tksOk s.n s.gs.length 0 s.ts)) :
    Code.wp Try.prog (tailR Try.f31 4) (bodyPost Try.prog Try.f31 fun e w' => e = .returned (.bool (shapedB s)) ∧ Below w.heap.size w w')
      ⟨#[u0, .pointer (some ⟨B, 0, none⟩), u2, .pointer (some ⟨N, 0, none⟩), u4, u5, u6, u7, u8, u9, u10, u11, u12, u13, u14, u15, u16, u17, u18, u19, u20, u21, u22, u23, u24, u25, u26, u27, u28, u29, u30, u31, u32, u33, u34, u35, u36, u37, u38, u39, u40, u41, u42, u43, u44, u45, u46, u47, u48, u49, u50, u51, u52, u53, u54, u55, u56, u57, u58, u59, u60, u61, u62, u63, u64, u65, u66, u67, u68, u69, u70, u71, u72, u73, u74, u75, u76, u77, u78, u79, u80, u81, u82, u83, u84, u85, u86, u87, u88], []⟩ wc := by
  conv => arg 2; whnf
  conv => arg 4; dsimp only
  have SA := spots_any wc c.vs s.ss N s.n h.es hN.cell (by omega)
  rw [← List.not_all_eq_any_not] at SA
  have SA := Lib.hid SA
  have b6 := hB.cell.2.2.2.2.2.2
  have HH := Lib.hid h
  have HBX := Lib.hid hB
  have HNX := Lib.hid hN
  have HB := Lib.hid hb
  clear h hB hN hb
  cases ha : s.ss.all (fun x => decide ((x.2.length : Int) = s.n)) with
  | false =>
    rw [ha] at SA
    have X := Lib.hid (show shapedB s = false by rw [hE, ha]; rfl)
    clear hE ha
    go_wp2_with fail
    refine SA.out.mono ?_
    rintro e w' ⟨rfl, rfl⟩
    go_wp2_with fail
    go_ret
    exact ⟨ret_bool X.out.symm, HB.out⟩
  | true =>
    rw [ha] at SA
    have X := Lib.hid (show shapedB s = tksOk s.n s.gs.length 0 s.ts by rw [hE, ha]; rfl)
    clear hE ha
    apply wp_seq_k; intro K0 hK0
    go_cut [] (fun wx => wx = wc)
    case first =>
      go_wp2_with fail
      refine SA.out.mono ?_
      rintro e w' ⟨rfl, rfl⟩
      go_wp2_with fail
      go_meet
      rfl
    case rest =>
      subst hcut
      refine hK0 _ _ (shaped_t6 w _ B N c s HH.out HBX.out HNX.out HB.out n1 n2 hg ht X.out)

set_option maxRecDepth 100000 in
set_option maxHeartbeats 1600000 in
theorem shaped_t2 (w wc : World) (B N : Nat) (c : StC) (s : St) {u0 u2 u4 u5 u6 u7 u8 u9 u10 u11 u12 u13 u14 u15 u16 u17 u18 u19 u20 u21 u22 u23 u24 u25 u26 u27 u28 u29 u30 u31 u32 u33 u34 u35 u36 u37 u38 u39 u40 u41 u42 u43 u44 u45 u46 u47 u48 u49 u50 u51 u52 u53 u54 u55 u56 u57 u58 u59 u60 u61 u62 u63 u64 u65 u66 u67 u68 u69 u70 u71 u72 u73 u74 u75 u76 u77 u78 u79 u80 u81 u82 u83 u84 u85 u86 u87 u88 : Value} (h : StAt wc c s) (hB : StBox wc B c s) (hN : Boxed wc N 3 (.int .i64 s.n)) (hb : Below w.heap.size w wc) (hg : s.gs.length ≤ 100000) (ht : s.ts.length ≤ 1000000) :
    Code.wp Try.prog (tailR Try.f31 2) (bodyPost Try.prog Try.f31 fun e w' => e = .returned (.bool (shapedB s)) ∧ Below w.heap.size w w')
      ⟨#[u0, .pointer (some ⟨B, 0, none⟩), u2, .pointer (some ⟨N, 0, none⟩), u4, u5, u6, u7, u8, u9, u10, u11, u12, u13, u14, u15, u16, u17, u18, u19, u20, u21, u22, u23, u24, u25, u26, u27, u28, u29, u30, u31, u32, u33, u34, u35, u36, u37, u38, u39, u40, u41, u42, u43, u44, u45, u46, u47, u48, u49, u50, u51, u52, u53, u54, u55, u56, u57, u58, u59, u60, u61, u62, u63, u64, u65, u66, u67, u68, u69, u70, u71, u72, u73, u74, u75, u76, u77, u78, u79, u80, u81, u82, u83, u84, u85, u86, u87, u88], []⟩ wc := by
  conv => arg 2; whnf
  conv => arg 4; dsimp only
  obtain ⟨Ag, cg, hvg⟩ := h.eg.shape
  obtain ⟨Ac, cc, hvc⟩ := h.ec.shape
  obtain ⟨Au, cu, hvu⟩ := h.eu.shape
  obtain ⟨As, cs, hvs⟩ := h.es.1.shape
  have hE : shapedB s = (inB s.n 1 64 && rightB s.gs && decide ((s.cl.length : Int) = s.n) && decide ((s.cu.length : Int) = s.n) && decide (s.ss.length = s.gs.length) && s.ss.all (fun x => decide ((x.2.length : Int) = s.n)) && tksOk s.n s.gs.length 0 s.ts) := rfl
  obtain ⟨b0, b1, b2, b3, b4, b5, b6⟩ := hB.cell
  rw [hvg] at b2
  have nx := hN.cell
  have RT := Lib.hid (right_ok wc (.slice Ag s.gs.length cg) s.gs (hvg ▸ h.eg) hg)
  have HH := Lib.hid h
  have HBX := Lib.hid hB
  have HNX := Lib.hid hN
  have HB := Lib.hid hb
  have sc := hb.size
  have HVC := Lib.hid hvc
  have HVU := Lib.hid hvu
  have HVS := Lib.hid hvs
  have HVG := Lib.hid hvg
  clear h hB hN hb hvc hvu hvs hvg b1 b3 b4 b5 b6
  cases k1 : inB s.n 1 64 with
  | false =>
    have X := Lib.hid (show shapedB s = false by rw [hE, k1]; rfl)
    clear hE
    go_wp2_with (go_at_call 61; refine (in_ok _ _ _ _).mono ?_; rintro e w' ⟨rfl, rfl⟩)
    go_ret
    exact ⟨ret_bool X.out.symm, HB.out⟩
  | true =>
  obtain ⟨n1, n2⟩ := inB_iff.1 k1
  cases k2 : rightB s.gs with
  | false =>
    have X := Lib.hid (show shapedB s = false by rw [hE, k1, k2]; rfl)
    rw [k2] at RT
    clear hE k2
    go_wp2_with (go_at_call 61; refine (in_ok _ _ _ _).mono ?_; rintro e w' ⟨rfl, rfl⟩)
    refine RT.out.mono ?_
    rintro e w2 ⟨rfl, bb⟩
    have hfin := Lib.hid (HB.out.trans (bb.mono sc))
    clear bb
    go_wp2_with fail
    go_ret
    exact ⟨ret_bool X.out.symm, hfin.out⟩
  | true =>
  have hgl := Lib.hid (right_iff.1 k2).many
  rw [k2] at RT
  by_cases k3 : (s.cl.length : Int) = s.n
  case neg =>
    have X := Lib.hid (show shapedB s = false by rw [hE, k1, k2, decide_eq_false k3]; rfl)
    clear hE k2
    go_wp2_with (go_at_call 61; refine (in_ok _ _ _ _).mono ?_; rintro e w' ⟨rfl, rfl⟩)
    refine RT.out.mono ?_
    rintro e w2 ⟨rfl, bb⟩
    obtain ⟨b0, b1, b2, b3, b4, b5, b6⟩ := (HBX.out.below bb).cell
    rw [HVG.out] at b2
    rw [HVC.out] at b3
    rw [HVU.out] at b4
    rw [HVS.out] at b6
    have nx := (HNX.out.below bb).cell
    have hfin := Lib.hid (HB.out.trans (bb.mono sc))
    have BB := Lib.hid bb
    have HH2 := Lib.hid (HH.out.below bb)
    have HBX2 := Lib.hid (HBX.out.below bb)
    have HNX2 := Lib.hid (HNX.out.below bb)
    clear bb b1 b5
    go_wp2_with fail
    go_ret
    exact ⟨ret_bool X.out.symm, hfin.out⟩
  by_cases k4 : (s.cu.length : Int) = s.n
  case neg =>
    have X := Lib.hid (show shapedB s = false by rw [hE, k1, k2, decide_eq_true k3, decide_eq_false k4]; rfl)
    clear hE k2
    go_wp2_with (go_at_call 61; refine (in_ok _ _ _ _).mono ?_; rintro e w' ⟨rfl, rfl⟩)
    refine RT.out.mono ?_
    rintro e w2 ⟨rfl, bb⟩
    obtain ⟨b0, b1, b2, b3, b4, b5, b6⟩ := (HBX.out.below bb).cell
    rw [HVG.out] at b2
    rw [HVC.out] at b3
    rw [HVU.out] at b4
    rw [HVS.out] at b6
    have nx := (HNX.out.below bb).cell
    have hfin := Lib.hid (HB.out.trans (bb.mono sc))
    have BB := Lib.hid bb
    have HH2 := Lib.hid (HH.out.below bb)
    have HBX2 := Lib.hid (HBX.out.below bb)
    have HNX2 := Lib.hid (HNX.out.below bb)
    clear bb b1 b5
    go_wp2_with fail
    go_ret
    exact ⟨ret_bool X.out.symm, hfin.out⟩
  by_cases k5 : s.ss.length = s.gs.length
  case neg =>
    have X := Lib.hid (show shapedB s = false by rw [hE, k1, k2, decide_eq_true k3, decide_eq_true k4, decide_eq_false k5]; rfl)
    clear hE k2
    go_wp2_with (go_at_call 61; refine (in_ok _ _ _ _).mono ?_; rintro e w' ⟨rfl, rfl⟩)
    refine RT.out.mono ?_
    rintro e w2 ⟨rfl, bb⟩
    obtain ⟨b0, b1, b2, b3, b4, b5, b6⟩ := (HBX.out.below bb).cell
    rw [HVG.out] at b2
    rw [HVC.out] at b3
    rw [HVU.out] at b4
    rw [HVS.out] at b6
    have nx := (HNX.out.below bb).cell
    have hfin := Lib.hid (HB.out.trans (bb.mono sc))
    have BB := Lib.hid bb
    have HH2 := Lib.hid (HH.out.below bb)
    have HBX2 := Lib.hid (HBX.out.below bb)
    have HNX2 := Lib.hid (HNX.out.below bb)
    clear bb b1 b5
    go_wp2_with fail
    go_ret
    exact ⟨ret_bool X.out.symm, hfin.out⟩
  have X := Lib.hid (show shapedB s = (s.ss.all (fun x => decide ((x.2.length : Int) = s.n)) && tksOk s.n s.gs.length 0 s.ts) by rw [hE, k1, k2, decide_eq_true k3, decide_eq_true k4, decide_eq_true k5]; rfl)
  have K5 := Lib.hid k5
  clear hE k2
  apply wp_seq_k; intro K0 hK0
  go_cut [] (fun wx => Below wc.heap.size wc wx)
  case first =>
    go_wp2_with (go_at_call 61; refine (in_ok _ _ _ _).mono ?_; rintro e w' ⟨rfl, rfl⟩)
    refine RT.out.mono ?_
    rintro e w2 ⟨rfl, bb⟩
    obtain ⟨b0, b1, b2, b3, b4, b5, b6⟩ := (HBX.out.below bb).cell
    rw [HVG.out] at b2
    rw [HVC.out] at b3
    rw [HVU.out] at b4
    rw [HVS.out] at b6
    have nx := (HNX.out.below bb).cell
    have hfin := Lib.hid (HB.out.trans (bb.mono sc))
    have BB := Lib.hid bb
    have HH2 := Lib.hid (HH.out.below bb)
    have HBX2 := Lib.hid (HBX.out.below bb)
    have HNX2 := Lib.hid (HNX.out.below bb)
    clear bb b1 b5
    go_wp2_with fail
    go_meet
    exact BB.out
  case rest =>
    refine hK0 _ _ (shaped_t4 w _ B N c s (HH.out.below hcut) (HBX.out.below hcut) (HNX.out.below hcut) (HB.out.trans (hcut.mono sc)) n1 n2 hgl.out ht K5.out X.out)
end Go.Proofs.Ytenngfkgfdogjaa
namespace Go.Proofs.Ytenngfkgfdogjaa
open Go Go.RowKit Go.Shelf
attribute [local go_sem] Oper.semAt_some

set_option maxRecDepth 100000 in
set_option maxHeartbeats 1600000 in
theorem shaped_ok (w : World) (c : StC) (s : St) (h : StAt w c s) (hg : s.gs.length ≤ 100000) (ht : s.ts.length ≤ 1000000) :
    Calls Try.prog 31 #[c.val s] w fun e w' => e = .returned (.bool (shapedB s)) ∧ Below w.heap.size w w' := by
  have H := Lib.hid h
  clear h
  unfold StC.val StC.cells
  go_enter Try.func31, Try.ntmps31
  go_upto_region 1 with fail
  go_cut [3] (fun p wx => ∃ N, p = .pointer (some ⟨N, 0, none⟩) ∧ StBox wx w.heap.size c s ∧ Boxed wx N 3 (.int .i64 s.n) ∧ Below w.heap.size w wx)
  case first =>
    have b0 := (StBox.new w c s).cell.1
    unfold StC.cells at b0
    have X := Lib.hid (show StBox ((w.alloc (.cells (c.cells s) 38)).alloc (.cells #[.int .i64 s.n] 3)) w.heap.size c s ∧ Boxed ((w.alloc (.cells (c.cells s) 38)).alloc (.cells #[.int .i64 s.n] 3)) (w.heap.size + 1) 3 (.int .i64 s.n) ∧ Below w.heap.size w ((w.alloc (.cells (c.cells s) 38)).alloc (.cells #[.int .i64 s.n] 3)) from
      ⟨(StBox.new w c s).below (bel_alloc _ _), by have := Boxed.new (w.alloc (.cells (c.cells s) 38)) 3 (.int .i64 s.n); rwa [World.size_alloc] at this, (bel_alloc _ _).trans ((bel_alloc _ _).mono (by simp))⟩)
    unfold StC.cells at X
    go_wp2_with fail
    go_meet
    exact ⟨_, rfl, X.out⟩
  case rest =>
    obtain ⟨N, rfl, h1, h2, h3⟩ := hcut
    refine (‹∀ (a : Act) (w : World), Code.wp _ _ _ a w → _› : ∀ (a : Act) (w : World), _ → _) _ _ (shaped_t2 w _ w.heap.size N c s (H.out.below h3) h1 h2 h3 hg ht)

set_option maxRecDepth 100000 in
set_option maxHeartbeats 1600000 in
theorem check_ok' (w : World) (c : StC) (s : St) (g cpu : Int) (h : StAt w c s) (hg : s.gs.length ≤ 100000) (ht : s.ts.length ≤ 1000000) (hn : -9223372036854775808 ≤ s.n) (hn2 : s.n ≤ 9223372036854775807) :
    Calls Try.prog 41 #[c.val s, .int .i64 g, .int .i64 cpu] w fun e w' => e = .returned (.int .i64 (chkE s g cpu)) ∧ Below w.heap.size w w' := by
  obtain ⟨Ag, cg, hvg⟩ := h.eg.shape
  have SH := Lib.hid (shaped_ok (w.alloc (.cells (c.cells s) 38)) c s (h.below (bel_alloc _ _)) hg ht)
  have BX := Lib.hid (StBox.new w c s)
  have b2 := (StBox.new w c s).cell
  have BA := Lib.hid (bel_alloc w (.cells (c.cells s) 38))
  have HE := Lib.hid (show chkE s g cpu = if shapedB s = false then 210 else if inB g 0 ((s.gs.length : Int) - 1) && inB cpu 0 (s.n - 1) then 0 else 2 from rfl)
  have wg : IntKind.i64.wrap ((s.gs.length : Int) - 1) = (s.gs.length : Int) - 1 := IntWalk.i64_in _ (by omega)
  have HG := Lib.hid hvg
  clear h hvg
  unfold StC.val at SH ⊢
  have CC := Lib.hid (show c.cells s = #[.int .i64 s.n, .int .u64 s.cr, c.vg, c.vc, c.vu, c.vt, c.vs] from rfl)
  rw [CC.out] at SH BX BA b2 ⊢
  obtain ⟨b0, b1, b2, b3, b4, b5, b6⟩ := b2
  go_enter Try.func41, Try.ntmps41
  go_wp2_with fail
  refine SH.out.mono ?_
  rintro e w2 ⟨rfl, bb⟩
  obtain ⟨B, hB⟩ : ∃ B, w.heap.size = B := ⟨_, rfl⟩
  have BX2 : StBox w2 w.heap.size c s := by unfold StBox; rw [CC.out]; exact (bb.block _ (by simp)).trans BX.out
  obtain ⟨d0, _, d2, _⟩ := BX2.cell
  rw [HG.out] at d2
  have hfin := Lib.hid (BA.out.trans (bb.mono (by simp)))
  rw [hB] at d0 d2 ⊢
  clear BX2 bb SH BX BA b0 b1 b2 b3 b4 b5 b6 hB
  cases hs : shapedB s with
  | false =>
    have X := Lib.hid (show chkE s g cpu = 210 by rw [HE.out, if_pos hs])
    clear HE hs
    go_wp2_with fail
    go_ret
    exact ⟨ret_int X.out.symm, hfin.out⟩
  | true =>
  have wn : IntKind.i64.wrap (s.n - 1) = s.n - 1 := IntWalk.i64_in _ (by have := (shp_iff.1 hs).n1; omega)
  cases k1 : inB g 0 ((s.gs.length : Int) - 1) with
  | false =>
    have X := Lib.hid (show chkE s g cpu = 2 by rw [HE.out, if_neg (by rw [hs]; simp), k1]; rfl)
    clear HE hs
    go_wp2_with (go_at_call 61; refine (in_ok _ _ _ _).mono ?_; rintro e w' ⟨rfl, rfl⟩)
    go_ret
    exact ⟨ret_int X.out.symm, hfin.out⟩
  | true =>
  cases k2 : inB cpu 0 (s.n - 1) with
  | false =>
    have X := Lib.hid (show chkE s g cpu = 2 by rw [HE.out, if_neg (by rw [hs]; simp), k1, k2]; rfl)
    clear HE hs
    go_wp2_with (go_at_call 61; refine (in_ok _ _ _ _).mono ?_; rintro e w' ⟨rfl, rfl⟩)
    go_ret
    exact ⟨ret_int X.out.symm, hfin.out⟩
  | true =>
    have X := Lib.hid (show chkE s g cpu = 0 by rw [HE.out, if_neg (by rw [hs]; simp), k1, k2]; rfl)
    clear HE hs
    go_wp2_with (go_at_call 61; refine (in_ok _ _ _ _).mono ?_; rintro e w' ⟨rfl, rfl⟩)
    go_ret
    exact ⟨ret_int X.out.symm, hfin.out⟩
end Go.Proofs.Ytenngfkgfdogjaa
