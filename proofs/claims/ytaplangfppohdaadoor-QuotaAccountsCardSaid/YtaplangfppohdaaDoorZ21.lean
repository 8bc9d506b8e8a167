/- The traces that the laws of quotas make; plain | How the arguments of the laws of quotas read: small events, rules, events, and pairs of numbers | QuotaTells: the law. -/
import Derived.Test.YtaplangfppohdaaDoorZ14
import Derived.Test.YtaplangfppohdaaDoorZ15
import Derived.Test.YtaplangfppohdaaDoorZ20
import Derived.Test.YtaplangfppohdaaDoorZ16
set_option linter.unusedVariables false
set_option linter.unusedSimpArgs false
set_option linter.unusedSectionVars false
namespace Go.Proofs.YtaplangfppohdaaDoor
open Go Go.RowKit

/-- Something that happens, in small numbers. -/
structure Sq where
  k : Nat
  c : Nat
  t : Nat
  g : Nat
  n : Nat
def encSq (s : Sq) : List Value := [.int .u8 (s.k : Nat), .int .u8 (s.c : Nat), .int .u8 (s.t : Nat), .int .u8 (s.g : Nat), .int .u16 (s.n : Nat)]
theorem encSq_len (s : Sq) : (encSq s).length = 5 := rfl
theorem encSq_one (s : Sq) : ∀ u ∈ encSq s, u.oneCell' = true := by intro u hu; simp [encSq] at hu; rcases hu with rfl | rfl | rfl | rfl | rfl <;> rfl
structure SqOk (s : Sq) : Prop where
  k : s.k < 256
  c : s.c < 256
  t : s.t < 256
  g : s.g < 256
  n : s.n < 65536
/-- What is made so far. -/
structure Md where
  th : List Int
  nx : Int
  ck : Int → Int
  ev : List Ev
def md0 (G : Nat) : Md := ⟨(List.range G).map fun i : Nat => (i : Int) + 1, (G : Int) + 1, fun _ => 0, []⟩
def sqC (x : Sq) : Int := ((x.c % 3 : Nat) : Int)
def sqT (x : Sq) : Int := 1 + ((x.n % 200 : Nat) : Int)
def pickT (m : Md) (x : Sq) : Int := lz m.th (x.t % m.th.length)
def mkEv (G : Nat) (m : Md) (x : Sq) : Ev :=
  if x.k % 8 = 0 then ⟨1 + 2 * (m.ev.length : Int), m.ck (sqC x), sqC x, 1, m.nx, ((x.g % G : Nat) : Int), 0, 1, 0, 7, 0⟩
  else if x.k % 8 = 1 ∧ 1 < m.th.length then ⟨1 + 2 * (m.ev.length : Int), m.ck (sqC x), sqC x, 4, 0, 0, 0, 0, 0, 0, pickT m x⟩
  else ⟨1 + 2 * (m.ev.length : Int), m.ck (sqC x) + sqT x, sqC x, 5, 0, 0, 0, 0, sqT x, 0, if 2 < x.k % 8 then pickT m x else 0⟩
def mdStep (G : Nat) (m : Md) (x : Sq) : Md :=
  ⟨if x.k % 8 = 0 then m.th ++ [m.nx] else if x.k % 8 = 1 ∧ 1 < m.th.length then m.th.eraseIdx (x.t % m.th.length) else m.th,
   if x.k % 8 = 0 then m.nx + 1 else m.nx,
   fun c => if c = sqC x then (mkEv G m x).time else m.ck c,
   m.ev ++ [mkEv G m x]⟩
def mdJ (G : Nat) (l : List Sq) (j : Nat) : Md := (l.take j).foldl (mdStep G) (md0 G)
theorem mdJ_succ {G : Nat} {l : List Sq} {j : Nat} {x : Sq} (h : l[j]? = some x) : mdJ G l (j + 1) = mdStep G (mdJ G l j) x := by
  unfold mdJ; rw [List.take_add_one, h, List.foldl_append]; rfl
/-- What is made, and what is true of it. -/
structure MdIn (G : Nat) (m : Md) : Prop where
  nodup : m.th.Nodup
  rng : ∀ x ∈ m.th, 1 ≤ x ∧ x < m.nx
  pos : 0 < m.th.length
  len : m.th.length ≤ G + m.ev.length
  nx : 1 ≤ m.nx ∧ m.nx ≤ (G : Int) + 1 + m.ev.length
  ck : ∀ c, 0 ≤ m.ck c ∧ m.ck c ≤ 200 * (m.ev.length : Int)
theorem lz_get {l : List Int} {j : Nat} (h : j < l.length) : l[j]? = some (lz l j) := by simp [lz, h]
theorem lz_mem {l : List Int} {j : Nat} (h : j < l.length) : lz l j ∈ l := List.mem_of_getElem? (lz_get h)
section
variable {G : Nat} {m : Md} {x : Sq}
theorem sqC_in (x : Sq) : 0 ≤ sqC x ∧ sqC x ≤ 2 := by unfold sqC; omega
theorem sqT_in (x : Sq) : 1 ≤ sqT x ∧ sqT x ≤ 200 := by unfold sqT; omega
theorem MdIn.pick (h : MdIn G m) (x : Sq) : x.t % m.th.length < m.th.length ∧ pickT m x ∈ m.th := by
  have := Nat.mod_lt x.t h.pos
  exact ⟨this, lz_mem this⟩
theorem md0_in (hG : 0 < G) : MdIn G (md0 G) := by
  refine ⟨?_, ?_, ?_, ?_, ?_, ?_⟩
  · unfold md0
    rw [List.nodup_iff_pairwise_ne, List.pairwise_map]
    exact List.nodup_range.imp fun h e => h (by omega)
  · intro x hx
    simp only [md0, List.mem_map, List.mem_range] at hx ⊢
    obtain ⟨i, hi, rfl⟩ := hx
    omega
  · simpa [md0] using hG
  · simp [md0]
  · simp [md0]; omega
  · intro c; simp [md0]
theorem MdIn.step (h : MdIn G m) (x : Sq) : MdIn G (mdStep G m x) := by
  have hp := h.pick x
  have hr := h.rng
  have hc := sqC_in x
  have ht := sqT_in x
  refine ⟨?_, ?_, ?_, ?_, ?_, ?_⟩
  · unfold mdStep; dsimp only
    split
    · rw [List.nodup_append]
      refine ⟨h.nodup, by simp, fun a ha b hb => ?_⟩
      simp only [List.mem_singleton] at hb
      subst hb
      have := hr a ha
      omega
    · split
      · exact h.nodup.sublist (List.eraseIdx_sublist _ _)
      · exact h.nodup
  · unfold mdStep; dsimp only
    intro y hy
    split at hy
    · rename_i h0
      rw [if_pos h0]
      rcases List.mem_append.1 hy with hy | hy
      · have := hr y hy; omega
      · simp only [List.mem_singleton] at hy
        have := h.nx
        omega
    · rename_i h0
      rw [if_neg h0]
      split at hy
      · exact hr y (List.mem_of_mem_eraseIdx hy)
      · exact hr y hy
  · unfold mdStep; dsimp only
    split
    · simp
    · split
      · rename_i h1
        rw [List.length_eraseIdx_of_lt hp.1]; omega
      · exact h.pos
  · unfold mdStep; dsimp only
    have := h.len
    rw [List.length_append, List.length_singleton]
    split
    · rw [List.length_append, List.length_singleton]; omega
    · split
      · rw [List.length_eraseIdx_of_lt hp.1]; omega
      · omega
  · unfold mdStep; dsimp only
    have := h.nx
    rw [List.length_append, List.length_singleton]
    split <;> omega
  · intro c
    unfold mdStep; dsimp only
    have h1 := h.ck (sqC x)
    have h2 := h.ck c
    rw [List.length_append, List.length_singleton]
    split
    · unfold mkEv
      split
      · dsimp only; omega
      · split
        · dsimp only; omega
        · dsimp only; omega
    · omega
theorem mkEv_seq : (mkEv G m x).seq = 1 + 2 * (m.ev.length : Int) := by
  unfold mkEv
  split
  · rfl
  · split <;> rfl
theorem mkEv_cpu : (mkEv G m x).cpu = sqC x := by
  unfold mkEv
  split
  · rfl
  · split <;> rfl
theorem mkEv_from : (mkEv G m x).time - (mkEv G m x).ticks = m.ck (sqC x) := by
  unfold mkEv; split
  · simp
  · split
    · simp
    · dsimp only; omega
theorem mkEv_ok (h : MdIn G m) (hG : 0 < G) (hG2 : G ≤ 256) (hn : m.ev.length ≤ 1000) : EvOk (mkEv G m x) := by
  have hp := h.rng _ (h.pick x).2
  have hc := sqC_in x
  have ht := sqT_in x
  have hk := h.ck (sqC x)
  have hx := h.nx
  have hg := Nat.mod_lt x.g hG
  unfold mkEv
  split
  · constructor <;> dsimp only <;> omega
  · split
    · constructor <;> dsimp only <;> omega
    · constructor <;> dsimp only
      case got => split <;> omega
      all_goals omega
theorem range7 : List.range 7 = [0, 1, 2, 3, 4, 5, 6] := rfl
theorem mkEv_chk (h : MdIn G m) (hG : 0 < G) (hG2 : G ≤ 256) (hn : m.ev.length ≤ 1000) : chkEv (mkEv G m x) = 0 := by
  have hp := h.rng _ (h.pick x).2
  have hc := sqC_in x
  have ht := sqT_in x
  have hk := h.ck (sqC x)
  have hx := h.nx
  have hg := Nat.mod_lt x.g hG
  unfold mkEv
  generalize pickT m x = P at *
  generalize sqT x = T at *
  generalize m.ck (sqC x) = K at *
  split
  · have hm : 7 / 2 ^ (sqC x).toNat % 2 = 1 := by
      have : sqC x = 0 ∨ sqC x = 1 ∨ sqC x = 2 := by omega
      rcases this with e | e | e <;> rw [e] <;> rfl
    unfold chkEv
    dsimp only
    rw [if_neg (by omega), if_neg (by omega), if_neg, if_neg]
    · rw [range7]; simp [fieldV, usesK]
    · simp [usesK, withinE]
      exact ⟨by omega, by omega, by omega, by omega, hm⟩
  · split
    · unfold chkEv
      dsimp only
      rw [if_neg (by omega), if_neg (by omega), if_neg, if_neg]
      · rw [range7]; simp [fieldV, usesK]
      · simp [usesK, withinE]; omega
    · unfold chkEv
      dsimp only
      rw [if_neg (by omega), if_neg (by omega), if_neg, if_neg]
      · rw [range7]; simp [fieldV, usesK]
      · simp [usesK, withinE]
        split <;> omega
/-- The trace that is made so far, as it is looked through. -/
structure MdLk (G : Nat) (m : Md) (s : Lk) : Prop where
  T : ∀ x, (s.T x).isSome = true ↔ x ∈ m.th
  last : s.last < 1 + 2 * (m.ev.length : Int)
  clk : ∀ c, s.clk c = m.ck c
theorem mem_erase {l : List Int} (h : l.Nodup) {k : Nat} (hk : k < l.length) (y : Int) : y ∈ l.eraseIdx k ↔ y ∈ l ∧ y ≠ lz l k := by
  rw [List.mem_eraseIdx_iff_getElem?]
  constructor
  · rintro ⟨i, hi, he⟩
    refine ⟨List.mem_of_getElem? he, fun e => hi ?_⟩
    have h2 := lz_get hk
    rw [← e] at h2
    have hil := (List.getElem?_eq_some_iff.1 he).1
    exact (List.getElem?_inj hil h).1 (he.trans h2.symm)
  · rintro ⟨hy, hne⟩
    obtain ⟨i, hi⟩ := List.getElem?_of_mem hy
    refine ⟨i, fun e => hne ?_, hi⟩
    subst e
    rw [lz_get hk] at hi
    exact (Option.some.inj hi).symm
theorem MdLk.step {s : Lk} (h : MdIn G m) (q : MdLk G m s) (x : Sq) (hG : 0 < G) (hG2 : G ≤ 256) (hn : m.ev.length ≤ 1000) :
    ∃ s', stepL G s (mkEv G m x) = some s' ∧ MdLk G (mdStep G m x) s' ∧ s'.out = s.out ++ ranOf s.T (mkEv G m x) ∧ doesL G s.T (mkEv G m x) = some s'.T := by
  have hch := mkEv_chk (x := x) h hG hG2 hn
  have hse := mkEv_seq (G := G) (m := m) (x := x)
  have hcp := mkEv_cpu (G := G) (m := m) (x := x)
  have hfr := mkEv_from (G := G) (m := m) (x := x)
  have hpk := h.pick x
  have hpT := (q.T (pickT m x)).2 hpk.2
  have hpr := h.rng _ hpk.2
  have hg := Nat.mod_lt x.g hG
  have hnx : m.nx ∉ m.th := fun e => by have := h.rng _ e; omega
  have hnT : (s.T m.nx).isSome = false := by
    cases hh : (s.T m.nx).isSome with
    | false => rfl
    | true => exact absurd ((q.T _).1 hh) hnx
  have hd : ∃ T', doesL G s.T (mkEv G m x) = some T' ∧ ∀ y, (T' y).isSome = true ↔ y ∈ (mdStep G m x).th := by
    unfold doesL mkEv mdStep
    dsimp only
    by_cases h0 : x.k % 8 = 0
    · simp only [if_pos h0, if_true]
      rw [if_neg (by simp only [hnT]; simp; omega)]
      refine ⟨_, rfl, fun y => ?_⟩
      unfold updT
      rw [List.mem_append, List.mem_singleton]
      split
      · rename_i e; simp [e]
      · rename_i e; rw [q.T y]; simp [e]
    · simp only [if_neg h0]
      by_cases h1 : x.k % 8 = 1 ∧ 1 < m.th.length
      · simp only [if_pos h1]
        simp only [show ¬ ((4 : Int) = 1) from by decide, show ¬ ((4 : Int) = 5) from by decide, show ¬ ((4 : Int) = 3) from by decide, if_false, if_true, hpT]
        refine ⟨_, rfl, fun y => ?_⟩
        unfold updT
        rw [mem_erase h.nodup hpk.1]
        unfold pickT
        split
        · rename_i e; simp [e]
        · rename_i e; rw [q.T y]; simp [e]
      · simp only [if_neg h1]
        simp only [show ¬ ((5 : Int) = 1) from by decide, if_false, if_true]
        by_cases h2 : 2 < x.k % 8
        · simp only [if_pos h2]
          rw [if_neg (by omega), if_pos hpT]
          exact ⟨_, rfl, q.T⟩
        · simp only [if_neg h2, if_true]
          exact ⟨_, rfl, q.T⟩
  obtain ⟨T', hd, hT⟩ := hd
  refine ⟨⟨T', 1 + 2 * (m.ev.length : Int), fun c => if c = sqC x then (mkEv G m x).time else s.clk c, s.out ++ ranOf s.T (mkEv G m x)⟩, ?_, ⟨hT, ?_, ?_⟩, rfl, hd⟩
  · unfold stepL
    rw [if_neg (by rw [hch, hse, hfr, hcp, q.clk]; have := q.last; simp; omega), hd]
    simp [hse, hcp]
  · show 1 + 2 * (m.ev.length : Int) < 1 + 2 * (((m.ev ++ [mkEv G m x]).length : Nat) : Int)
    simp; omega
  · intro c
    show (if c = sqC x then (mkEv G m x).time else s.clk c) = if c = sqC x then (mkEv G m x).time else m.ck c
    rw [q.clk]
end
end Go.Proofs.YtaplangfppohdaaDoor
namespace Go.Proofs.YtaplangfppohdaaDoor
open Go Go.RowKit Go.Shelf Go.Deep Go.ChangeShapes Go.WideShapes

section
variable {H : Type} {encd : TypeId × Value → H} {P : Program} {w : World} {base : Nat} {spare : Nat → Bool} {held : Bool}
/-- A struct of one cell a field. -/
theorem flat_one {t : TypeId} {fs : Array Field} {n : Nat} {cs : List Value} {x : DataW H × List MemPlace} (ht : P.underlying t = some (.struct fs)) (ct : P.cellsOf t = fs.size)
    (hf : (fs.toList.zipIdx.all fun (f, i) => f.offset == i && P.cellsOf f.type == 1) = true)
    (h : DataW.trod encd P w base spare held n t cs = some x) : cs.length = fs.size ∧ ∃ m, ∀ (i : Nat) (f : Field) (c : Value), fs[i]? = some f → cs[i]? = some c → ∃ y, DataW.trod encd P w base spare held m f.type [c] = some y := by
  obtain ⟨xs, m, _, hx, hcl, hxl, he⟩ := DataW.trod_struct ht h
  refine ⟨by omega, m, fun i f c hi hc => ?_⟩
  have h1 := List.all_eq_true.1 hf (f, i) (by
    rw [List.mem_zipIdx_iff_getElem?]
    simpa using hi)
  simp only [Bool.and_eq_true, beq_iff_eq] at h1
  have h2 := he i f hi
  obtain ⟨hil, hcv⟩ := List.getElem?_eq_some_iff.1 hc
  have h3 : (cs.drop i).take 1 = [c] := by
    rw [List.drop_eq_getElem_cons hil, hcv]; rfl
  rw [h1.1, h1.2, h3] at h2
  exact ⟨_, h2.trans (List.getElem?_eq_getElem (show i < xs.length by omega)) |>.trans rfl⟩
theorem wf_u8_ {z : Int} (h : (Lit.int .u8 z).wf = true) : 0 ≤ z ∧ z ≤ 255 := by simpa [Lit.wf, IntKind.min, IntKind.max, IntKind.signed, IntKind.bits] using h
theorem wf_u16_ {z : Int} (h : (Lit.int .u16 z).wf = true) : 0 ≤ z ∧ z ≤ 65535 := by simpa [Lit.wf, IntKind.min, IntKind.max, IntKind.signed, IntKind.bits] using h
theorem wf_u64_ {z : Int} (h : (Lit.int .u64 z).wf = true) : 0 ≤ z ∧ z ≤ 18446744073709551615 := by simpa [Lit.wf, IntKind.min, IntKind.max, IntKind.signed, IntKind.bits] using h
theorem wf_i64_ {z : Int} (h : (Lit.int .i64 z).wf = true) : -9223372036854775808 ≤ z ∧ z ≤ 9223372036854775807 := by simpa [Lit.wf, IntKind.min, IntKind.max, IntKind.signed, IntKind.bits] using h
set_option maxRecDepth 100000 in
theorem sq_cells {n : Nat} {cs : List Value} {x : DataW H × List MemPlace} (h : DataW.trod encd Tryd.prog w base spare held n 56 cs = some x) : ∃ t : Sq, cs = encSq t ∧ SqOk t := by
  obtain ⟨hl, m, hm⟩ := flat_one Tryd.underlying56 (by kernel_rfl) (by kernel_rfl) h
  match cs, hl with
  | [c0, c1, c2, c3, c4], _ =>
    obtain ⟨y0, t0⟩ := hm 0 _ _ rfl rfl
    obtain ⟨y1, t1⟩ := hm 1 _ _ rfl rfl
    obtain ⟨y2, t2⟩ := hm 2 _ _ rfl rfl
    obtain ⟨y3, t3⟩ := hm 3 _ _ rfl rfl
    obtain ⟨y4, t4⟩ := hm 4 _ _ rfl rfl
    obtain ⟨z0, e0, _, w0⟩ := DataW.trod_int Tryd.underlying5 t0
    obtain ⟨z1, e1, _, w1⟩ := DataW.trod_int Tryd.underlying5 t1
    obtain ⟨z2, e2, _, w2⟩ := DataW.trod_int Tryd.underlying5 t2
    obtain ⟨z3, e3, _, w3⟩ := DataW.trod_int Tryd.underlying5 t3
    obtain ⟨z4, e4, _, w4⟩ := DataW.trod_int Tryd.underlying23 t4
    cases e0; cases e1; cases e2; cases e3; cases e4
    have w0 := wf_u8_ w0
    have w1 := wf_u8_ w1
    have w2 := wf_u8_ w2
    have w3 := wf_u8_ w3
    have w4 := wf_u16_ w4
    refine ⟨⟨z0.toNat, z1.toNat, z2.toNat, z3.toNat, z4.toNat⟩, ?_, ⟨by dsimp only; omega, by dsimp only; omega, by dsimp only; omega, by dsimp only; omega, by dsimp only; omega⟩⟩
    simp only [encSq, Int.toNat_of_nonneg w0.1, Int.toNat_of_nonneg w1.1, Int.toNat_of_nonneg w2.1, Int.toNat_of_nonneg w3.1, Int.toNat_of_nonneg w4.1]
def SqArg (w : World) (v : Value) (ts : List Sq) : Prop := EV encSq 5 w v ts ∧ (∀ t ∈ ts, SqOk t) ∧ ts.length ≤ 9223372036854775807
theorem sq_open {n : Nat} {v : Value} {x : DataW H × List MemPlace} (h : DataW.trod encd Tryd.prog w base spare held n 36 [v] = some x) : ∃ ts, SqArg w v ts := by
  obtain ⟨A, len, cap, xs, rfl, h1, h2, h3, h4⟩ := open_rows (enc := encSq) (k := 5) (Q := SqOk) Tryd.underlying36 (by kernel_rfl) (by omega) (fun n cs y hy => sq_cells hy) h
  exact ⟨xs, h1, h4, by unfold maxLen at h3; omega⟩
def PrOk (p : Int × Int) : Prop := (-9223372036854775808 ≤ p.1 ∧ p.1 ≤ 9223372036854775807) ∧ (-9223372036854775808 ≤ p.2 ∧ p.2 ≤ 9223372036854775807)
def PrArg (w : World) (v : Value) (ps : List (Int × Int)) : Prop := EV encG 2 w v ps ∧ (∀ p ∈ ps, PrOk p) ∧ ps.length ≤ 9223372036854775807
theorem parts_open {n : Nat} {v : Value} {x : DataW H × List MemPlace} (h : DataW.trod encd Tryd.prog w base spare held n 25 [v] = some x) : ∃ ps, PrArg w v ps := by
  obtain ⟨A, len, cap, xs, rfl, h1, h2, h3, h4⟩ := open_rows (enc := encG) (k := 2) (Q := fun p => (Lit.int .i64 p.1).wf = true ∧ (Lit.int .i64 p.2).wf = true) Tryd.underlying25 (by kernel_rfl) (by omega)
    (fun n cs y hy => flat_two Tryd.underlying27 (by kernel_rfl) rfl rfl (by kernel_rfl) (by kernel_rfl) Tryd.underlying3 Tryd.underlying3 hy) h
  exact ⟨xs, h1, fun p hp => ⟨wf_i64_ (h4 p hp).1, wf_i64_ (h4 p hp).2⟩, by unfold maxLen at h3; omega⟩
theorem homes_open {n : Nat} {v : Value} {x : DataW H × List MemPlace} (h : DataW.trod encd Tryd.prog w base spare held n 38 [v] = some x) : ∃ ps, PrArg w v ps := by
  obtain ⟨A, len, cap, xs, rfl, h1, h2, h3, h4⟩ := open_rows (enc := encG) (k := 2) (Q := fun p => (Lit.int .i64 p.1).wf = true ∧ (Lit.int .i64 p.2).wf = true) Tryd.underlying38 (by kernel_rfl) (by omega)
    (fun n cs y hy => flat_two Tryd.underlying61 (by kernel_rfl) rfl rfl (by kernel_rfl) (by kernel_rfl) Tryd.underlying3 Tryd.underlying3 hy) h
  exact ⟨xs, h1, fun p hp => ⟨wf_i64_ (h4 p hp).1, wf_i64_ (h4 p hp).2⟩, by unfold maxLen at h3; omega⟩
theorem groups_open {n : Nat} {v : Value} {x : DataW H × List MemPlace} (h : DataW.trod encd Tryd.prog w base spare held n 37 [v] = some x) : ∃ ps, PrArg w v ps := by
  obtain ⟨A, len, cap, xs, rfl, h1, h2, h3, h4⟩ := open_rows (enc := encG) (k := 2) (Q := fun p => (Lit.int .i64 p.1).wf = true ∧ (Lit.int .i64 p.2).wf = true) Tryd.underlying37 (by kernel_rfl) (by omega)
    (fun n cs y hy => flat_two Tryd.underlying53 (by kernel_rfl) rfl rfl (by kernel_rfl) (by kernel_rfl) Tryd.underlying3 Tryd.underlying3 hy) h
  exact ⟨xs, h1, fun p hp => ⟨wf_i64_ (h4 p hp).1, wf_i64_ (h4 p hp).2⟩, by unfold maxLen at h3; omega⟩
end
end Go.Proofs.YtaplangfppohdaaDoor
namespace Go.Proofs.YtaplangfppohdaaDoor
open Go.RowKit Go.Shelf
attribute [local go_sem] Oper.semAt_some

set_option maxHeartbeats 1600000 in
theorem tells_walk (w : World) (v : Value) (l : List (Int × Int)) (t n p limit debt : Int) (hU : UsesAt w) (hv : PrArg w v l) (hd : debt ≤ 9223372036854775807) (hn : n ≤ 9223372036854775807) :
    Calls Tryd.prog 4 #[.int .i64 t, .int .i64 n, .int .i64 p, v, .int .i64 limit, .int .i64 debt] w fun e w' => e = .returned (.bool true) ∧ Below w.heap.size w w' := by
  obtain ⟨hev, _, hlen⟩ := hv
  obtain ⟨A, c, rfl⟩ := hev.shape
  have HV := Lib.hid hev
  have HU := Lib.hid hU
  have HD := Lib.hid hd
  clear hev hU hd
  obtain ⟨L, hL⟩ : ∃ L, l.length = L := ⟨_, rfl⟩
  rw [hL] at hlen HV ⊢
  have HLL := Lib.hid (show L ≤ 60 → l.length ≤ 100000 from by omega)
  have HS := Lib.hid (spreads_ok w t n p)
  clear hL
  rcases (show 60 < L ∨ (¬ 60 < L ∧ ¬ 0 < n) ∨ (¬ 60 < L ∧ 0 < n ∧ ¬ 0 < p) ∨ (¬ 60 < L ∧ 0 < n ∧ 0 < p) from by omega) with c1 | ⟨c1, c2⟩ | ⟨c1, c2, c3⟩ | ⟨c1, c2, c3⟩
  · skip
    go_enter Tryd.func4, Tryd.ntmps4
    go_wp2_with fail
    refine (awake_ok w HU.out).mono ?_
    rintro e w3 ⟨rfl, b3⟩
    go_wp2
    go_ret
    exact ⟨rfl, b3⟩
  · replace HLL := Lib.hid (HLL.out (by omega))
    go_enter Tryd.func4, Tryd.ntmps4
    go_wp2_with fail
    refine HS.out.mono ?_
    rintro e w1 ⟨rfl, b1⟩
    have HB1 := Lib.hid b1
    clear b1
    go_wp2_with fail
    refine (debts_law w1 (.slice A L c) l limit debt (HV.out.below HB1.out) HLL.out HD.out).mono ?_
    rintro e w2 ⟨rfl, b2⟩
    have HB2 := Lib.hid (HB1.out.trans (b2.mono HB1.out.size))
    clear b2
    go_wp2_with fail
    refine (awake_ok w2 (HU.out.below HB2.out)).mono ?_
    rintro e w3 ⟨rfl, b3⟩
    go_wp2
    go_ret
    exact ⟨rfl, HB2.out.trans (b3.mono HB2.out.size)⟩
  · replace HLL := Lib.hid (HLL.out (by omega))
    go_enter Tryd.func4, Tryd.ntmps4
    go_wp2_with fail
    refine HS.out.mono ?_
    rintro e w1 ⟨rfl, b1⟩
    have HB1 := Lib.hid b1
    clear b1
    go_wp2_with fail
    refine (debts_law w1 (.slice A L c) l limit debt (HV.out.below HB1.out) HLL.out HD.out).mono ?_
    rintro e w2 ⟨rfl, b2⟩
    have HB2 := Lib.hid (HB1.out.trans (b2.mono HB1.out.size))
    clear b2
    go_wp2_with fail
    refine (awake_ok w2 (HU.out.below HB2.out)).mono ?_
    rintro e w3 ⟨rfl, b3⟩
    go_wp2
    go_ret
    exact ⟨rfl, HB2.out.trans (b3.mono HB2.out.size)⟩
  replace HLL := Lib.hid (HLL.out (by omega))
  have hp0 : (p == 0) = false := by simp; omega
  have hq0 : 0 ≤ n / p := Int.ediv_nonneg (by omega) (by omega)
  have hq1 : n / p ≤ n := Int.ediv_le_self _ (by omega)
  generalize hQ : n / p = Q at hq0 hq1
  rcases (show ¬ 2000 < Q ∨ (2000 < Q ∧ Q ≤ 65537) ∨ (2000 < Q ∧ ¬ Q ≤ 65537) from by omega) with c4 | ⟨c4, c5⟩ | ⟨c4, c5⟩
  · skip
    go_enter Tryd.func4, Tryd.ntmps4
    go_wp2_with fail
    refine HS.out.mono ?_
    rintro e w1 ⟨rfl, b1⟩
    have HB1 := Lib.hid b1
    clear b1
    go_wp2_with fail
    refine (debts_law w1 (.slice A L c) l limit debt (HV.out.below HB1.out) HLL.out HD.out).mono ?_
    rintro e w2 ⟨rfl, b2⟩
    have HB2 := Lib.hid (HB1.out.trans (b2.mono HB1.out.size))
    clear b2
    go_wp2_with fail
    refine (awake_ok w2 (HU.out.below HB2.out)).mono ?_
    rintro e w3 ⟨rfl, b3⟩
    go_wp2
    go_ret
    exact ⟨rfl, HB2.out.trans (b3.mono HB2.out.size)⟩
  · skip
    go_enter Tryd.func4, Tryd.ntmps4
    go_wp2_with fail
    refine (awake_ok w HU.out).mono ?_
    rintro e w3 ⟨rfl, b3⟩
    go_wp2
    go_ret
    exact ⟨rfl, b3⟩
  · skip
    go_enter Tryd.func4, Tryd.ntmps4
    go_wp2_with fail
    refine HS.out.mono ?_
    rintro e w1 ⟨rfl, b1⟩
    have HB1 := Lib.hid b1
    clear b1
    go_wp2_with fail
    refine (debts_law w1 (.slice A L c) l limit debt (HV.out.below HB1.out) HLL.out HD.out).mono ?_
    rintro e w2 ⟨rfl, b2⟩
    have HB2 := Lib.hid (HB1.out.trans (b2.mono HB1.out.size))
    clear b2
    go_wp2_with fail
    refine (awake_ok w2 (HU.out.below HB2.out)).mono ?_
    rintro e w3 ⟨rfl, b3⟩
    go_wp2
    go_ret
    exact ⟨rfl, HB2.out.trans (b3.mono HB2.out.size)⟩
end Go.Proofs.YtaplangfppohdaaDoor
