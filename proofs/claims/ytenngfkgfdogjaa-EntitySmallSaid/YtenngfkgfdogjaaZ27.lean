/- slices.Contains at keys | A queue has members just if it is filled; ready tasks of other CPUs do not matter | The walk of the law EntityFilled | The walk of the law EntityFilled: its tasks | The walk of the law EntityFilled: its head. -/
import Derived.Test.YtenngfkgfdogjaaZ25
import Derived.Test.YtenngfkgfdogjaaZ26
set_option linter.unusedVariables false
set_option linter.unusedSimpArgs false
set_option linter.unusedSectionVars false
namespace Go.Proofs.Ytenngfkgfdogjaa
open Go Go.RowKit Go.Shelf
attribute [local go_sem] Oper.semAt_some

set_option maxHeartbeats 1600000 in
theorem index_key (w : World) (v1 : Value) (xs : List Ky) (k : Ky) (h1 : EV encY 3 w v1 xs) (b1 : xs.length ≤ 17592186044416) :
    Calls Try.prog 47 #[v1, .agg #[.int .u64 k.v, .bool k.sp, .int .i64 k.id]] w fun e w' => ∃ i : Int, e = .returned (.int .i64 i) ∧ (0 ≤ i ↔ k ∈ xs) ∧ Below w.heap.size w w' := by
  have A1 := bel_alloc w (.cells #[.int .u64 k.v, .bool k.sp, .int .i64 k.id] 24)
  have h1 := h1.below A1
  have K := newK w k rfl
  obtain ⟨kv, kz, ki⟩ := k
  dsimp only at A1 h1 K ⊢
  obtain ⟨k0, k1, k2⟩ := K.ky (i := 0) rfl
  dsimp only at k0 k1 k2
  simp only [Nat.zero_mul, Nat.add_zero, Nat.zero_add] at k0 k1 k2
  have HA := Lib.hid A1
  clear A1 K
  obtain ⟨L, hL⟩ : ∃ L, xs.length = L := ⟨_, rfl⟩
  have HL := Lib.hid hL
  have HV := Lib.hid h1
  obtain ⟨A, c, rfl⟩ := h1.shape
  rw [hL] at b1 HV ⊢
  clear h1 hL
  go_enter Try.func47, Try.ntmps47
  go_upto_region 1 with fail
  generalize w.alloc (.cells #[.int .u64 kv, .bool kz, .int .i64 ki] 24) = w1 at HA HV k0 k1 k2 ⊢
  go_wp2_with fail
  go_loopg [8] L (fun k i wr => ∃ j : Nat, j + k = L ∧ i = .int .i64 j ∧ (∀ a : Nat, a < j → xs[a]? ≠ some ⟨kv, kz, ki⟩) ∧ (∃ n, w1.drewN n = wr))
  case atStart => exact ⟨0, by omega, rfl, fun a h => absurd h (Nat.not_lt_zero a), ⟨0, rfl⟩⟩
  case round =>
    obtain ⟨j, hj, rfl, hno, ⟨n, rfl⟩⟩ := hrel
    have HJ := Lib.hid hj
    have HN := Lib.hid hno
    clear hj hno
    by_cases hlt : j < L
    · have hd : decide ((j : Int) < (L : Int)) = true := by rw [decide_eq_true_eq]; omega
      obtain ⟨⟨xv, xz, xi⟩, hx⟩ : ∃ x, xs[j]? = some x := ⟨_, List.getElem?_eq_getElem (by rw [HL.out]; exact hlt)⟩
      obtain ⟨b, off, c', hv, _, r1⟩ := HV.out.row (by rw [HL.out]; omega)
      rw [HL.out] at hv
      simp only [Value.slice.injEq] at hv
      obtain ⟨rfl, hz, rfl⟩ := hv
      obtain ⟨c0, c1, c2⟩ := r1.ky hx
      dsimp only at c0 c1 c2
      have HX := Lib.hid hx
      clear hx r1 hz
      by_cases he : (⟨xv, xz, xi⟩ : Ky) = ⟨kv, kz, ki⟩
      · simp only [Ky.mk.injEq] at he
        obtain ⟨rfl, rfl, rfl⟩ := he
        go_wp2
        go_quiet (fail)
        go_wp2
        go_ret
        exact ⟨j, rfl, ⟨fun _ => List.mem_of_getElem? HX.out, fun _ => by omega⟩, HA.out.trans ((below_drewN (below_drewN (Below.refl _ _) _) _).mono HA.out.size)⟩
      · have hnx : ∀ a : Nat, a < j + 1 → xs[a]? ≠ some ⟨kv, kz, ki⟩ := fun a ha e => by
          rcases Nat.lt_succ_iff_lt_or_eq.1 ha with h | rfl
          · exact HN.out a h e
          · rw [HX.out] at e; exact he (Option.some.inj e)
        have HNX := Lib.hid hnx
        simp only [Ky.mk.injEq] at he
        rcases (by by_cases e1 : kv = xv; (by_cases e2 : kz = xz; exact .inr (.inr ⟨e1, e2, fun e3 => he ⟨e1.symm, e2.symm, e3.symm⟩⟩); exact .inr (.inl ⟨e1, e2⟩)); exact .inl e1 : kv ≠ xv ∨ (kv = xv ∧ kz ≠ xz) ∨ (kv = xv ∧ kz = xz ∧ ki ≠ xi)) with h | ⟨rfl, h⟩ | ⟨rfl, rfl, h⟩
        · have hq : decide (kv = xv) = false := decide_eq_false h
          have hq2 : (kv == xv) = false := by simpa using h
          clear hnx he
          go_wp2
          go_quiet (fail)
          go_wp2
          go_roundg (gk - 1)
          case measure => have := HJ.out; omega
          case rel => exact ⟨j + 1, by have := HJ.out; omega, by go_num, HNX.out, (by first | exact ⟨_, rfl⟩ | exact dn2 _ _ _)⟩
        · clear hnx he
          cases kz <;> cases xz <;> first
            | exact absurd rfl h
            | (clear h
               go_wp2
               go_quiet (fail)
               go_wp2
               go_roundg (gk - 1)
               case measure => have := HJ.out; omega
               case rel => exact ⟨j + 1, by have := HJ.out; omega, by go_num, HNX.out, (by first | exact ⟨_, rfl⟩ | exact dn2 _ _ _)⟩)
        · have hq : decide (ki = xi) = false := decide_eq_false h
          have hq2 : (ki == xi) = false := by simpa using h
          clear hnx he
          go_wp2
          go_quiet (fail)
          go_wp2
          go_roundg (gk - 1)
          case measure => have := HJ.out; omega
          case rel => exact ⟨j + 1, by have := HJ.out; omega, by go_num, HNX.out, (by first | exact ⟨_, rfl⟩ | exact dn2 _ _ _)⟩
    · have hd : decide ((j : Int) < (L : Int)) = false := by rw [decide_eq_false_iff_not]; omega
      go_wp2
      go_ret
      refine ⟨-1, rfl, ⟨fun h => by omega, fun h => ?_⟩, HA.out.trans ((below_drewN (Below.refl _ _) _).mono HA.out.size)⟩
      obtain ⟨a, ha⟩ := List.getElem?_of_mem h
      have hl := (List.getElem?_eq_some_iff.1 ha).1
      exact absurd ha (HN.out a (by have := HL.out; omega))
set_option maxHeartbeats 1600000 in
theorem contains_key (w : World) (v1 : Value) (xs : List Ky) (k : Ky) (h1 : EV encY 3 w v1 xs) (b1 : xs.length ≤ 17592186044416) :
    Calls Try.prog 22 #[v1, .agg #[.int .u64 k.v, .bool k.sp, .int .i64 k.id]] w fun e w' => ∃ b : Bool, e = .returned (.bool b) ∧ (b = true ↔ k ∈ xs) ∧ Below w.heap.size w w' := by
  have A1 := bel_alloc w (.cells #[.int .u64 k.v, .bool k.sp, .int .i64 k.id] 24)
  have h1 := h1.below A1
  have K := newK w k rfl
  have IX := Lib.hid (index_key (w.alloc (.cells #[.int .u64 k.v, .bool k.sp, .int .i64 k.id] 24)) v1 xs k h1 b1)
  obtain ⟨k0, k1, k2⟩ := K.ky (i := 0) rfl
  obtain ⟨kv, kz, ki⟩ := k
  dsimp only at A1 k0 k1 k2 IX ⊢
  simp only [Nat.zero_mul, Nat.add_zero, Nat.zero_add] at k0 k1 k2
  have HA := Lib.hid A1
  clear A1 K h1
  go_enter Try.func22, Try.ntmps22
  go_upto_region 1 with fail
  generalize w.alloc (.cells #[.int .u64 kv, .bool kz, .int .i64 ki] 24) = w1 at HA IX k0 k1 k2 ⊢
  go_wp2_with fail
  refine IX.out.mono ?_
  rintro e w2 ⟨i, rfl, hi, bb⟩
  have HB := Lib.hid (below_step HA.out bb)
  have HI := Lib.hid hi
  clear hi bb k0 k1 k2 IX HA
  by_cases h0 : 0 ≤ i
  · have hd : decide (0 ≤ i) = true := decide_eq_true h0
    go_wp2
    go_ret
    exact ⟨true, rfl, ⟨fun _ => HI.out.1 (by omega), fun _ => rfl⟩, HB.out⟩
  · have hd : decide (0 ≤ i) = false := decide_eq_false h0
    have H0 := Lib.hid h0
    go_wp2
    go_ret
    exact ⟨false, rfl, ⟨fun h => absurd h (by decide), fun h => absurd (HI.out.2 h) (by have := H0.out; omega)⟩, HB.out⟩
end Go.Proofs.Ytenngfkgfdogjaa
namespace Go.Proofs.Ytenngfkgfdogjaa
open Go Go.RowKit Go.Shelf

section
variable {gs : List (Int × Int)} {n : Nat}
theorem path_cases (hb : Bef gs n) : ∀ x, x < n → ∀ g, g ∈ path gs x → x = g ∨ ∃ c, 0 < c ∧ c < n ∧ par gs c = (g : Int) ∧ c ∈ path gs x := by
  intro x
  induction x using Nat.strongRecOn with
  | _ x ih =>
    intro hx g hg
    rcases Nat.eq_zero_or_pos x with rfl | h0
    · rw [path_zero] at hg
      exact .inl (List.mem_singleton.1 hg).symm
    · obtain ⟨h1, h2⟩ := hb x h0 hx
      rw [path_succ hb h0 hx] at hg ⊢
      rcases List.mem_cons.1 hg with rfl | hg
      · exact .inl rfl
      · rcases ih (par gs x).toNat (by omega) (by omega) g hg with e | ⟨c, c0, cn, cp, cm⟩
        · exact .inr ⟨x, h0, hx, by omega, List.mem_cons_self ..⟩
        · exact .inr ⟨c, c0, cn, cp, List.mem_cons_of_mem _ cm⟩
theorem path_trans (hb : Bef gs n) : ∀ x, x < n → ∀ c ∈ path gs x, ∀ y ∈ path gs c, y ∈ path gs x := by
  intro x
  induction x using Nat.strongRecOn with
  | _ x ih =>
    intro hx c hc y hy
    rcases Nat.eq_zero_or_pos x with rfl | h0
    · rw [path_zero] at hc
      rw [List.mem_singleton.1 hc] at hy; exact hy
    · obtain ⟨h1, h2⟩ := hb x h0 hx
      rw [path_succ hb h0 hx] at hc ⊢
      rcases List.mem_cons.1 hc with rfl | hc
      · rw [path_succ hb h0 hx] at hy; exact hy
      · exact List.mem_cons_of_mem _ (ih _ (by omega) (by omega) c hc y hy)
theorem path_me (hb : Bef gs n) {x : Nat} (hx : x < n) : x ∈ path gs x := List.mem_of_getElem? (path_head hb hx)
theorem fillB_iff {l : List Tk} {g : Nat} : fillB gs l g = true ↔ ∃ t ∈ l, g ∈ path gs t.g.toNat := by
  unfold fillB; rw [List.any_eq_true]
  exact ⟨fun ⟨t, h, e⟩ => ⟨t, h, List.contains_iff_mem.1 e⟩, fun ⟨t, h, e⟩ => ⟨t, h, List.contains_iff_mem.2 e⟩⟩
theorem fill_iff (hb : Bef gs n) {l : List Tk} (hl : ∀ t ∈ l, 0 ≤ t.g ∧ t.g < (n : Int)) {g : Nat} (hg : g < n) :
    fillB gs l g = true ↔ (∃ t ∈ l, t.g = (g : Int)) ∨ ∃ c, 0 < c ∧ c < n ∧ par gs c = (g : Int) ∧ fillB gs l c = true := by
  constructor
  · intro h
    obtain ⟨t, ht, hm⟩ := fillB_iff.1 h
    have := hl t ht
    rcases path_cases hb _ (by omega) _ hm with e | ⟨c, c0, cn, cp, cm⟩
    · exact .inl ⟨t, ht, by omega⟩
    · exact .inr ⟨c, c0, cn, cp, fillB_iff.2 ⟨t, ht, cm⟩⟩
  · rintro (⟨t, ht, e⟩ | ⟨c, c0, cn, cp, h⟩)
    · refine fillB_iff.2 ⟨t, ht, ?_⟩
      rw [e, Int.toNat_natCast]; exact path_me hb hg
    · obtain ⟨t, ht, hm⟩ := fillB_iff.1 h
      have := hl t ht
      refine fillB_iff.2 ⟨t, ht, path_trans hb _ (by omega) c hm g ?_⟩
      rw [path_succ hb c0 cn, cp, Int.toNat_natCast]
      exact List.mem_cons_of_mem _ (path_me hb hg)
end
theorem Shp.bef {s : St} (h : Shp s) : Bef s.gs s.gs.length := (right_iff.1 h.right).bef
theorem tks_g {n : Int} {G : Nat} : ∀ {l : List Tk} {last : Int}, tksOk n G last l = true → ∀ t ∈ l, (0 ≤ t.g ∧ t.g < (G : Int)) ∧ 0 ≤ t.cpu ∧ t.cpu < n
  | [], _, _, _, ht => nomatch ht
  | a :: r, last, h, t, ht => by
    unfold tksOk at h
    simp only [Bool.and_eq_true] at h
    rcases List.mem_cons.1 ht with rfl | ht
    · have := tkOk_iff.1 h.1
      exact ⟨⟨this.2.1.1, by omega⟩, this.2.2.2.1, by omega⟩
    · exact tks_g h.2 t ht
theorem rdy_g {s : St} (h : Shp s) {cpu : Int} : ∀ t ∈ rdyL s cpu, 0 ≤ t.g ∧ t.g < (s.gs.length : Int) := fun t ht => (tks_g h.tks t (List.mem_filter.1 ht).1).1
/-- A queue has members just if it is filled. -/
theorem memL_fill {s : St} (h : Shp s) {cpu : Int} {g : Nat} (hg : g < s.gs.length) : fillB s.gs (rdyL s cpu) g = decide (0 < (memL s g cpu).length) := by
  have hk : fillB s.gs (rdyL s cpu) g = true ↔ 0 < (memL s g cpu).length := by
    rw [fill_iff h.bef (rdy_g h) hg]
    constructor
    · rintro (⟨t, ht, e⟩ | ⟨c, c0, cn, cp, hf⟩)
      · have hm := List.mem_filter.1 ht
        unfold rdyB at hm
        simp only [Bool.and_eq_true, decide_eq_true_eq] at hm
        exact List.length_pos_of_mem (memL_mem.2 (.inl ⟨t, hm.1, hm.2, e, rfl⟩))
      · exact List.length_pos_of_mem (memL_mem.2 (.inr ⟨c, cn, by unfold isCh; simp only [Bool.and_eq_true, decide_eq_true_eq]; exact ⟨⟨c0, cp⟩, hf⟩, rfl⟩))
    · intro hp
      obtain ⟨k, hk⟩ := List.exists_mem_of_length_pos hp
      rcases memL_mem.1 hk with ⟨t, ht, hr, hgt, _⟩ | ⟨x, hx, hc, _⟩
      · refine .inl ⟨t, List.mem_filter.2 ⟨ht, ?_⟩, hgt⟩
        unfold rdyB
        simp only [Bool.and_eq_true, decide_eq_true_eq]; exact hr
      · unfold isCh at hc
        simp only [Bool.and_eq_true, decide_eq_true_eq] at hc
        exact .inr ⟨x, hc.1.1, hx, hc.1.2, hc.2⟩
  cases hf : fillB s.gs (rdyL s cpu) g
  · rw [hf] at hk
    exact (decide_eq_false fun h => absurd (hk.2 h) (by decide)).symm
  · exact (decide_eq_true (hk.1 hf)).symm
/-- How many there are. -/
theorem memL_count (s : St) (g cpu : Int) : (memL s g cpu).length = (s.ts.filter fun t => rdyB cpu t && decide (t.g = g)).length + ((List.range s.gs.length).filter (isCh s g cpu)).length := by
  unfold memL
  rw [srtK_len, List.length_append]
  unfold tksK grpK rdyL
  rw [List.length_map, List.length_map, List.filter_filter]
  congr 3
  funext t
  rw [Bool.and_comm]
/-- The task's key is a member. -/
theorem tk_mem {s : St} {g cpu : Int} {t : Tk} (ht : t ∈ s.ts) (h : (rdyB cpu t && decide (t.g = g)) = true) : tkKey t ∈ memL s g cpu := by
  unfold rdyB at h
  simp only [Bool.and_eq_true, decide_eq_true_eq] at h
  exact memL_mem.2 (.inl ⟨t, ht, h.1, h.2, rfl⟩)
/-- A child's key is a member just if the child is filled. -/
theorem ch_mem {s : St} {cpu : Int} {g c : Nat} (hc : c < s.gs.length) (h0 : 0 < c) (hp : par s.gs c = (g : Int)) : spKey s cpu c ∈ memL s g cpu ↔ fillB s.gs (rdyL s cpu) c = true := by
  rw [memL_mem]
  constructor
  · rintro (⟨t, _, _, _, e⟩ | ⟨x, _, h, e⟩)
    · have : (tkKey t).sp = (spKey s cpu c).sp := by rw [e]
      simp only [tkKey, spKey] at this; cases this
    · have e : (spKey s cpu c).id = (spKey s cpu x).id := by rw [e]
      simp only [spKey] at e
      obtain rfl : c = x := by omega
      unfold isCh at h
      simp only [Bool.and_eq_true] at h
      exact h.2
  · intro h
    exact .inr ⟨c, hc, by unfold isCh; simp only [Bool.and_eq_true, decide_eq_true_eq]; exact ⟨⟨h0, hp⟩, h⟩, rfl⟩
/-- Tasks of other CPUs are as if they were not ready. -/
def nrm (cpu : Int) (t : Tk) : Tk := if t.cpu = cpu then t else { t with rdy := false }
theorem rdyB_nrm (cpu : Int) (t : Tk) : rdyB cpu (nrm cpu t) = rdyB cpu t := by
  unfold nrm rdyB
  split
  · rfl
  · rename_i h; simp [h]
theorem nrm_of {cpu : Int} {t : Tk} (h : rdyB cpu t = true) : nrm cpu t = t := by
  unfold rdyB at h
  simp only [Bool.and_eq_true, decide_eq_true_eq] at h
  unfold nrm; rw [if_pos h.2]
theorem filter_nrm (cpu : Int) : ∀ l : List Tk, (l.map (nrm cpu)).filter (rdyB cpu) = l.filter (rdyB cpu)
  | [] => rfl
  | t :: r => by
    rw [List.map_cons, List.filter_cons, List.filter_cons, filter_nrm cpu r, rdyB_nrm]
    split
    · rename_i h; rw [nrm_of h]
    · rfl
theorem tksOk_nrm (cpu n : Int) (G : Nat) : ∀ (l : List Tk) (last : Int), tksOk n G last (l.map (nrm cpu)) = tksOk n G last l
  | [], _ => rfl
  | t :: r, last => by
    have h1 : tkOk n G last (nrm cpu t) = tkOk n G last t := by unfold nrm tkOk; split <;> rfl
    have h2 : (nrm cpu t).id = t.id := by unfold nrm; split <;> rfl
    rw [List.map_cons]
    unfold tksOk
    rw [h1, h2, tksOk_nrm cpu n G r]
structure Oth (s s' : St) (cpu : Int) : Prop where
  n : s'.n = s.n
  cr : s'.cr = s.cr
  gs : s'.gs = s.gs
  cl : s'.cl = s.cl
  cu : s'.cu = s.cu
  ss : s'.ss = s.ss
  ts : s'.ts.map (nrm cpu) = s.ts.map (nrm cpu)
section
variable {s s' : St} {cpu : Int}
theorem Oth.refl (s : St) (cpu : Int) : Oth s s cpu := ⟨rfl, rfl, rfl, rfl, rfl, rfl, rfl⟩
theorem Oth.len (h : Oth s s' cpu) : s'.ts.length = s.ts.length := by have := congrArg List.length h.ts; simpa using this
theorem Oth.shp (h : Oth s s' cpu) (hs : Shp s) : Shp s' := by
  refine ⟨by rw [h.n]; exact hs.n1, by rw [h.n]; exact hs.n2, by rw [h.gs]; exact hs.right, by rw [h.cl, h.n]; exact hs.cl, by rw [h.cu, h.n]; exact hs.cu, by rw [h.ss, h.gs]; exact hs.ss, by rw [h.ss, h.n]; exact hs.row, ?_⟩
  rw [h.n, h.gs, ← tksOk_nrm cpu, h.ts, tksOk_nrm cpu]; exact hs.tks
theorem Oth.mem (h : Oth s s' cpu) (g : Int) : memL s' g cpu = memL s g cpu := by
  have hr : rdyL s' cpu = rdyL s cpu := by unfold rdyL; rw [← filter_nrm, h.ts, filter_nrm]
  have hk : spKey s' cpu = spKey s cpu := by funext x; unfold spKey spotV; rw [h.ss]
  have hc : isCh s' g cpu = isCh s g cpu := by funext x; unfold isCh; rw [h.gs, hr]
  unfold memL tksK grpK
  rw [hr, hk, hc, h.gs]
theorem Oth.set (h : Oth s s' cpu) {i : Nat} {t : Tk} (hi : s'.ts[i]? = some t) (hc : t.cpu ≠ cpu) (b : Bool) : Oth s { s' with ts := s'.ts.set i { t with rdy := b } } cpu := by
  refine ⟨h.n, h.cr, h.gs, h.cl, h.cu, h.ss, ?_⟩
  rw [← h.ts]
  exact map_set_same (nrm cpu) s'.ts i t _ hi (by unfold nrm; rw [if_neg hc, if_neg hc])
end
end Go.Proofs.Ytenngfkgfdogjaa
namespace Go.Proofs.Ytenngfkgfdogjaa
open Go Go.RowKit Go.Shelf
attribute [local go_sem] Oper.semAt_some

/-- Tasks of other CPUs are turned. -/
def OtW (w0 : World) (X : Nat) (c : StC) (s : St) (base base2 : Nat) (v : Value) (l : List Ky) (cpu : Int) (w : World) : Prop :=
  ∃ s', StO base w c s' ∧ StBox w X c s' ∧ Oth s s' cpu ∧ OV encY 3 24 base2 w v l ∧ Below w0.heap.size w0 w
section
variable {w0 w w' : World} {X base base2 T : Nat} {c : StC} {s : St} {v : Value} {l : List Ky} {cpu : Int}
theorem OtW.below (h : OtW w0 X c s base base2 v l cpu w) (hb : Below w.heap.size w w') : OtW w0 X c s base base2 v l cpu w' := by
  obtain ⟨s', o, bx, ot, om, bb⟩ := h
  exact ⟨s', o.below hb, bx.below hb, ot, om.below hb, below_step bb hb⟩
theorem OtW.step (h : OtW w0 X c s base base2 v l cpu w) (hb : w0.heap.size ≤ base) (hT : s.ts.length = T) {i : Nat} (hi : i < T) :
    ∃ (t : Tk) (g ox cap : Nat), c.vt = .slice (some ⟨g, ox, none⟩) T cap ∧ w.cell? ⟨X, 5, none⟩ = some c.vt ∧ w.cell? ⟨g, ox + i * 8 + 3, none⟩ = some (.int .i64 t.cpu) ∧ w.cell? ⟨g, ox + i * 8 + 5, none⟩ = some (.bool t.rdy) ∧ w.frozen? ⟨g, ox + i * 8 + 5, none⟩ = false ∧
      (t.cpu ≠ cpu → OtW w0 X c s base base2 v l cpu (w.setCell ⟨g, ox + i * 8 + 5, none⟩ (.bool (!t.rdy)))) := by
  obtain ⟨s', o, bx, ot, om, bb⟩ := h
  have hl : s'.ts.length = T := by rw [ot.len]; exact hT
  obtain ⟨t, ht⟩ : ∃ t, s'.ts[i]? = some t := ⟨_, List.getElem?_eq_getElem (by omega)⟩
  obtain ⟨g, cap, hvt, hge, _⟩ := o.ot.form (by omega)
  rw [hl] at hvt
  obtain ⟨_, hf⟩ := o.tcell hvt ht (j := 5) (by omega)
  obtain ⟨o2, gr⟩ := o.setT hvt ht (j := 5) (t' := { t with rdy := !t.rdy }) (u := .bool (!t.rdy)) (by omega) rfl
  have ot4 := o.ot
  rw [hvt] at ot4
  have r := ((ot4.ev encT_len).row3 (by omega)).tk ht
  simp only [Nat.zero_add] at r
  refine ⟨t, g, 0, cap, hvt, bx.cell.2.2.2.2.2.1, by rw [Nat.zero_add]; exact r.2.2.2.1, by rw [Nat.zero_add]; exact r.2.2.2.2.2.1, by rw [Nat.zero_add]; exact hf, fun hc => ?_⟩
  rw [Nat.zero_add]
  exact ⟨_, o2, bx.oth (ot4.ne_box bx (by decide)) rfl rfl, ot.set ht hc _, om.keep gr (om.ne2 ot4 (by decide)), bb.setCell (Nat.le_trans hb hge) _⟩
end
set_option maxRecDepth 100000 in
set_option maxHeartbeats 6400000 in
theorem filled_t28 (w w0 : World) (X base base2 : Nat) (c : StC) (s : St) (cpu g : Int) (v : Value) (M : Nat) {u0 u1 u2 u3 u4 u5 u6 u7 u8 u9 u10 u14 u15 u17 u18 u19 u21 u22 u23 u24 u25 u26 u27 u28 u29 u30 u31 u32 u33 u34 u35 u36 u37 u38 u39 u40 u41 u42 u43 u44 u45 u46 u47 u48 u49 u50 u51 u52 u53 u54 u55 u56 u57 u58 u59 u60 u61 u62 u63 u64 u65 u66 u67 u68 u69 u70 u71 u72 u73 u74 u75 u76 u77 u78 u79 u80 u81 u82 u83 u84 u85 u86 u87 u88 u89 u90 u91 u92 u93 u94 u95 u96 u97 u98 u99 u100 u101 u102 u103 u104 u105 u106 u107 u108 u109 u110 u111 u112 u113 u114 u115 u116 u117 u118 u119 u120 u121 u122 u123 u124 u125 u126 u127 u128 u129 u130 u131 u132 u133 u134 u135 u136 u137 u138 u139 u140 u141 u142 u143 u144 u145 u146 u147 u148 u149 u150 u151 u152 u153 u154 u155 u156 u157 u158 u159 u160 u161 u162 u163 u164 u165 u166 u167 u168 u169 u170 u171 u172 u173 u174 u175 u176 u177 u178 u179 u180 u181 u182 u183 u184 u185 u186 u187 u188 u189 u190 u191 u192 u193 u194 u195 u196 u197 u198 : Value} (hbs : w.heap.size ≤ base) (hw : OtW w X c s base base2 v (memL s g cpu) cpu w0) (hs : Shp s)
    (hM : (memL s g cpu).length = M) (hg1 : 0 ≤ g) (hg2 : g < s.gs.length) (hc1 : 0 ≤ cpu) (hc2 : cpu < s.n) :
    Code.wp Try.prog (tailR Try.f6 28) (bodyPost Try.prog Try.f6 fun e w' => e = .returned (.bool true) ∧ Below w.heap.size w w')
      ⟨#[u0, u1, u2, u3, u4, u5, u6, u7, u8, u9, u10, .pointer (some ⟨X, 0, none⟩), .int .i64 cpu, .int .i64 g, u14, u15, v, u17, u18, u19, .int .i64 (M : Nat), u21, u22, u23, u24, u25, u26, u27, u28, u29, u30, u31, u32, u33, u34, u35, u36, u37, u38, u39, u40, u41, u42, u43, u44, u45, u46, u47, u48, u49, u50, u51, u52, u53, u54, u55, u56, u57, u58, u59, u60, u61, u62, u63, u64, u65, u66, u67, u68, u69, u70, u71, u72, u73, u74, u75, u76, u77, u78, u79, u80, u81, u82, u83, u84, u85, u86, u87, u88, u89, u90, u91, u92, u93, u94, u95, u96, u97, u98, u99, u100, u101, u102, u103, u104, u105, u106, u107, u108, u109, u110, u111, u112, u113, u114, u115, u116, u117, u118, u119, u120, u121, u122, u123, u124, u125, u126, u127, u128, u129, u130, u131, u132, u133, u134, u135, u136, u137, u138, u139, u140, u141, u142, u143, u144, u145, u146, u147, u148, u149, u150, u151, u152, u153, u154, u155, u156, u157, u158, u159, u160, u161, u162, u163, u164, u165, u166, u167, u168, u169, u170, u171, u172, u173, u174, u175, u176, u177, u178, u179, u180, u181, u182, u183, u184, u185, u186, u187, u188, u189, u190, u191, u192, u193, u194, u195, u196, u197, u198], []⟩ w0 := by
  conv => arg 2; whnf
  conv => arg 4; dsimp only
  obtain ⟨T, hT⟩ : ∃ T, s.ts.length = T := ⟨_, rfl⟩
  have hT1 : T ≤ 65535 := by have := hs.len; omega
  have hM1 : M ≤ 70000 := by have := memL_len s g cpu; have := (right_iff.1 hs.right).many; omega
  have HW := Lib.hid hw
  have HS := Lib.hid hs
  have HT := Lib.hid hT
  have HM := Lib.hid hM
  obtain ⟨Av, cv, hv⟩ : ∃ A cp, v = .slice A M cp := by
    obtain ⟨_, _, _, _, om, _⟩ := hw
    obtain ⟨A, cp, h⟩ := (om.ev encY_len).shape
    rw [hM] at h
    exact ⟨A, cp, h⟩
  subst hv
  obtain ⟨s1, o1, bx1, ot1, om1, bb1⟩ := hw
  obtain ⟨At, ct, hvt⟩ := (o1.ot.ev encT_len).shape
  rw [ot1.len, hT] at hvt
  have HVT := Lib.hid hvt
  obtain ⟨b0, b1, b2, b3, b4, b5, b6⟩ := bx1.cell
  rw [hvt] at b5
  have hgn := Lib.hid hg1
  have hgn2 := Lib.hid hg2
  have hcn := Lib.hid hc1
  have hcn2 := Lib.hid hc2
  clear o1 bx1 ot1 om1 bb1 hs hT hM hvt hg1 hg2 hc1 hc2 b0 b1 b2 b3 b4 b6
  go_wp2_with fail
  go_loopg [155] T (fun k i wr => ∃ j : Nat, j + k = T ∧ i = .int .i64 j ∧ OtW w X c s base base2 (.slice Av M cv) (memL s g cpu) cpu wr)
  case atStart => exact ⟨0, by omega, rfl, HW.out⟩
  case round =>
    obtain ⟨j, hj, rfl, hwr⟩ := hrel
    have HJ := Lib.hid hj
    have HW2 := Lib.hid hwr
    clear hj b5
    by_cases hlt : j < T
    · have hd : decide ((j : Int) < (T : Int)) = true := by rw [decide_eq_true_eq]; omega
      obtain ⟨t, gb, ox, cap, hvt, b5d, c3d, c5d, fz, hst⟩ := (hwr.below (below_drew (Below.refl _ _))).step hbs HT.out hlt
      rw [hvt] at b5d
      have b5 : wr.cell? ⟨X, 5, none⟩ = some (.slice (some ⟨gb, ox, none⟩) T cap) := b5d
      have c3 : wr.cell? ⟨gb, ox + j * 8 + 3, none⟩ = some (.int .i64 t.cpu) := c3d
      have c5 : wr.cell? ⟨gb, ox + j * 8 + 5, none⟩ = some (.bool t.rdy) := c5d
      have FZ := Lib.hid fz
      have HST := Lib.hid hst
      clear hwr fz hst b5d c3d c5d hvt
      by_cases hc : t.cpu = cpu
      · rw [hc] at c3
        clear c5
        go_wp2
        go_roundg (gk - 1)
        case measure => have := HJ.out; omega
        case rel => exact ⟨j + 1, by have := HJ.out; omega, by go_num, HW2.out⟩
      · have hq : decide (t.cpu = cpu) = false := decide_eq_false hc
        have H5 := Lib.hid (HST.out hc)
        have hc := Lib.hid hc
        go_wp2_with fail
        go_still_tail 12, (by kernel_rfl)
        change wpList _ _ _ _ _ wr.drew
        have fz := FZ.out
        have c5 : wr.drew.cell? ⟨gb, ox + j * 8 + 5, none⟩ = some (.bool t.rdy) := c5
        clear FZ HST c3 b5
        generalize wr.drew = wd at fz H5 c5 ⊢
        go_wp2_with fail
        go_roundg (gk - 1)
        case measure => have := HJ.out; omega
        case rel => exact ⟨j + 1, by have := HJ.out; omega, by go_num, H5.out⟩
    · have hd : decide ((j : Int) < (T : Int)) = false := by rw [decide_eq_false_iff_not]; omega
      obtain ⟨s2, o2, bx2, ot2, om2, bb2⟩ := hwr
      have hs2 := ot2.shp HS.out
      have ME := Lib.hid (mem_ok hs2 wr c g cpu o2.at hgn.out (by rw [ot2.gs]; exact hgn2.out) hcn.out (by rw [ot2.n]; exact hcn2.out))
      rw [ot2.mem] at ME
      obtain ⟨b0, b1, b2, b3, b4, b5, b6⟩ := bx2.cell
      unfold StC.val StC.cells at ME
      have OM := Lib.hid om2
      have BB := Lib.hid bb2
      have hsz := bb2.size
      clear o2 bx2 ot2 om2 bb2 hs2
      go_wp2_with fail
      refine ME.out.mono ?_
      rintro e w3 ⟨v3, rfl, o3, b3'⟩
      have OM3 := Lib.hid (OM.out.below b3')
      have BB3 := Lib.hid (BB.out.trans (b3'.mono hsz))
      obtain ⟨A3, c3, h3⟩ := (o3.ev encY_len).shape
      rw [HM.out] at h3
      subst h3
      have O3 := Lib.hid o3
      clear b0 b1 b2 b3 b4 b5 b6 ME o3 b3'
      go_wp2_with fail
      refine (eq_key w3 _ _ (memL s g cpu) (O3.out.ev encY_len) (OM3.out.ev encY_len) (by rw [HM.out]; omega)).mono ?_
      rintro e w4 ⟨rfl, bb4⟩
      have BB4 := Lib.hid (BB3.out.trans (bb4.mono BB3.out.size))
      clear bb4
      go_wp2
      go_ret
      exact ⟨rfl, BB4.out⟩
theorem fil_ok {s : St} (h : Shp s) (w : World) (c : StC) (g cpu : Int) (hat : StAt w c s) (h1 : 0 ≤ g) (h2 : g < s.gs.length) (h3 : 0 ≤ cpu) (h4 : cpu < s.n) :
    Calls Try.prog 20 #[c.val s, .int .i64 g, .int .i64 cpu] w fun e w' => e = .returned (.tuple #[.bool (fillB s.gs (rdyL s cpu) g.toNat), .int .i64 0]) ∧ Below w.heap.size w w' := by
  have h0 := chk_ok h h1 h2 h3 h4
  have := filled_pub w c s g cpu hat h.stb
  rwa [filE_pos h0, h0] at this
/-- The spot q of group g in memory: its V. -/
theorem StAt.spot0 {w : World} {c : StC} {s : St} (h : StAt w c s) (hs : Shp s) {g q G N : Nat} (hG : s.gs.length = G) (hN : s.n = (N : Nat)) (hg : g < G) (hq : q < N) :
    ∃ y bs os cs bx ox cx, c.vs = .slice (some ⟨bs, os, none⟩) G cs ∧ w.cell? ⟨bs, os + g, none⟩ = some (.slice (some ⟨bx, ox, none⟩) N cx) ∧ w.cell? ⟨bx, ox + q * 3, none⟩ = some (.int .u64 y) ∧ spKey s (q : Nat) g = ⟨y, true, g⟩ := by
  have hl := hs.ss
  obtain ⟨x, hx⟩ : ∃ x, s.ss[g]? = some x := ⟨_, List.getElem?_eq_getElem (by omega)⟩
  have hxm := List.mem_of_getElem? hx
  have hxn : x.2.length = N := by have := hs.row x hxm; omega
  obtain ⟨y, hy⟩ : ∃ y, x.2[q]? = some y := ⟨_, List.getElem?_eq_getElem (by omega)⟩
  obtain ⟨bs, os, cs, hv, _, r⟩ := h.es.1.row (by omega)
  obtain ⟨bx, ox, cx, hv2, _, r2⟩ := (h.es.2 x hxm).row (by omega)
  have hc := r g x hx 0 _ rfl
  simp only [Nat.mul_one, Nat.add_zero] at hc
  rw [hv2, hxn] at hc
  rw [hl, hG] at hv
  exact ⟨y.v, bs, os, cs, bx, ox, cx, hv, hc, (r2.sp hy).1, by unfold spKey; rw [spotV_get hx hy]⟩
theorem cnt_step (F : Nat → Bool) {ks : List Nat} {j k : Nat} (h : ks[j]? = some k) : ((ks.take (j + 1)).filter F).length = ((ks.take j).filter F).length + if F k then 1 else 0 := by
  rw [List.take_add_one, h, Option.toList_some, List.filter_append, List.length_append, List.filter_cons]
  split <;> rfl
set_option maxRecDepth 100000 in
set_option maxHeartbeats 6400000 in
theorem filled_t19 (w w0 : World) (X base base2 base3 : Nat) (c : StC) (s : St) (g q a : Nat) (v vc : Value) (M : Nat) (ks : List Nat) {u0 u1 u2 u3 u4 u5 u6 u7 u8 u9 u10 u14 u15 u17 u19 u21 u22 u23 u24 u25 u26 u27 u28 u29 u30 u31 u32 u33 u34 u35 u36 u37 u38 u39 u40 u41 u42 u43 u44 u45 u46 u47 u48 u49 u50 u51 u52 u53 u54 u55 u56 u57 u58 u59 u60 u61 u62 u63 u64 u65 u66 u67 u68 u69 u70 u71 u72 u73 u74 u75 u76 u77 u78 u79 u80 u81 u82 u83 u84 u85 u86 u87 u88 u89 u90 u91 u92 u93 u94 u95 u96 u97 u98 u99 u100 u101 u102 u103 u104 u105 u106 u107 u108 u109 u110 u111 u112 u113 u114 u115 u116 u117 u118 u119 u120 u121 u122 u123 u124 u125 u126 u127 u128 u129 u130 u131 u132 u133 u134 u135 u136 u137 u138 u139 u140 u141 u142 u143 u144 u145 u146 u147 u148 u149 u150 u151 u152 u153 u154 u155 u156 u157 u158 u159 u160 u161 u162 u163 u164 u165 u166 u167 u168 u169 u170 u171 u172 u173 u174 u175 u176 u177 u178 u179 u180 u181 u182 u183 u184 u185 u186 u187 u188 u189 u190 u191 u192 u193 u194 u195 u196 u197 u198 : Value} (hbs : w.heap.size ≤ base) (o : StO base w0 c s) (bx : StBox w0 X c s) (hb : Below w.heap.size w w0) (hs : Shp s)
    (om : OV encY 3 24 base2 w0 v (memL s g (q : Nat))) (ok : OV encI 1 3 base3 w0 vc (ints ks)) (hk : ∀ k ∈ ks, 0 < k ∧ k < s.gs.length ∧ par s.gs k = (g : Int)) (hkl : ks.length ≤ 256)
    (hM : (memL s g (q : Nat)).length = M) (hcnt : a + (ks.filter (fillB s.gs (rdyL s (q : Nat)))).length = M) (hg : g < s.gs.length) (hq : (q : Int) < s.n) :
    Code.wp Try.prog (tailR Try.f6 19) (bodyPost Try.prog Try.f6 fun e w' => e = .returned (.bool true) ∧ Below w.heap.size w w')
      ⟨#[u0, u1, u2, u3, u4, u5, u6, u7, u8, u9, u10, .pointer (some ⟨X, 0, none⟩), .int .i64 (q : Nat), .int .i64 (g : Nat), u14, u15, v, u17, vc, u19, .int .i64 (a : Nat), u21, u22, u23, u24, u25, u26, u27, u28, u29, u30, u31, u32, u33, u34, u35, u36, u37, u38, u39, u40, u41, u42, u43, u44, u45, u46, u47, u48, u49, u50, u51, u52, u53, u54, u55, u56, u57, u58, u59, u60, u61, u62, u63, u64, u65, u66, u67, u68, u69, u70, u71, u72, u73, u74, u75, u76, u77, u78, u79, u80, u81, u82, u83, u84, u85, u86, u87, u88, u89, u90, u91, u92, u93, u94, u95, u96, u97, u98, u99, u100, u101, u102, u103, u104, u105, u106, u107, u108, u109, u110, u111, u112, u113, u114, u115, u116, u117, u118, u119, u120, u121, u122, u123, u124, u125, u126, u127, u128, u129, u130, u131, u132, u133, u134, u135, u136, u137, u138, u139, u140, u141, u142, u143, u144, u145, u146, u147, u148, u149, u150, u151, u152, u153, u154, u155, u156, u157, u158, u159, u160, u161, u162, u163, u164, u165, u166, u167, u168, u169, u170, u171, u172, u173, u174, u175, u176, u177, u178, u179, u180, u181, u182, u183, u184, u185, u186, u187, u188, u189, u190, u191, u192, u193, u194, u195, u196, u197, u198], []⟩ w0 := by
  conv => arg 2; whnf
  conv => arg 4; dsimp only
  obtain ⟨N, hN⟩ : ∃ N : Nat, s.n = (N : Nat) := ⟨s.n.toNat, by have := hs.n1; omega⟩
  obtain ⟨G, hG⟩ : ∃ G, s.gs.length = G := ⟨_, rfl⟩
  have HN := Lib.hid hN
  have HGL := Lib.hid hG
  have hN1 : N ≤ 64 := by have := hs.n2; omega
  have hG1 : G ≤ 256 := by have := (right_iff.1 hs.right).many; omega
  have hM1 : M ≤ 70000 := by have := memL_len s g (q : Nat); have := hs.len; omega
  have hgG : g < G := by omega
  have hqN : q < N := by omega
  have F : Facts w0 [sSA c s, sSB X c s] := ⟨o.at, bx, trivial⟩
  have HF := Lib.hid F
  have HO := Lib.hid o
  have HB := Lib.hid hb
  have HS := Lib.hid hs
  have OM := Lib.hid om
  have OK := Lib.hid ok
  have HK := Lib.hid hk
  have HM := Lib.hid hM
  obtain ⟨L, hL⟩ : ∃ L, ks.length = L := ⟨_, rfl⟩
  have HL := Lib.hid hL
  rw [hL] at hkl
  obtain ⟨Av, cv, rfl⟩ := (om.ev encY_len).shape
  obtain ⟨Ac, cc, rfl⟩ := (ok.ev encI_len).shape
  have HLI := Lib.hid (show (ints ks).length = L by unfold ints; rw [List.length_map]; exact hL)
  rw [HLI.out] at OK ⊢
  rw [hM] at OM ⊢
  obtain ⟨FB, hFB⟩ : ∃ FB, fillB s.gs (rdyL s (q : Nat)) = FB := ⟨_, rfl⟩
  have HFB := Lib.hid hFB
  rw [hFB] at hcnt
  have HC := Lib.hid hcnt
  have ham : a ≤ M := by omega
  have hsz := hb.size
  clear o bx hb hs om ok hk hN hG hL F hM hcnt hFB hg hq
  go_upto_block 2 with fail
  go_cut [20] (fun x wx => x = .int .i64 (M : Nat) ∧ Below w0.heap.size w0 wx)
  case first =>
    go_wp2_with fail
    go_loopg [20, 118] L (fun k x i wr => ∃ j m : Nat, j + k = L ∧ i = .int .i64 j ∧ x = .int .i64 (m : Nat) ∧ a + ((ks.take j).filter FB).length = m ∧ Below w0.heap.size w0 wr)
    case atStart => exact ⟨0, a, by omega, rfl, rfl, by simp, Below.refl _ _⟩
    case round =>
      obtain ⟨j, m, hj, rfl, rfl, hm, hbr⟩ := hrel
      have HJ := Lib.hid hj
      have HBR := Lib.hid hbr
      have HMM := Lib.hid hm
      have hsw := hbr.size
      clear hj
      by_cases hlt : j < L
      · have hd : decide ((j : Int) < (L : Int)) = true := by rw [decide_eq_true_eq]; omega
        obtain ⟨k, hk⟩ : ∃ k, ks[j]? = some k := ⟨_, List.getElem?_eq_getElem (by rw [HL.out]; exact hlt)⟩
        have hmj : m ≤ a + j := by
          have h1 : ((ks.take j).filter FB).length ≤ (ks.take j).length := List.length_filter_le ..
          rw [List.length_take] at h1
          omega
        obtain ⟨hk0, hkG, hkp⟩ := HK.out k (List.mem_of_getElem? hk)
        have CS := Lib.hid (cnt_step FB hk)
        obtain ⟨b, off, c', hv, _, r⟩ := ((OK.out.below hbr).ev encI_len).row (by rw [HLI.out]; omega)
        rw [HLI.out] at hv
        simp only [Value.slice.injEq] at hv
        obtain ⟨rfl, _, rfl⟩ := hv
        have hkc := r.i1 (i := j) (x := (k : Int)) (by unfold ints; rw [List.getElem?_map, hk]; rfl)
        have F2 := HF.out.below hbr
        have FI := Lib.hid (fil_ok HS.out wr c k (q : Nat) (F2.get 0) (by omega) (by omega) (by omega) (by rw [HN.out]; omega))
        rw [Int.toNat_natCast, HFB.out] at FI
        have CM := ch_mem (cpu := (q : Nat)) hkG hk0 hkp
        rw [HFB.out] at CM
        obtain ⟨b0, b1, b2, b3, b4, b5, b6⟩ := (F2.get 1 : StBox wr X c s).cell
        unfold StC.val StC.cells at FI
        have HF2 := Lib.hid F2
        have hkG : k < G := by have := HGL.out; omega
        obtain ⟨z, hz⟩ : ∃ z, FB k = z := ⟨_, rfl⟩
        rw [hz] at FI CS CM
        have HCM := Lib.hid CM
        clear hm hbr r F2 hk hkp hz CM
        go_wp2_with fail
        refine FI.out.mono ?_
        rintro e w3 ⟨rfl, b3'⟩
        have F3 := HF2.out.below b3'
        have B3 := Lib.hid (HBR.out.trans (b3'.mono hsw))
        obtain ⟨y, bs, os, cs, bx, ox, cx, hvs, hcs, hcy, hky⟩ := (F3.get 0 : StAt w3 c s).spot0 HS.out HGL.out HN.out hkG hqN
        clear b0 b1 b2 b3 b4 b5 b6 FI hkc
        obtain ⟨b0, b1, b2, b3, b4, b5, b6⟩ := (F3.get 1 : StBox w3 X c s).cell
        rw [hvs] at b6
        have CT := Lib.hid (contains_key w3 (.slice Av M cv) (memL s g (q : Nat)) ⟨y, true, k⟩ ((OM.out.below B3.out).ev encY_len) (by rw [HM.out]; omega))
        rw [hky] at HCM
        dsimp only at CT
        clear F3 b3' hky hvs
        go_wp2_with fail
        refine CT.out.mono ?_
        rintro e w4 ⟨b, rfl, hbb, b4'⟩
        obtain rfl : b = z := by
          have := hbb.trans HCM.out
          cases b <;> cases z <;> simp at this <;> rfl
        have B4 := Lib.hid (B3.out.trans (b4'.mono B3.out.size))
        clear b4' hbb HCM CT b0 b1 b2 b3 b4 b5 b6 hcs hcy
        cases b
        · go_wp2
          go_roundg (gk - 1)
          case measure => have := HJ.out; omega
          case rel => exact ⟨j + 1, m, by have := HJ.out; omega, by go_num, rfl, by rw [CS.out]; have := HMM.out; first | (rw [if_neg Bool.false_ne_true]; omega) | (rw [if_pos rfl]; omega) | (rw [if_pos trivial]; omega), B4.out⟩
        · go_wp2
          go_roundg (gk - 1)
          case measure => have := HJ.out; omega
          case rel => exact ⟨j + 1, m + 1, by have := HJ.out; omega, by go_num, by go_num, by rw [CS.out]; have := HMM.out; first | (rw [if_neg Bool.false_ne_true]; omega) | (rw [if_pos rfl]; omega) | (rw [if_pos trivial]; omega), B4.out⟩
      · have hd : decide ((j : Int) < (L : Int)) = false := by rw [decide_eq_false_iff_not]; omega
        have hmM : m = M := by
          have h1 := HC.out
          have h2 : ks.take j = ks := List.take_of_length_le (by have := HL.out; omega)
          rw [h2] at hm; omega
        have HmM := Lib.hid hmM
        clear hm hbr hmM
        go_wp2
        go_meet
        exact ⟨by rw [HmM.out], HBR.out⟩
  case rest =>
    obtain ⟨rfl, bb⟩ := hcut
    refine (‹∀ (a : Act) (w : World), Code.wp _ _ _ a w → _› : ∀ (a : Act) (w : World), _ → _) _ _ (filled_t28 w _ X base base2 c s (q : Nat) (g : Nat) (.slice Av M cv) M hbs ⟨s, HO.out.below bb, (HF.out.below bb).get 1, Oth.refl s _, OM.out.below bb, HB.out.trans (bb.mono hsz)⟩ HS.out HM.out (by omega) (by rw [HGL.out]; omega) (by omega) (by rw [HN.out]; omega))
end Go.Proofs.Ytenngfkgfdogjaa
namespace Go.Proofs.Ytenngfkgfdogjaa
open Go Go.RowKit Go.Shelf
attribute [local go_sem] Oper.semAt_some

theorem tcnt_step (F : Tk → Bool) {ks : List Tk} {j : Nat} {k : Tk} (h : ks[j]? = some k) : ((ks.take (j + 1)).filter F).length = ((ks.take j).filter F).length + if F k then 1 else 0 := by
  rw [List.take_add_one, h, Option.toList_some, List.filter_append, List.length_append, List.filter_cons]
  split <;> rfl
theorem newTk (w : World) (t : Tk) {m : Nat} (hm : w.heap.size = m) : ER encT 8 (w.alloc (.cells #[.int .i64 t.id, .int .i64 t.g, .int .i64 t.wt, .int .i64 t.cpu, .int .u64 t.mask, .bool t.rdy, .int .u64 t.v, .int .u32 t.r] 61)) m 0 [t] := by
  subst hm
  exact ((EV.newL (w := w) (e := 61) (xs := [t]) (n := 1) (c := 1) (cs := #[.int .i64 t.id, .int .i64 t.g, .int .i64 t.wt, .int .i64 t.cpu, .int .u64 t.mask, .bool t.rdy, .int .u64 t.v, .int .u32 t.r]) encT_len rfl rfl (Nat.le_refl _)).row3 (by simp))
set_option maxRecDepth 100000 in
set_option maxHeartbeats 6400000 in
theorem filled_t10 (w w0 : World) (X base base2 base3 : Nat) (c : StC) (s : St) (g q : Nat) (v vc : Value) (M : Nat) (ks : List Nat) {u0 u1 u2 u3 u4 u5 u6 u7 u8 u9 u10 u14 u15 u17 u19 u20 u21 u22 u23 u24 u25 u26 u27 u28 u29 u30 u31 u32 u33 u34 u35 u36 u37 u38 u39 u40 u41 u42 u43 u44 u45 u46 u47 u48 u49 u50 u51 u52 u53 u54 u55 u56 u57 u58 u59 u60 u61 u62 u63 u64 u65 u66 u67 u68 u69 u70 u71 u72 u73 u74 u75 u76 u77 u78 u79 u80 u81 u82 u83 u84 u85 u86 u87 u88 u89 u90 u91 u92 u93 u94 u95 u96 u97 u98 u99 u100 u101 u102 u103 u104 u105 u106 u107 u108 u109 u110 u111 u112 u113 u114 u115 u116 u117 u118 u119 u120 u121 u122 u123 u124 u125 u126 u127 u128 u129 u130 u131 u132 u133 u134 u135 u136 u137 u138 u139 u140 u141 u142 u143 u144 u145 u146 u147 u148 u149 u150 u151 u152 u153 u154 u155 u156 u157 u158 u159 u160 u161 u162 u163 u164 u165 u166 u167 u168 u169 u170 u171 u172 u173 u174 u175 u176 u177 u178 u179 u180 u181 u182 u183 u184 u185 u186 u187 u188 u189 u190 u191 u192 u193 u194 u195 u196 u197 u198 : Value} (hbs : w.heap.size ≤ base) (o : StO base w0 c s) (bx : StBox w0 X c s) (hb : Below w.heap.size w w0) (hs : Shp s)
    (om : OV encY 3 24 base2 w0 v (memL s g (q : Nat))) (ok : OV encI 1 3 base3 w0 vc (ints ks)) (hk : ∀ k ∈ ks, 0 < k ∧ k < s.gs.length ∧ par s.gs k = (g : Int)) (hkl : ks.length ≤ 256)
    (hM : (memL s g (q : Nat)).length = M) (hcnt : (s.ts.filter fun t => rdyB (q : Nat) t && decide (t.g = (g : Nat))).length + (ks.filter (fillB s.gs (rdyL s (q : Nat)))).length = M) (hg : g < s.gs.length) (hq : (q : Int) < s.n) :
    Code.wp Try.prog (tailR Try.f6 10) (bodyPost Try.prog Try.f6 fun e w' => e = .returned (.bool true) ∧ Below w.heap.size w w')
      ⟨#[u0, u1, u2, u3, u4, u5, u6, u7, u8, u9, u10, .pointer (some ⟨X, 0, none⟩), .int .i64 (q : Nat), .int .i64 (g : Nat), u14, u15, v, u17, vc, u19, u20, u21, u22, u23, u24, u25, u26, u27, u28, u29, u30, u31, u32, u33, u34, u35, u36, u37, u38, u39, u40, u41, u42, u43, u44, u45, u46, u47, u48, u49, u50, u51, u52, u53, u54, u55, u56, u57, u58, u59, u60, u61, u62, u63, u64, u65, u66, u67, u68, u69, u70, u71, u72, u73, u74, u75, u76, u77, u78, u79, u80, u81, u82, u83, u84, u85, u86, u87, u88, u89, u90, u91, u92, u93, u94, u95, u96, u97, u98, u99, u100, u101, u102, u103, u104, u105, u106, u107, u108, u109, u110, u111, u112, u113, u114, u115, u116, u117, u118, u119, u120, u121, u122, u123, u124, u125, u126, u127, u128, u129, u130, u131, u132, u133, u134, u135, u136, u137, u138, u139, u140, u141, u142, u143, u144, u145, u146, u147, u148, u149, u150, u151, u152, u153, u154, u155, u156, u157, u158, u159, u160, u161, u162, u163, u164, u165, u166, u167, u168, u169, u170, u171, u172, u173, u174, u175, u176, u177, u178, u179, u180, u181, u182, u183, u184, u185, u186, u187, u188, u189, u190, u191, u192, u193, u194, u195, u196, u197, u198], []⟩ w0 := by
  conv => arg 2; whnf
  conv => arg 4; dsimp only
  obtain ⟨T, hT⟩ : ∃ T, s.ts.length = T := ⟨_, rfl⟩
  have HTL := Lib.hid hT
  have hT1 : T ≤ 65535 := by have := hs.len; omega
  obtain ⟨P, hP⟩ : ∃ P : Tk → Bool, (fun t => rdyB (q : Nat) t && decide (t.g = (g : Nat))) = P := ⟨_, rfl⟩
  rw [hP] at hcnt
  obtain ⟨a, ha⟩ : ∃ a, (s.ts.filter P).length = a := ⟨_, rfl⟩
  rw [ha] at hcnt
  have HA := Lib.hid ha
  have HP := Lib.hid hP
  have NX := Lib.hid (fun (W : World) (hB : Below w0.heap.size w0 W) => show _ from (⟨o.below hB, bx.below hB, hb.trans (hB.mono hb.size), om.below hB, ok.below hB⟩ : StO base W c s ∧ StBox W X c s ∧ Below w.heap.size w W ∧ OV encY 3 24 base2 W v (memL s g (q : Nat)) ∧ OV encI 1 3 base3 W vc (ints ks)))
  have HS := Lib.hid hs
  have HK := Lib.hid hk
  have HKL := Lib.hid hkl
  have HM := Lib.hid hM
  have HC := Lib.hid hcnt
  have HG := Lib.hid hg
  have HQ := Lib.hid hq
  have hM1 : M ≤ 70000 := by have := memL_len s g (q : Nat); have := (right_iff.1 hs.right).many; omega
  have hqn : q < 64 := by have := hs.n2; omega
  have hgn : g < 256 := by have := (right_iff.1 hs.right).many; omega
  obtain ⟨Av, cv, hv⟩ := (om.ev encY_len).shape
  rw [hM] at hv
  subst hv
  obtain ⟨At, ct, hvt⟩ := (o.ot.ev encT_len).shape
  rw [hT] at hvt
  have HVT := Lib.hid hvt
  obtain ⟨b0, b1, b2, b3, b4, b5, b6⟩ := bx.cell
  rw [hvt] at b5
  have hsz := hb.size
  clear o bx hb om ok hs hk hkl hM hcnt hg hq hP ha hT hvt b0 b1 b2 b3 b4 b6
  go_upto_block 0 with fail
  go_cut [20] (fun x wx => x = .int .i64 (a : Nat) ∧ Below w0.heap.size w0 wx)
  case first =>
    go_wp2_with fail
    go_loopg [20, 87] T (fun k x i wr => ∃ j m : Nat, j + k = T ∧ i = .int .i64 j ∧ x = .int .i64 (m : Nat) ∧ ((s.ts.take j).filter P).length = m ∧ Below w0.heap.size w0 wr)
    case atStart => exact ⟨0, 0, by omega, rfl, rfl, by simp, Below.refl _ _⟩
    case round =>
      obtain ⟨j, m, hj, rfl, rfl, hm, hbr⟩ := hrel
      have HJ := Lib.hid hj
      have HBR := Lib.hid hbr
      have HMM := Lib.hid hm
      have hsw := hbr.size
      clear hj b5
      by_cases hlt : j < T
      · have hd : decide ((j : Int) < (T : Int)) = true := by rw [decide_eq_true_eq]; omega
        obtain ⟨t, ht⟩ : ∃ t, s.ts[j]? = some t := ⟨_, List.getElem?_eq_getElem (by rw [HTL.out]; exact hlt)⟩
        have hmj : m ≤ j := by
          have h1 : ((s.ts.take j).filter P).length ≤ (s.ts.take j).length := List.length_filter_le ..
          rw [List.length_take] at h1
          omega
        have CS := Lib.hid (tcnt_step P ht)
        have HT := Lib.hid ht
        obtain ⟨o, bx, bw, om, ok⟩ := NX.out wr hbr
        obtain ⟨b, off, c', hv, _, r⟩ := (o.ot.ev encT_len).row (by rw [HTL.out]; omega)
        rw [HTL.out, HVT.out] at hv
        simp only [Value.slice.injEq] at hv
        obtain ⟨rfl, _, rfl⟩ := hv
        obtain ⟨c0, c1, c2, c3, c4, c5, c6, c7⟩ := r.tk ht
        clear o bx bw om ok r ht hm hbr
        go_upto_region 14 with fail
        have A1 := bel_alloc wr (.cells #[.int .i64 t.id, .int .i64 t.g, .int .i64 t.wt, .int .i64 t.cpu, .int .u64 t.mask, .bool t.rdy, .int .u64 t.v, .int .u32 t.r] 61)
        have K := newTk wr t rfl
        generalize wr.alloc (.cells #[.int .i64 t.id, .int .i64 t.g, .int .i64 t.wt, .int .i64 t.cpu, .int .u64 t.mask, .bool t.rdy, .int .u64 t.v, .int .u32 t.r] 61) = w1 at A1 K ⊢
        clear c0 c1 c2 c3 c4 c5 c6 c7
        obtain ⟨d0, d1, d2, d3, d4, d5, d6, d7⟩ := K.tk (i := 0) rfl
        simp only [Nat.zero_mul, Nat.add_zero, Nat.zero_add] at d0 d1 d2 d3 d4 d5 d6 d7
        have BW := Lib.hid (HBR.out.trans (A1.mono hsw))
        have hPt : P t = ((t.rdy && decide (t.cpu = (q : Nat))) && decide (t.g = (g : Nat))) := by rw [← HP.out]; rfl
        have CT := Lib.hid (contains_key w1 (.slice Av M cv) (memL s g (q : Nat)) ⟨t.v, false, t.id⟩ ((NX.out w1 BW.out).2.2.2.1.ev encY_len) (by rw [HM.out]; omega))
        dsimp only at CT
        have TM := Lib.hid (fun h : P t = true => tk_mem (s := s) (g := (g : Nat)) (cpu := (q : Nat)) (List.mem_of_getElem? HT.out) (by rw [← HP.out] at h; exact h))
        generalize P t = z at hPt CS TM
        obtain ⟨rd, hrd⟩ : ∃ rd, t.rdy = rd := ⟨_, rfl⟩
        rw [hrd] at d5 hPt
        clear A1 K d2 d4 d7 hrd
        cases rd
        · have hz : z = false := by rw [hPt]; rfl
          subst hz
          clear hPt
          go_wp2
          go_roundg (gk - 1)
          case measure => have := HJ.out; omega
          case rel => exact ⟨j + 1, m, by have := HJ.out; omega, by go_num, rfl, by rw [CS.out]; have := HMM.out; first | (rw [if_neg Bool.false_ne_true]; omega) | (rw [if_pos rfl]; omega) | (rw [if_pos trivial]; omega), BW.out⟩
        · rcases hcq : decide (t.cpu = (q : Nat)) with _ | _
          · have hz : z = false := by rw [hPt, hcq]; rfl
            have hcb : (t.cpu == ((q : Nat) : Int)) = false := hcq
            subst hz
            clear hPt
            go_wp2
            go_roundg (gk - 1)
            case measure => have := HJ.out; omega
            case rel => exact ⟨j + 1, m, by have := HJ.out; omega, by go_num, rfl, by rw [CS.out]; have := HMM.out; first | (rw [if_neg Bool.false_ne_true]; omega) | (rw [if_pos rfl]; omega) | (rw [if_pos trivial]; omega), BW.out⟩
          · have hcb : (t.cpu == ((q : Nat) : Int)) = true := hcq
            rcases hgq : decide (t.g = (g : Nat)) with _ | _
            · have hz : z = false := by rw [hPt, hcq, hgq]; rfl
              have hgb : (t.g == ((g : Nat) : Int)) = false := hgq
              subst hz
              clear hPt
              go_wp2
              go_roundg (gk - 1)
              case measure => have := HJ.out; omega
              case rel => exact ⟨j + 1, m, by have := HJ.out; omega, by go_num, rfl, by rw [CS.out]; have := HMM.out; first | (rw [if_neg Bool.false_ne_true]; omega) | (rw [if_pos rfl]; omega) | (rw [if_pos trivial]; omega), BW.out⟩
            · have hz : z = true := by rw [hPt, hcq, hgq]; rfl
              have hgb : (t.g == ((g : Nat) : Int)) = true := hgq
              subst hz
              clear hPt
              go_wp2_with fail
              refine CT.out.mono ?_
              rintro e w4 ⟨b9, rfl, hbb, b4'⟩
              obtain rfl : b9 = true := hbb.2 (TM.out (by first | rfl | trivial))
              have B4 := Lib.hid (BW.out.trans (b4'.mono BW.out.size))
              clear b4' hbb CT TM d0 d1 d3 d5 d6
              go_wp2
              go_roundg (gk - 1)
              case measure => have := HJ.out; omega
              case rel => exact ⟨j + 1, m + 1, by have := HJ.out; omega, by go_num, by go_num, by rw [CS.out]; have := HMM.out; first | (rw [if_pos rfl]; omega) | (rw [if_pos trivial]; omega), B4.out⟩
      · have hd : decide ((j : Int) < (T : Int)) = false := by rw [decide_eq_false_iff_not]; omega
        have hmM : m = a := by
          have h2 : s.ts.take j = s.ts := List.take_of_length_le (by have := HTL.out; omega)
          rw [h2, HA.out] at hm; exact hm.symm
        have HmM := Lib.hid hmM
        clear hm hbr hmM
        go_wp2
        go_meet
        exact ⟨by rw [HmM.out], HBR.out⟩
  case rest =>
    obtain ⟨rfl, bb⟩ := hcut
    obtain ⟨o, bx, bw, om, ok⟩ := NX.out _ bb
    refine (‹∀ (a : Act) (w : World), Code.wp _ _ _ a w → _› : ∀ (a : Act) (w : World), _ → _) _ _ (filled_t19 w _ X base base2 base3 c s g q a (.slice Av M cv) vc M ks hbs o bx bw HS.out om ok HK.out HKL.out HM.out HC.out HG.out HQ.out)
end Go.Proofs.Ytenngfkgfdogjaa
namespace Go.Proofs.Ytenngfkgfdogjaa
open Go Go.RowKit Go.Shelf
attribute [local go_sem] Oper.semAt_some

theorem chL_eq {gs : List (Int × Int)} {g : Nat} (h : GOK gs) (hg : g < gs.length) : childL gs (g : Nat) = ints ((List.range gs.length).filter (childB gs g)) := by
  unfold childL
  rw [if_pos (there_zero.2 ⟨h, fun z hz => by simp at hz; subst hz; omega⟩), Int.toNat_natCast]; rfl
theorem fil_cnt (s : St) (g : Nat) (cpu : Int) : (s.ts.filter fun t => rdyB cpu t && decide (t.g = (g : Nat))).length + (((List.range s.gs.length).filter (childB s.gs g)).filter (fillB s.gs (rdyL s cpu))).length = (memL s g cpu).length := by
  rw [memL_count, List.filter_filter]
  congr 3
  funext x
  unfold isCh childB
  rw [Bool.and_comm]
  rfl
set_option maxRecDepth 100000 in
set_option maxHeartbeats 6400000 in
theorem filled_t4 (w w0 : World) (X base : Nat) (c : StC) (s : St) (which of_ : Nat) {u0 u1 u2 u5 u6 u7 u8 u9 u10 u12 u13 u14 u15 u16 u17 u18 u19 u20 u21 u22 u23 u24 u25 u26 u27 u28 u29 u30 u31 u32 u33 u34 u35 u36 u37 u38 u39 u40 u41 u42 u43 u44 u45 u46 u47 u48 u49 u50 u51 u52 u53 u54 u55 u56 u57 u58 u59 u60 u61 u62 u63 u64 u65 u66 u67 u68 u69 u70 u71 u72 u73 u74 u75 u76 u77 u78 u79 u80 u81 u82 u83 u84 u85 u86 u87 u88 u89 u90 u91 u92 u93 u94 u95 u96 u97 u98 u99 u100 u101 u102 u103 u104 u105 u106 u107 u108 u109 u110 u111 u112 u113 u114 u115 u116 u117 u118 u119 u120 u121 u122 u123 u124 u125 u126 u127 u128 u129 u130 u131 u132 u133 u134 u135 u136 u137 u138 u139 u140 u141 u142 u143 u144 u145 u146 u147 u148 u149 u150 u151 u152 u153 u154 u155 u156 u157 u158 u159 u160 u161 u162 u163 u164 u165 u166 u167 u168 u169 u170 u171 u172 u173 u174 u175 u176 u177 u178 u179 u180 u181 u182 u183 u184 u185 u186 u187 u188 u189 u190 u191 u192 u193 u194 u195 u196 u197 u198 : Value} (hbs : w.heap.size ≤ base) (o : StO base w0 c s) (bx : StBox w0 X c s) (hb : Below w.heap.size w w0) (hs : Shp s) (hw : which < 256) (ho : of_ < 256) :
    Code.wp Try.prog (tailR Try.f6 4) (bodyPost Try.prog Try.f6 fun e w' => e = .returned (.bool true) ∧ Below w.heap.size w w')
      ⟨#[u0, u1, u2, .int .u8 (which : Nat), .int .u8 (of_ : Nat), u5, u6, u7, u8, u9, u10, .pointer (some ⟨X, 0, none⟩), u12, u13, u14, u15, u16, u17, u18, u19, u20, u21, u22, u23, u24, u25, u26, u27, u28, u29, u30, u31, u32, u33, u34, u35, u36, u37, u38, u39, u40, u41, u42, u43, u44, u45, u46, u47, u48, u49, u50, u51, u52, u53, u54, u55, u56, u57, u58, u59, u60, u61, u62, u63, u64, u65, u66, u67, u68, u69, u70, u71, u72, u73, u74, u75, u76, u77, u78, u79, u80, u81, u82, u83, u84, u85, u86, u87, u88, u89, u90, u91, u92, u93, u94, u95, u96, u97, u98, u99, u100, u101, u102, u103, u104, u105, u106, u107, u108, u109, u110, u111, u112, u113, u114, u115, u116, u117, u118, u119, u120, u121, u122, u123, u124, u125, u126, u127, u128, u129, u130, u131, u132, u133, u134, u135, u136, u137, u138, u139, u140, u141, u142, u143, u144, u145, u146, u147, u148, u149, u150, u151, u152, u153, u154, u155, u156, u157, u158, u159, u160, u161, u162, u163, u164, u165, u166, u167, u168, u169, u170, u171, u172, u173, u174, u175, u176, u177, u178, u179, u180, u181, u182, u183, u184, u185, u186, u187, u188, u189, u190, u191, u192, u193, u194, u195, u196, u197, u198], []⟩ w0 := by
  conv => arg 2; whnf
  conv => arg 4; dsimp only
  obtain ⟨N, hN⟩ : ∃ N : Nat, s.n = (N : Nat) := ⟨s.n.toNat, by have := hs.n1; omega⟩
  obtain ⟨G, hG⟩ : ∃ G, s.gs.length = G := ⟨_, rfl⟩
  have HN := Lib.hid hN
  have HGL := Lib.hid hG
  have hN0 : 1 ≤ N := by have := hs.n1; omega
  have hN1 : N ≤ 64 := by have := hs.n2; omega
  have hG1 : G ≤ 256 := by have := (right_iff.1 hs.right).many; omega
  have hG0 : 1 ≤ G := by have := (right_iff.1 hs.right).pos; omega
  have HO := Lib.hid o
  have HBX := Lib.hid bx
  have HB := Lib.hid hb
  have HS := Lib.hid hs
  obtain ⟨Ag, cg, hvg⟩ := (o.og.ev encG_len).shape
  have HVG := Lib.hid hvg
  rw [hG] at hvg
  obtain ⟨b0, b1, b2, b3, b4, b5, b6⟩ := bx.cell
  rw [hN] at b0
  rw [hvg] at b2
  have hsz := hb.size
  have n0 : ¬ (N : Int) = 0 := by omega
  have g0 : ¬ (G : Int) = 0 := by omega
  clear o bx hb hs hN hG hvg b1 b3 b4 b5 b6
  obtain ⟨q, hq⟩ : ∃ q, which % N = q := ⟨_, rfl⟩
  obtain ⟨g, hg⟩ : ∃ g, of_ % G = g := ⟨_, rfl⟩
  have e1 : (which : Int) % (N : Int) = (q : Int) := by rw [← hq]; rfl
  have e2 : (of_ : Int) % (G : Int) = (g : Int) := by rw [← hg]; rfl
  have hqN : q < N := by rw [← hq]; exact Nat.mod_lt _ hN0
  have hgG : g < G := by rw [← hg]; exact Nat.mod_lt _ hG0
  have E1 := Lib.hid e1
  have E2 := Lib.hid e2
  have HQN := Lib.hid hqN
  have HGG := Lib.hid hgG
  clear hq hg e1 e2
  go_wp2_with fail
  go_quiet (fail)
  have B1 := Lib.hid (below_drewN (Below.refl w0.heap.size w0) nq)
  generalize w0.drewN nq = w1 at B1 ⊢
  rw [E1.out, E2.out]
  clear b0 b2 n0 g0
  have FI := Lib.hid (fil_ok HS.out w1 c g q (HO.out.below B1.out).at (by omega) (by rw [HGL.out]; omega) (by omega) (by rw [HN.out]; omega))
  rw [Int.toNat_natCast, memL_fill HS.out (by rw [HGL.out]; exact hgG)] at FI
  have hml := memL_len s g (q : Nat)
  have hMl : (memL s g (q : Nat)).length ≤ 70000 := by have := HS.out.len; have := HGL.out; omega
  obtain ⟨M, hM⟩ : ∃ M, (memL s g (q : Nat)).length = M := ⟨_, rfl⟩
  rw [hM] at FI hMl
  obtain ⟨z, hz⟩ : ∃ z, decide (0 < M) = z := ⟨_, rfl⟩
  have hz2 : decide ((0 : Int) < (M : Int)) = z := by rw [← hz]; exact decide_eq_decide.2 (by omega)
  rw [hz] at FI
  have HZ := Lib.hid hz
  have HZ2 := Lib.hid hz2
  clear hz hz2
  have HM := Lib.hid hM
  obtain ⟨b0, b1, b2, b3, b4, b5, b6⟩ := (HBX.out.below B1.out).cell
  rw [HN.out] at b0
  unfold StC.val StC.cells at FI
  rw [HN.out] at FI
  clear hml hM
  go_wp2_with fail
  refine FI.out.mono ?_
  rintro e w2 ⟨rfl, b2'⟩
  have B2 := Lib.hid (B1.out.trans (b2'.mono B1.out.size))
  clear b2' FI b0 b1 b2 b3 b4 b5 b6
  have ME := Lib.hid (mem_ok HS.out w2 c g q (HO.out.below B2.out).at (by omega) (by rw [HGL.out]; omega) (by omega) (by rw [HN.out]; omega))
  obtain ⟨b0, b1, b2, b3, b4, b5, b6⟩ := (HBX.out.below B2.out).cell
  rw [HN.out] at b0
  unfold StC.val StC.cells at ME
  rw [HN.out] at ME
  go_wp2_with fail
  refine ME.out.mono ?_
  rintro e w3 ⟨v, rfl, om, b3'⟩
  have B3 := Lib.hid (B2.out.trans (b3'.mono B2.out.size))
  have OM := Lib.hid om
  clear b3' ME b0 b1 b2 b3 b4 b5 b6 om
  obtain ⟨b0, b1, b2, b3, b4, b5, b6⟩ := (HBX.out.below B3.out).cell
  have CH := Lib.hid (children_ok w3 c.vg s.gs g ((HO.out.below B3.out).og.ev encG_len) (by rw [HGL.out]; omega))
  have GK := Lib.hid (right_iff.1 HS.out.right)
  rw [chL_eq GK.out (by rw [HGL.out]; exact hgG), there_zero.2 ⟨GK.out, fun z hz => by simp at hz; subst hz; have := HGL.out; omega⟩] at CH
  go_wp2_with fail
  refine CH.out.mono ?_
  rintro e w4 ⟨vc, rfl, oc, b4'⟩
  have B4 := Lib.hid (B3.out.trans (b4'.mono B3.out.size))
  have OM4 := Lib.hid (OM.out.below b4')
  have OC := Lib.hid oc
  obtain ⟨Av, cv, hv⟩ := (OM.out.ev encY_len).shape
  rw [HM.out] at hv
  subst hv
  clear b4' CH b0 b1 b2 b3 b4 b5 b6 oc OM
  go_upto_region 8 with fail
  go_cut [83] (fun x wx => x = .bool false ∧ wx = w4)
  case first =>
    have hz := HZ.out
    have hz2 := HZ2.out
    cases z
    all_goals
      go_wp2_with fail
      go_meet
      exact ⟨rfl, rfl⟩
  case rest =>
  obtain ⟨rfl, rfl⟩ := hcut
  obtain ⟨w5, hw5⟩ : ∃ w5, w5 = wc := ⟨_, rfl⟩
  subst hw5
  go_upto_if 83 with fail
  go_cut [] (fun wx => wx = w5)
  case first =>
    go_wp2_with fail
    go_meet
    rfl
  case rest =>
    subst hcut
    refine (‹∀ (a : Act) (w : World), Code.wp _ _ _ a w → _› : ∀ (a : Act) (w : World), _ → _) _ _ (filled_t10 w _ X base _ _ c s g q (.slice Av M cv) vc M ((List.range s.gs.length).filter (childB s.gs g)) hbs (HO.out.below B4.out) (HBX.out.below B4.out) (HB.out.trans (B4.out.mono hsz)) HS.out OM4.out OC.out (fun k hk => ?_) ?_ HM.out ?_ (by rw [HGL.out]; exact hgG) (by rw [HN.out]; omega))
    · obtain ⟨h1, h2⟩ := List.mem_filter.1 hk
      unfold childB at h2
      simp only [Bool.and_eq_true, decide_eq_true_eq, beq_iff_eq] at h2
      exact ⟨h2.1, List.mem_range.1 h1, h2.2⟩
    · have h1 : ((List.range s.gs.length).filter (childB s.gs g)).length ≤ (List.range s.gs.length).length := List.length_filter_le ..
      rw [List.length_range] at h1
      have := HGL.out
      omega
    · rw [fil_cnt]; exact HM.out
set_option maxRecDepth 100000 in
set_option maxHeartbeats 3200000 in
theorem filled_t3 (w w0 : World) (vg vt : Value) (cpus which of_ : Nat) (ns : List Nat) (ts : List Sm) {u5 u6 u7 u8 u9 u10 u11 u12 u13 u14 u15 u16 u17 u18 u19 u20 u21 u22 u23 u24 u25 u26 u27 u28 u29 u30 u31 u32 u33 u34 u35 u36 u37 u38 u39 u40 u41 u42 u43 u44 u45 u46 u47 u48 u49 u50 u51 u52 u53 u54 u55 u56 u57 u58 u59 u60 u61 u62 u63 u64 u65 u66 u67 u68 u69 u70 u71 u72 u73 u74 u75 u76 u77 u78 u79 u80 u81 u82 u83 u84 u85 u86 u87 u88 u89 u90 u91 u92 u93 u94 u95 u96 u97 u98 u99 u100 u101 u102 u103 u104 u105 u106 u107 u108 u109 u110 u111 u112 u113 u114 u115 u116 u117 u118 u119 u120 u121 u122 u123 u124 u125 u126 u127 u128 u129 u130 u131 u132 u133 u134 u135 u136 u137 u138 u139 u140 u141 u142 u143 u144 u145 u146 u147 u148 u149 u150 u151 u152 u153 u154 u155 u156 u157 u158 u159 u160 u161 u162 u163 u164 u165 u166 u167 u168 u169 u170 u171 u172 u173 u174 u175 u176 u177 u178 u179 u180 u181 u182 u183 u184 u185 u186 u187 u188 u189 u190 u191 u192 u193 u194 u195 u196 u197 u198 : Value} (hb : Below w.heap.size w w0) (hc1 : cpus < 256) (hw : which < 256) (ho : of_ < 256) (hg : U16 w0 vg ns) (ht : SmArg w0 vt ts) :
    Code.wp Try.prog (tailR Try.f6 3) (bodyPost Try.prog Try.f6 fun e w' => e = .returned (.bool true) ∧ Below w.heap.size w w')
      ⟨#[.int .u8 (cpus : Nat), vg, vt, .int .u8 (which : Nat), .int .u8 (of_ : Nat), u5, u6, u7, u8, u9, u10, u11, u12, u13, u14, u15, u16, u17, u18, u19, u20, u21, u22, u23, u24, u25, u26, u27, u28, u29, u30, u31, u32, u33, u34, u35, u36, u37, u38, u39, u40, u41, u42, u43, u44, u45, u46, u47, u48, u49, u50, u51, u52, u53, u54, u55, u56, u57, u58, u59, u60, u61, u62, u63, u64, u65, u66, u67, u68, u69, u70, u71, u72, u73, u74, u75, u76, u77, u78, u79, u80, u81, u82, u83, u84, u85, u86, u87, u88, u89, u90, u91, u92, u93, u94, u95, u96, u97, u98, u99, u100, u101, u102, u103, u104, u105, u106, u107, u108, u109, u110, u111, u112, u113, u114, u115, u116, u117, u118, u119, u120, u121, u122, u123, u124, u125, u126, u127, u128, u129, u130, u131, u132, u133, u134, u135, u136, u137, u138, u139, u140, u141, u142, u143, u144, u145, u146, u147, u148, u149, u150, u151, u152, u153, u154, u155, u156, u157, u158, u159, u160, u161, u162, u163, u164, u165, u166, u167, u168, u169, u170, u171, u172, u173, u174, u175, u176, u177, u178, u179, u180, u181, u182, u183, u184, u185, u186, u187, u188, u189, u190, u191, u192, u193, u194, u195, u196, u197, u198], []⟩ w0 := by
  conv => arg 2; whnf
  conv => arg 4; dsimp only
  have HB := Lib.hid hb
  have HG := Lib.hid hg
  have HT := Lib.hid ht
  have HS := Lib.hid (show U16 w0 (.slice none 0 0) [] from ⟨EV.nil _ _, fun n h => absurd h (by simp), by decide⟩)
  have hsz := hb.size
  clear hb hg ht
  apply wp_seq_k; intro K0 hK0
  go_cut [11] (fun v wx => ∃ c s X, v = .pointer (some ⟨X, 0, none⟩) ∧ StO w0.heap.size wx c s ∧ StBox wx X c s ∧ Sim (madS cpus ns ts []) s ∧ RowsB s ∧ Below w0.heap.size w0 wx)
  case first =>
    go_wp2_with fail
    refine (made_law w0 cpus vg vt (.slice none 0 0) ns ts [] hc1 HG.out HT.out HS.out).mono ?_
    rintro e w1 ⟨⟨vg', vc', vu', vt', vs'⟩, s, rfl, o, sim, rb, bb⟩
    obtain ⟨A1, c1, h1⟩ := (o.og.ev encG_len).shape
    obtain ⟨A2, c2, h2⟩ := (o.oc.ev encI_len).shape
    obtain ⟨A3, c3, h3⟩ := (o.ou.ev encI_len).shape
    obtain ⟨A4, c4, h4⟩ := (o.ot.ev encT_len).shape
    obtain ⟨A5, c5, h5⟩ := (o.os.ev encR_len).shape
    dsimp only at h1 h2 h3 h4 h5
    subst h1 h2 h3 h4 h5
    have O := Lib.hid o
    have S := Lib.hid sim
    have B := Lib.hid bb
    have RB := Lib.hid rb
    clear o sim bb rb
    unfold StC.val StC.cells
    dsimp only
    go_wp2_with fail
    go_meet
    have B2 := below_step B.out (bel_alloc w1 (.cells #[.int .i64 s.n, .int .u64 s.cr, .slice A1 s.gs.length c1, .slice A2 s.cl.length c2, .slice A3 s.cu.length c3, .slice A4 s.ts.length c4, .slice A5 s.ss.length c5] 38))
    exact ⟨⟨.slice A1 s.gs.length c1, .slice A2 s.cl.length c2, .slice A3 s.cu.length c3, .slice A4 s.ts.length c4, .slice A5 s.ss.length c5⟩, s, _, rfl, O.out.below (bel_alloc _ _), StBox.new w1 ⟨.slice A1 s.gs.length c1, .slice A2 s.cl.length c2, .slice A3 s.cu.length c3, .slice A4 s.ts.length c4, .slice A5 s.ss.length c5⟩ s, S.out, RB.out, B2⟩
  case rest =>
  obtain ⟨c, s, X, rfl, o, bx, sim, rb, bb⟩ := hcut
  have hsh := made_shp HG.out.2.1 HT.out.2.1 sim
  refine hK0 _ _ (filled_t4 w _ X w0.heap.size c s which of_ hsz o bx (HB.out.trans (bb.mono hsz)) hsh hw ho)
set_option maxRecDepth 100000 in
set_option maxHeartbeats 3200000 in
theorem filledLaw_walk (w : World) (vg vt : Value) (cpus which of_ : Nat) (ns : List Nat) (ts : List Sm) (hc1 : cpus < 256) (hw : which < 256) (ho : of_ < 256) (hg : U16 w vg ns) (ht : SmArg w vt ts) :
    Calls Try.prog 6 #[.int .u8 (cpus : Nat), vg, vt, .int .u8 (which : Nat), .int .u8 (of_ : Nat)] w fun e w' => e = .returned (.bool true) ∧ Below w.heap.size w w' := by
  have HG := Lib.hid hg
  have HT := Lib.hid ht
  clear hg ht
  go_enter Try.func6, Try.ntmps6
  go_wp2_with fail
  refine (awake_ok w).mono ?_
  rintro e w2 ⟨rfl, bb⟩
  go_upto_if 31 with fail
  go_cut [] (fun wx => wx = w2)
  case first =>
    go_wp2_with fail
    go_meet
    rfl
  case rest =>
    subst hcut
    refine (‹∀ (a : Act) (w : World), Code.wp _ _ _ a w → _› : ∀ (a : Act) (w : World), _ → _) _ _ (filled_t3 w _ vg vt cpus which of_ ns ts bb hc1 hw ho (HG.out.below bb) (HT.out.below bb))
end Go.Proofs.Ytenngfkgfdogjaa
