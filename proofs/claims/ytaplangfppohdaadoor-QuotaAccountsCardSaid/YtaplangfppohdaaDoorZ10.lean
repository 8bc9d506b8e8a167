/- Account's closure: what look asks of it. -/
import Derived.Test.YtaplangfppohdaaDoorZ9
import Derived.Deep.CutBlock
set_option linter.unusedVariables false
set_option linter.unusedSimpArgs false
set_option linter.unusedSectionVars false
namespace Go.Proofs.YtaplangfppohdaaDoor
open Go.RowKit Go.Shelf Go.Maps
attribute [local go_sem] Oper.semAt_some

theorem cutA_ge {t n p : Nat} (h1 : 1 ≤ n) (h2 : n ≤ t) (hp : 1 ≤ p) : ∀ k, k ≤ manyN t n p → t - n + k ≤ cutA t (t - n) p k
  | 0, _ => by simp [cutA]
  | k + 1, hk => by
    have h3 := cutA_ge h1 h2 hp k (by omega)
    obtain ⟨_, _, f3, _⟩ := part_span h1 h2 hp (show k < manyN t n p by omega)
    omega
theorem manyN_le2 {t n p : Nat} (h1 : 1 ≤ n) (h2 : n ≤ t) (hp : 1 ≤ p) : manyN t n p ≤ n := by
  have h3 := cutA_ge h1 h2 hp (manyN t n p) (Nat.le_refl _)
  rw [show cutA t (t - n) p (manyN t n p) = t from cutA_end (t := t) (a := t - n) hp (by omega) rfl] at h3
  omega
theorem sum_le_mul {α : Type} (f : α → Nat) (m : Nat) : ∀ l : List α, (∀ x ∈ l, f x ≤ m) → (l.map f).sum ≤ l.length * m
  | [], _ => by simp
  | x :: r, h => by
    rw [List.map_cons, List.sum_cons, List.length_cons, Nat.add_mul, Nat.one_mul]
    have h1 := h x (by simp)
    have h2 := sum_le_mul f m r (fun y hy => h y (by simp [hy]))
    omega
theorem allN_le {gs : List (Int × Int)} {rs : List Ru} {o : List Rn} {n m : Nat} (hr : ∀ i, i < rs.length → RuOk m (ruAt rs i)) (ho : ∀ x ∈ o, RnOk n x) : allN gs rs o ≤ o.length * (rs.length * 4294967295) := by
  unfold allN
  refine sum_le_mul _ _ _ (fun t ht => ?_)
  unfold cntT
  refine sum_le_mul _ _ _ (fun r hr' => ?_)
  obtain ⟨i, hi, rfl⟩ := List.getElem_of_mem hr'
  have h1 := hr i hi
  have h2 : rs[i] = ruAt rs i := by have := ru_get hi; rw [List.getElem?_eq_getElem hi] at this; exact Option.some.inj this
  rw [← h2] at h1
  have h3 := ho t ht
  unfold RuOk at h1
  unfold RnOk at h3
  split
  · unfold tickN
    have := manyN_le2 (t := t.time.toNat) (n := t.ticks.toNat) (p := rs[i].p.toNat) (by omega) (by omega) (by omega)
    omega
  · omega
/-- What Account's closure has made of the ticks o. -/
def AccJ (B0 : Nat) (W0' : World) (gl c1 c2 : Nat) (A1 A2 : Option Addr) (G0 R0 A0 U0 Mb : Nat) (gs : List (Int × Int)) (rs : List Ru) (X : Nat → Prop) (o : List Rn) (w : World) : Prop :=
  ∃ F N, N ≤ 65536 ∧ (allN gs rs o ≤ 65536 → N ≤ allN gs rs o) ∧ AccW B0 W0' gl rs.length c1 c2 A1 A2 G0 R0 A0 U0 Mb (allN gs rs o) N (Mf gs rs o) F w ∧ ∀ k, X k ↔ XS G0 R0 A0 U0 Mb (allN gs rs o) F k

set_option maxRecDepth 100000 in
set_option maxHeartbeats 3200000 in
theorem acc1_ok (W0' w : World) (B0 c1 c2 G0 R0 A0 U0 Mb : Nat) (A1 A2 : Option Addr) (gs : List (Int × Int)) (rs : List Ru) (X : Nat → Prop) (o : List Rn) (e : Ev) (gr : Int)
    (hB : W0'.heap.size = B0) (hg : EV encG 2 W0' (.slice A1 gs.length c1) gs) (hr : EV encRu 3 W0' (.slice A2 rs.length c2) rs) (lg : gs.length ≤ 100000) (lr : rs.length ≤ 1000) (hro : ∀ i, i < rs.length → RuOk gs.length (ruAt rs i)) (hok : GOK gs)
    (hj : AccJ B0 W0' gs.length c1 c2 A1 A2 G0 R0 A0 U0 Mb gs rs X o w) (he : EvOk e) (hol : o.length < 1000000) (ht : ∀ x ∈ o ++ [⟨e.cpu, e.time, e.ticks, gr⟩], RnOk gs.length x) (hap : Apart (o ++ [⟨e.cpu, e.time, e.ticks, gr⟩])) :
    Calls Tryd.prog 39 (#[evA e, .int .i64 gr] ++ #[.pointer (some ⟨G0, 0, none⟩), .pointer (some ⟨R0, 0, none⟩), .pointer (some ⟨A0, 0, none⟩), .pointer (some ⟨U0, 0, none⟩)]) w fun r w' =>
      (∃ v, r = .returned v) ∧ ∃ X', AccJ B0 W0' gs.length c1 c2 A1 A2 G0 R0 A0 U0 Mb gs rs X' (o ++ [⟨e.cpu, e.time, e.ticks, gr⟩]) w' ∧ (∀ k, X' k → X k ∨ w.heap.size ≤ k) ∧ Mod X w w' := by
  obtain ⟨F, N, n1, n2, hacc, hX⟩ := hj
  have hAB := Lib.hid (show allN gs rs o ≤ 4611686018427387904 from by
    have h1 := allN_le (gs := gs) hro (fun x hx => ht x (List.mem_append_left _ hx))
    have h2 : o.length * (rs.length * 4294967295) ≤ 1000000 * (1000 * 4294967295) := Nat.mul_le_mul (by omega) (Nat.mul_le_mul_right _ lr)
    omega)
  have hXb : ∀ k, X k → k < w.heap.size := fun k hk => by obtain ⟨_, ob, h, _⟩ := hacc.blk k ((hX k).1 hk); exact (Array.getElem?_eq_some_iff.1 h).1
  obtain ⟨t, htt⟩ : ∃ t : Rn, t = ⟨e.cpu, e.time, e.ticks, gr⟩ := ⟨_, rfl⟩
  have HFIN := Lib.hid (fun (S1 E : Nat) (ev : Array Value) (vp : Value) (pl : List Int) (Ds : List Nat) (w' : World) (F : Lit → Option Value) (N : Nat) (h : RuI W0' w B0 gs.length c1 c2 A1 A2 G0 R0 A0 U0 Mb S1 gs rs o t X E ev vp pl rs.length Ds w' F N) (w'' : World) (hm : Mod (fun k => k ∈ Ds) w' w'') =>
    (show (∃ v, Ending.returned (.tuple #[]) = .returned v) ∧ ∃ X', AccJ B0 W0' gs.length c1 c2 A1 A2 G0 R0 A0 U0 Mb gs rs X' (o ++ [t]) w'' ∧ (∀ k, X' k → X k ∨ w.heap.size ≤ k) ∧ Mod X w w'' from by
      unfold RuI at h
      rw [List.take_length, ← allN_snoc, Mi_end] at h
      refine ⟨⟨_, rfl⟩, XS G0 R0 A0 U0 Mb (allN gs rs (o ++ [t])) F, ⟨F, N, h.n1, h.n2, h.acc.mod hB hm (fun k hk => ⟨by have := h.mrk.2 k hk; have := hacc.low.size; omega, fun hx => ?_⟩), fun k => Iff.rfl⟩, fun k hk => ?_, ?_⟩
      · obtain ⟨_, ob, h1, h2⟩ := h.acc.blk k hx
        rw [h.mrk.1.2 k hk] at h1
        cases h1; cases h2
      · rcases hk with hk | hk | hk | hk | hk | ⟨ha, kl, v, hv, ho⟩
        · exact .inl ((hX k).2 (.inl hk))
        · exact .inl ((hX k).2 (.inr (.inl hk)))
        · exact .inl ((hX k).2 (.inr (.inr (.inl hk))))
        · exact .inl ((hX k).2 (.inr (.inr (.inr (.inl hk)))))
        · exact .inl ((hX k).2 (.inr (.inr (.inr (.inr (.inl hk))))))
        · exact h.loc ha kl v k hv ho
      · exact h.md.trans_new hm (fun k hk hd => absurd (h.mrk.2 k hd) (by omega))))
  have HPA := Lib.hid (fun (wx : World) (h : Below w.heap.size w wx) => path_ok wx _ gs gr (hg.below (hB ▸ hacc.low.trans (h.mono (hB ▸ hacc.low.size)))) lg)
  have HG0 := Lib.hid hacc.g0
  have HACC := Lib.hid hacc
  have HX := Lib.hid hX
  have HXB := Lib.hid hXb
  have HB := Lib.hid hB
  have HRS := Lib.hid hr
  have HN := Lib.hid (And.intro n1 n2)
  have HLG := Lib.hid lg
  have HLR := Lib.hid lr
  have HRO := Lib.hid hro
  have HOK := Lib.hid hok
  have HT := Lib.hid ht
  have HAP := Lib.hid hap
  have HCP := Lib.hid he.cpu
  obtain ⟨eseq, etime, ecpu, ekind, etask, egrp, eto, ewt, eticks, emask, egot⟩ := e
  dsimp only at HCP HT HAP htt
  obtain ⟨c, rfl⟩ : ∃ c : Nat, ecpu = (c : Int) := ⟨ecpu.toNat, by have := HCP.out.1; omega⟩
  have HTT := Lib.hid htt
  subst htt
  clear n1 n2 hacc hX hXb hB hr lg lr hro hok ht hap hg he HCP
  unfold evA
  dsimp only at *
  obtain ⟨Post, hPost⟩ : ∃ P : Ending → World → Prop, P = (fun (r : Ending) w' => (∃ v, r = .returned v) ∧ ∃ X', AccJ B0 W0' gs.length c1 c2 A1 A2 G0 R0 A0 U0 Mb gs rs X' (o ++ [⟨(c : Int), etime, eticks, gr⟩]) w' ∧ (∀ k, X' k → X k ∨ w.heap.size ≤ k) ∧ Mod X w w') := ⟨_, rfl⟩
  rw [← hPost]
  have HPO := Lib.hid hPost
  clear hPost
  refine of_in ?_
  refine callsIn_of_wp_marks Tryd.func39 rfl trivial ?_ rfl
  simp only [Tryd.ntmps39, List.size_toArray, List.length_cons, List.length_nil, Nat.reduceAdd, Nat.reduceSub, Array.replicate_succ, Array.replicate_zero, List.push_toArray, List.append_toArray, List.nil_append, List.cons_append]
  refine wpIn_wide.2 ?_
  have g0 := HG0.out.cell
  obtain ⟨E, hE⟩ : ∃ E, E = w.heap.size := ⟨_, rfl⟩
  have HE := Lib.hid hE
  have HEV := Lib.hid (show (w.alloc (.cells #[.int .i64 eseq, .int .i64 etime, .int .u8 (c : Int), .int .u8 ekind, .int .i64 etask, .int .i64 egrp, .int .i64 eto, .int .i64 ewt, .int .i64 eticks, .int .u64 emask, .int .i64 egot] 59)).heap[E]? = some (.cells #[.int .i64 eseq, .int .i64 etime, .int .u8 (c : Int), .int .u8 ekind, .int .i64 etask, .int .i64 egrp, .int .i64 eto, .int .i64 ewt, .int .i64 eticks, .int .u64 emask, .int .i64 egot] 59 (0, 0)) from by rw [hE]; exact World.alloc_heap_new w _)
  have HPB := Lib.hid (HPA.out _ (bel_alloc w (.cells #[.int .i64 eseq, .int .i64 etime, .int .u8 (c : Int), .int .u8 ekind, .int .i64 etask, .int .i64 egrp, .int .i64 eto, .int .i64 ewt, .int .i64 eticks, .int .u64 emask, .int .i64 egot] 59)))
  have HBA := Lib.hid (bel_alloc w (.cells #[.int .i64 eseq, .int .i64 etime, .int .u8 (c : Int), .int .u8 ekind, .int .i64 etask, .int .i64 egrp, .int .i64 eto, .int .i64 ewt, .int .i64 eticks, .int .u64 emask, .int .i64 egot] 59))
  have g0 := below_cell (bel_alloc w (.cells #[.int .i64 eseq, .int .i64 etime, .int .u8 (c : Int), .int .u8 ekind, .int .i64 etask, .int .i64 egrp, .int .i64 eto, .int .i64 ewt, .int .i64 eticks, .int .u64 emask, .int .i64 egot] 59)) g0
  go_upto_region 1 with fail
  rw [← hE]
  clear hE HPA
  generalize w.alloc (.cells #[.int .i64 eseq, .int .i64 etime, .int .u8 (c : Int), .int .u8 ekind, .int .i64 etask, .int .i64 egrp, .int .i64 eto, .int .i64 ewt, .int .i64 eticks, .int .u64 emask, .int .i64 egot] 59) = wa at HEV HPB HBA g0 ⊢
  go_cut [8, 9] from 14 to 20 (fun v v9 wx => OV encI 1 3 wa.heap.size wx v (pathL gs gr) ∧ Below wa.heap.size wa wx)
  case first =>
    go_wp2_with fail
    refine HPB.out.mono ?_
    rintro r wb ⟨v, rfl, ov, hb⟩
    have HV := Lib.hid (And.intro ov hb)
    clear ov hb
    go_wp2
    go_meet
    exact HV.out
  case rest =>
    obtain ⟨ov, hb⟩ := hcut
    obtain ⟨Ap, cp, hvp⟩ := (ov.ev encI_len).shape
    subst hvp
    have hz1 := HBA.out.size
    have hz2 := hb.size
    have hbw : Below w.heap.size w wc := HBA.out.trans (hb.mono hz1)
    have hacc' : AccW B0 W0' gs.length rs.length c1 c2 A1 A2 G0 R0 A0 U0 Mb (allN gs rs o) N (Mf gs rs o) F wc := HACC.out.mod HB.out (T := fun _ => False) (Mod.of_below hbw) (fun _ h => h.elim)
    have hev : wc.heap[E]? = some (.cells #[.int .i64 eseq, .int .i64 etime, .int .u8 (c : Int), .int .u8 ekind, .int .i64 etask, .int .i64 egrp, .int .i64 eto, .int .i64 ewt, .int .i64 eticks, .int .u64 emask, .int .i64 egot] 59 (0, 0)) := (hb.block E (Array.getElem?_eq_some_iff.1 HEV.out).1).trans HEV.out
    have hEw : E < wa.heap.size := (Array.getElem?_eq_some_iff.1 HEV.out).1
    have hXA : X A0 ∧ X Mb := ⟨(HX.out A0).2 (.inr (.inr (.inl rfl))), (HX.out Mb).2 (.inr (.inr (.inr (.inr (.inl rfl)))))⟩
    have hA0 := HXB.out A0 hXA.1
    have hnp : (pathL gs gr).length ≤ 100000 := by
      have h1 := (HT.out ⟨(c : Int), etime, eticks, gr⟩ (by simp)).2.2.2
      dsimp only at h1
      unfold pathL
      split
      · unfold ints
        rw [List.length_map]
        have h2 := path_le HOK.out.bef gr.toNat (by omega)
        have := HLG.out
        omega
      · simp
    have hlow := HACC.out.low.size
    refine (‹∀ (a : Act) (w : World), Code.wp _ _ _ a w → _› : ∀ (a : Act) (w : World), _ → _) _ _ (acc1_tail W0' w wc B0 gs.length c1 c2 G0 R0 A0 U0 Mb wa.heap.size E c (pathL gs gr).length cp rs.length A1 A2 Ap gs rs o gr eseq etime ekind etask egrp eto ewt eticks emask egot X (pathL gs gr) F N Post
      HB (Lib.hid rfl) HLR HRS HRO hAB (Lib.hid rfl) (Lib.hid rfl) (Lib.hid hnp) HT HAP (Lib.hid ⟨by omega, hEw, by have := HB.out; omega, by have := HE.out; omega⟩) (Lib.hid ⟨hXA.1, hXA.2, HXB.out⟩) (Lib.hid ?_) (Lib.hid fun Ds w' F N h w'' hm => by rw [HPO.out]; exact HFIN.out _ _ _ _ _ Ds w' F N h w'' hm))
    unfold RuI
    rw [List.take_zero, show cntT gs [] ⟨(c : Int), etime, eticks, gr⟩ = 0 from rfl, Nat.add_zero, Mi_zero]
    exact ⟨HN.out.1, HN.out.2, hacc', Mod.of_below hbw, fun ha kl v g hv hg => .inl ((HX.out g).2 (.inr (.inr (.inr (.inr (.inr ⟨ha, kl, v, hv, hg⟩)))))), hev, ov, Marks.nil _, fun D h => by cases h⟩
end Go.Proofs.YtaplangfppohdaaDoor
