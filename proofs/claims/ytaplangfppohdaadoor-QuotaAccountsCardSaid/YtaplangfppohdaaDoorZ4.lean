/- Contracts of quota.in, quota.many, and of slices.AppendSeq and slices.Collect at quota.Part | The parts of a tick: plain, the iterator, Spread | Contract of quota.Spread | Contracts of quota.Until and of a debt's step | Contract of quota.Debts. -/
import Derived.Test.YtaplangfppohdaaDoorZ1
import Derived.Sort.LoopGhostIn
set_option linter.unusedVariables false
set_option linter.unusedSimpArgs false
set_option linter.unusedSectionVars false
namespace Go.Proofs.YtaplangfppohdaaDoor
open Go.RowKit Go.Shelf
attribute [local go_sem] Oper.semAt_some

def uptoP (zs : Nat → Int × Int) (k : Nat) : List (Int × Int) := (List.range k).map zs
theorem uptoP_succ (zs : Nat → Int × Int) (k : Nat) : uptoP zs (k + 1) = uptoP zs k ++ [zs k] := by simp [uptoP, List.range_succ]
theorem uptoP_len (zs : Nat → Int × Int) (k : Nat) : (uptoP zs k).length = k := by simp [uptoP]
theorem elemPt : ElemT Tryd.prog 25 27 2 16 := ⟨Tryd.underlying25, by
  have h : (Tryd.prog.info? 27).map (fun i => (i.zero, i.size, i.bytes)) = some (some (.agg #[.int .i64 0, .int .i64 0]), 2, 16) := by kernel_rfl
  obtain ⟨i, h1, h2, h3, h4⟩ := info_parts h
  exact ⟨i, _, h1, h2, h3, h4, rfl⟩, by omega, by omega⟩

theorem in_ok (w : World) (n low high : Int) : Calls Tryd.prog 30 #[.int .i64 n, .int .i64 low, .int .i64 high] w fun e w' => e = .returned (.bool (decide (low ≤ n) && decide (n ≤ high))) ∧ w' = w := by
  by_cases h1 : low ≤ n
  · by_cases h2 : n ≤ high
    · go_enter Tryd.func30, Tryd.ntmps30
      go_wp2
      go_ret
      exact ⟨ret_bool (by simp [h1, h2]), rfl⟩
    · go_enter Tryd.func30, Tryd.ntmps30
      go_wp2
      go_ret
      exact ⟨ret_bool (by simp [h1, h2]), rfl⟩
  · go_enter Tryd.func30, Tryd.ntmps30
    go_wp2
    go_ret
    exact ⟨ret_bool (by simp; omega), rfl⟩

def manyN (t n p : Nat) : Nat := (t - 1) / p - (t - n) / p + 1
theorem many_ok (w : World) (t n p : Nat) (h1 : 1 ≤ n) (h2 : n ≤ t) (h3 : t ≤ 281474976710656) (h4 : 1 ≤ p) (h5 : p ≤ 4294967296) :
    Calls Tryd.prog 41 #[.int .i64 t, .int .i64 n, .int .i64 p] w fun e w' => e = .returned (.int .i64 (manyN t n p)) ∧ Below w.heap.size w w' := by
  have hp0 : ((p : Int) == 0) = false := by simp; omega
  go_enter Tryd.func41, Tryd.ntmps41
  go_wp2
  go_quiet (fail)
  go_wp2
  go_ret
  refine ⟨ret_int ?_, below_drewN (Below.refl _ _) _⟩
  have e1 : ((t : Int) - 1) / p = (((t - 1) / p : Nat) : Int) := by rw [Int.natCast_ediv]; congr 1; omega
  have e2 : ((t : Int) - n) / p = (((t - n) / p : Nat) : Int) := by rw [Int.natCast_ediv]; congr 1; omega
  have l1 : (t - n) / p ≤ (t - 1) / p := Nat.div_le_div_right (by omega)
  have l2 : (t - 1) / p ≤ t - 1 := Nat.div_le_self _ _
  rw [e1, e2]
  unfold manyN
  generalize (t - 1) / p = A at *
  generalize (t - n) / p = C at *
  rw [show wrap64 ((A : Int) - (C : Int)) = (A : Int) - (C : Int) from IntWalk.wrap64_in _ (by omega)]
  rw [IntWalk.wrap64_in _ (by omega)]
  omega

set_option maxHeartbeats 400000 in
theorem appendSeq_part (w : World) (gf : Nat) (lb : Array Value) (zs : Nat → Int × Int) (N : Nat) (S T : Nat → Prop) (eg : ∀ args w, (callFunc gf args).run Tryd.prog w = .ok (.enter gf args) w)
    (hit : Iter Tryd.prog gf lb (fun k => #[.agg #[.int .i64 (zs k).1, .int .i64 (zs k).2]]) N S T w) (hT : ∀ k, T k → k < w.heap.size) (hS : ∀ k, S k → k < w.heap.size) (hN : N ≤ 1000000) :
    CallsIn W0 0 Tryd.prog 81 #[.slice none 0 0, .func (.func gf) #[] lb] w fun e w' => ∃ v, e = .returned v ∧ OV encG 2 27 w.heap.size w' v (uptoP zs N) ∧ Mod T w w' := by
  have HIT := Lib.hid hit
  have HT := Lib.hid hT
  have HS := Lib.hid hS
  clear hit hT hS
  have hfn : ∀ f, W0.fn f := fun _ => trivial
  have hd0 : W0.depth = none := rfl
  refine callsIn_of_wp_marks Tryd.func81 rfl trivial ?_ rfl
  simp only [Tryd.ntmps81, List.size_toArray, List.length_cons, List.length_nil, Nat.reduceAdd, Nat.reduceSub, Array.replicate_succ, Array.replicate_zero, List.push_toArray, List.append_toArray, List.nil_append, List.cons_append]
  gi_wp2
  obtain ⟨w1, hw1⟩ : ∃ w1, w.alloc (.cells #[.slice none 0 0] 25) = w1 := ⟨_, rfl⟩
  rw [hw1]
  have hz : w1.heap.size = w.heap.size + 1 := by rw [← hw1]; simp
  have bx : Boxed w1 w.heap.size 25 (.slice none 0 0) := by rw [← hw1]; exact Boxed.new _ _ _
  have m0 : Mod T w w1 := by rw [← hw1]; exact .alloc _
  have i1 : Iter Tryd.prog gf lb (fun k => #[.agg #[.int .i64 (zs k).1, .int .i64 (zs k).2]]) N S T w1 := HIT.out.later m0.size (fun k o ho _ => by rw [← hw1]; exact (Below.heap_alloc _ _ _ (Array.getElem?_eq_some_iff.1 ho).1).trans ho)
  clear hw1
  refine wp_range (xs := fun k => #[.agg #[.int .i64 (zs k).1, .int .i64 (zs k).2]]) rfl eg i1
    (fun k e => by have := HT.out k e; omega) (fun k e => by have := HS.out k e; omega) (fun k => rfl)
    (fun k W => ∃ v, Boxed W w.heap.size 25 v ∧ OV encG 2 27 w.heap.size W v (uptoP zs k) ∧ Mod T w W) (fun _ _ => False)
    (fun k W1 W2 h hc => ?stab)
    (fun _ _ _ h _ => h) ⟨_, bx, OV.nil _ _, m0⟩ ?round ?done (fun _ _ _ h => h.elim)
  case stab =>
    obtain ⟨v, h1, h3, h5⟩ := h
    exact ⟨v, h1.chg hc (fun t => by have := HT.out _ t; omega), h3.chg hc (fun g hg t => by have := HT.out _ t; have := (h3.block g hg).1; omega), hc.mod h5 (by omega)⟩
  case round =>
    rintro l k W hk hl hl2 ⟨v, h1, h3, h5⟩
    gi_wp2
    refine ⟨BK.alloc _, fun W2 hc hq => ?_⟩
    clear hq
    have g1 := (h1.alloc _).chg hc (fun t => t)
    have g3 := (h3.alloc _).chg hc (fun _ _ t => t)
    replace h5 := h5.trans (Mod.alloc (T := T) (.cells #[.int .i64 (zs k).1, .int .i64 (zs k).2] 27))
    have q0 : W2.cell? ⟨W.heap.size, 0, none⟩ = some (.int .i64 (zs k).1) := hc.cell (by rw [World.cell?_alloc_at (hn := by simp)]; rfl) (fun t => t)
    have q1 : W2.cell? ⟨W.heap.size, 1, none⟩ = some (.int .i64 (zs k).2) := hc.cell (by rw [World.cell?_alloc_at (hn := by simp)]; rfl) (fun t => t)
    have g5 : Mod T w W2 := Chg.mod (B := w1.heap.size) (T := T) ⟨hc.os, hc.tape, hc.output, hc.size, fun k o ho _ hb => hc.block k o ho (fun t => t) hb⟩ h5 (by omega)
    have hsz := g5.size
    clear h1 h3 h5 hc bx m0 i1
    have g1c := g1.cell
    have hnew : EV encG 2 (W2.alloc (.cells #[.int .i64 (zs k).1, .int .i64 (zs k).2] 27)) (.slice (some ⟨W2.heap.size, 0, none⟩) 1 1) [zs k] := EV.new1 rfl (Nat.le_refl _)
    gi_wp2_with (gi_at_builtin; refine wpListIn_app elemPt encG_len encG_one rfl _ _ rfl _ _ rfl rfl (g3.alloc _) hnew ?q1 ?q2 ?_)
    case q1 => rw [uptoP_len]; simp; omega
    case q2 => simp; omega
    intro v' W3 hown hgrow
    obtain ⟨g, cap, hv', hg1, hg2⟩ := hown.form (by simp)
    obtain ⟨k1, k2, k3, k4, k5⟩ := Boxed.appended g1 (by decide) g3 hsz (Nat.le_refl _) hown hgrow
    have k1c := k1.cell
    have k1f := k1.frozen
    have K6 : Mod T w (W3.setCell ⟨w.heap.size, 0, none⟩ v') := g5.trans_new (T' := fun k => w.heap.size ≤ k) ⟨k5.os, k5.tape, k5.output, k5.size, fun k _ hn => k5.block k (by omega)⟩ (fun k hk h => by omega)
    have K7 : BK S W2 (W3.setCell ⟨w.heap.size, 0, none⟩ v') := ⟨k4.size, fun j o ho hs => by
      rcases hs with hs | hs
      · exact (k5.block j (by have := HS.out j hs; omega)).trans ho
      · exact k4.same j o ho (by cases o <;> simp_all [isBook, Obj.isCells])⟩
    obtain ⟨m, hm⟩ : ∃ m, (uptoP zs k ++ [zs k]).length = m := ⟨_, rfl⟩
    rw [hm] at hv'
    clear hm
    subst hv'
    rw [← uptoP_succ] at k3 
    clear hown hgrow k1 k4 k5 g1 g3 g5 g1c hnew
    gi_wp2
    exact ⟨K7, _, k2, k3, K6⟩
  case done =>
    rintro D W ⟨v, h1, h3, h5⟩ hD hK
    have h1c := h1.cell
    clear bx
    gi_wp2
    refine post_mark hK (fun w' => results_tmp rfl _ _ w') ⟨_, rfl, h3.chg (Chg.putObj (B := 0) hK rfl (Nat.zero_le _)) (fun _ _ t => t), ?_⟩
    exact Chg.mod (B := w1.heap.size) (T := T) (Chg.putObj hK rfl (by omega)) h5 (by omega)

set_option maxHeartbeats 400000 in
theorem collect_part (w : World) (gf : Nat) (lb : Array Value) (zs : Nat → Int × Int) (N : Nat) (S T : Nat → Prop) (eg : ∀ args w, (callFunc gf args).run Tryd.prog w = .ok (.enter gf args) w)
    (hit : Iter Tryd.prog gf lb (fun k => #[.agg #[.int .i64 (zs k).1, .int .i64 (zs k).2]]) N S T w) (hT : ∀ k, T k → k < w.heap.size) (hS : ∀ k, S k → k < w.heap.size) (hN : N ≤ 1000000) :
    Calls Tryd.prog 49 #[.func (.func gf) #[] lb] w fun e w' => ∃ v, e = .returned v ∧ OV encG 2 27 w.heap.size w' v (uptoP zs N) ∧ Mod T w w' := by
  have H := Lib.hid (of_in (appendSeq_part w gf lb zs N S T eg hit hT hS hN))
  clear hit hT hS eg
  go_enter Tryd.func49, Tryd.ntmps49
  go_wp2_with fail
  refine H.out.mono ?_
  rintro e w' ⟨v, rfl, h1, h2⟩
  go_wp2
  go_ret
  exact ⟨v, rfl, h1, h2⟩
end Go.Proofs.YtaplangfppohdaaDoor
namespace Go.Proofs.YtaplangfppohdaaDoor
open Go.RowKit Go.Shelf
attribute [local go_sem] Oper.semAt_some

/-- Where the k-th part begins. -/
def cutA (t a p k : Nat) : Nat := if k = 0 then a else min ((a / p + k) * p) t
def partI (t a p k : Nat) : Int × Int := ((a / p + k : Nat), ((cutA t a p (k + 1) : Nat) : Int) - (cutA t a p k : Nat))
theorem cutA_facts {t a p k N : Nat} (hp : 1 ≤ p) (ha : a < t) (hN : N = (t - 1) / p - a / p + 1) (hk : k < N) :
    cutA t a p k < t ∧ cutA t a p k / p = a / p + k ∧ cutA t a p (k + 1) = min ((a / p + k + 1) * p) t ∧ cutA t a p k < cutA t a p (k + 1) := by
  have h1 : a / p ≤ (t - 1) / p := Nat.div_le_div_right (by omega)
  have h2 : a / p + k ≤ (t - 1) / p := by omega
  have h3 : (a / p + k) * p ≤ t - 1 := Nat.le_trans (Nat.mul_le_mul_right p h2) (Nat.div_mul_le_self _ _)
  have h4 : cutA t a p (k + 1) = min ((a / p + k + 1) * p) t := by simp [cutA, Nat.add_assoc]
  have h5 : cutA t a p k = if k = 0 then a else (a / p + k) * p := by
    unfold cutA
    split
    · rfl
    · omega
  have h6 : cutA t a p k / p = a / p + k := by
    rw [h5]; split
    · next h => subst h; rfl
    · exact Nat.mul_div_cancel _ (by omega)
  have h7 : cutA t a p k < t := by
    rw [h5]; split <;> omega
  refine ⟨h7, h6, h4, ?_⟩
  have h8 : cutA t a p k < (a / p + k + 1) * p := by
    have := Nat.lt_mul_div_succ (cutA t a p k) (show 0 < p by omega)
    rw [h6, Nat.mul_comm] at this
    exact this
  rw [h4]; omega
theorem cutA_end {t a p N : Nat} (hp : 1 ≤ p) (ha : a < t) (hN : N = (t - 1) / p - a / p + 1) : cutA t a p N = t := by
  have h1 : a / p ≤ (t - 1) / p := Nat.div_le_div_right (by omega)
  have h2 : a / p + N = (t - 1) / p + 1 := by omega
  have h3 := Nat.lt_mul_div_succ (t - 1) (show 0 < p by omega)
  unfold cutA
  rw [if_neg (by omega), h2, Nat.mul_comm]
  omega

set_option maxHeartbeats 400000 in
theorem parts1_iter (w : World) (B1 B2 B3 t n p : Nat) (ht : w.cell? ⟨B1, 0, none⟩ = some (.int .i64 t)) (hn : w.cell? ⟨B2, 0, none⟩ = some (.int .i64 n)) (hpc : w.cell? ⟨B3, 0, none⟩ = some (.int .i64 p))
    (k1 : 1 ≤ n) (k2 : n ≤ t) (k3 : t ≤ 281474976710656) (k4 : 1 ≤ p) (k5 : p ≤ 4294967296) :
    Iter Tryd.prog 76 #[.pointer (some ⟨B1, 0, none⟩), .pointer (some ⟨B2, 0, none⟩), .pointer (some ⟨B3, 0, none⟩)] (fun k => #[.agg #[.int .i64 (partI t (t - n) p k).1, .int .i64 (partI t (t - n) p k).2]]) (manyN t n p)
      (fun k => k = B1 ∨ k = B2 ∨ k = B3) (fun _ => False) w := by
  intro l J Jx W hsz hW hJ hJx hY h0
  have same : ∀ {w W : World} (hW : ∀ k o, w.heap[k]? = some o → (k = B1 ∨ k = B2 ∨ k = B3) → W.heap[k]? = some o) {q : Addr} {u : Value}, (q.block = B1 ∨ q.block = B2 ∨ q.block = B3) → w.cell? q = some u → W.cell? q = some u := by
    intro w W hW q u hq hc
    obtain ⟨o, ho, _⟩ := cells_of_cell hc
    have := hW _ o ho hq
    exact (World.cell?_of_block (w := w) (by rw [this, ho])).trans hc
  have c1 := same hW (.inl rfl) ht
  have c2 := same hW (.inr (.inl rfl)) hn
  have c3 := same hW (.inr (.inr rfl)) hpc
  have SAME := Lib.hid (fun (w W : World) hW (q : Addr) (u : Value) hq hc => same (w := w) (W := W) hW (q := q) (u := u) hq hc)
  clear same ht hn hpc hW hsz
  have hp0 : ((p : Int) == 0) = false := by simp; omega
  have CF := Lib.hid (fun k (hk : k < manyN t n p) => cutA_facts (t := t) (a := t - n) (p := p) (k := k) k4 (by omega) rfl hk)
  have CE := Lib.hid (cutA_end (t := t) (a := t - n) (p := p) (N := manyN t n p) k4 (by omega) rfl)
  refine callsIn_of_wp Tryd.func76 rfl trivial ?_ rfl
  simp only [Tryd.ntmps76, List.size_toArray, List.length_cons, List.length_nil, Nat.reduceAdd, Nat.reduceSub, Array.replicate_succ, Array.replicate_zero, List.push_toArray, List.append_toArray, List.nil_append, List.cons_append]
  gi_wp2
  gi_loopg [5] (manyN t n p) (fun g v wr => ∃ k : Nat, k + g = manyN t n p ∧ v = .int .i64 (cutA t (t - n) p k : Nat) ∧ J k wr ∧ wr.cell? ⟨B1, 0, none⟩ = some (.int .i64 t) ∧ wr.cell? ⟨B2, 0, none⟩ = some (.int .i64 n) ∧ wr.cell? ⟨B3, 0, none⟩ = some (.int .i64 p))
  case atStart => exact ⟨0, by omega, by simp [cutA]; omega, h0, c1, c2, c3⟩
  case round =>
    clear c1 c2 c3 h0
    obtain ⟨k, hkN, rfl, hj, c1, c2, c3⟩ := hrel
    have HKN := Lib.hid hkN
    clear hkN
    rcases Nat.lt_or_ge k (manyN t n p) with hk | hk
    · obtain ⟨f1, f2, f3, f4⟩ := CF.out k hk
      have hYk := hY k wr hk hj
      simp only [partI] at hYk
      rw [f3] at hYk f4
      have FN := Lib.hid f3
      obtain ⟨A, hA⟩ : ∃ A, cutA t (t - n) p k = A := ⟨_, rfl⟩
      obtain ⟨q, hq⟩ : ∃ q, (t - n) / p + k = q := ⟨_, rfl⟩
      obtain ⟨M, hM⟩ : ∃ M, (q + 1) * p = M := ⟨_, rfl⟩
      rw [hA] at f1 f2 f4 hYk ⊢
      rw [hq] at f2 f4 hYk
      rw [hM] at f4 hYk
      have hMb : M ≤ t + p := by
        have := Nat.div_mul_le_self A p
        rw [f2] at this
        rw [← hM, Nat.add_mul]; omega
      have hqb : q ≤ t := by have := Nat.div_le_self A p; omega
      have hqi : (A : Int) / (p : Int) = (q : Int) := by rw [← f2, Int.natCast_ediv]
      have hMi : ((q : Int) + 1) * (p : Int) = (M : Int) := by rw [← hM]; simp
      have HK := Lib.hid hk
      have HF := Lib.hid (show cutA t (t - n) p (k + 1) = min M t from by rw [f3, hq, hM])
      clear f2 f3 FN hA hq hM hk CF
      have hd0 : W0.depth = none := rfl
      rcases Nat.lt_or_ge t M with hmt | hmt
      · rw [show min M t = t from by omega] at hYk f4
        have HE := Lib.hid (show cutA t (t - n) p (k + 1) = t from by rw [HF.out]; omega)
        clear HF
        obtain ⟨fn, tmps, assign, body, hy, hR⟩ := hYk
        gi_wp2
        refine hR.mono ?_
        rintro e W' ⟨hsz, hS, hres⟩
        have d1 := SAME.out wr W' hS _ _ (.inl rfl) c1
        have d2 := SAME.out wr W' hS _ _ (.inr (.inl rfl)) c2
        have d3 := SAME.out wr W' hS _ _ (.inr (.inr rfl)) c3
        clear hy hR hS hY
        rcases hres with ⟨rfl, hj'⟩ | ⟨rfl, hjx⟩
        · gi_wp2
          gi_roundg (gk - 1)
          case measure => have := HKN.out; have := HK.out; omega
          case rel => exact ⟨k + 1, by have := HKN.out; have := HK.out; omega, by rw [HE.out], hj', d1, d2, d3⟩
        · gi_wp2
          refine bodyPost_ret (results_none rfl _ _ _) rfl ?_
          exact ⟨⟨_, rfl⟩, .inr hjx⟩
      · rw [show min M t = M from by omega] at hYk f4
        have HE := Lib.hid (show cutA t (t - n) p (k + 1) = M from by rw [HF.out]; omega)
        clear HF
        obtain ⟨fn, tmps, assign, body, hy, hR⟩ := hYk
        gi_wp2
        refine hR.mono ?_
        rintro e W' ⟨hsz, hS, hres⟩
        have d1 := SAME.out wr W' hS _ _ (.inl rfl) c1
        have d2 := SAME.out wr W' hS _ _ (.inr (.inl rfl)) c2
        have d3 := SAME.out wr W' hS _ _ (.inr (.inr rfl)) c3
        clear hy hR hS hY
        rcases hres with ⟨rfl, hj'⟩ | ⟨rfl, hjx⟩
        · gi_wp2
          gi_roundg (gk - 1)
          case measure => have := HKN.out; have := HK.out; omega
          case rel => exact ⟨k + 1, by have := HKN.out; have := HK.out; omega, by rw [HE.out], hj', d1, d2, d3⟩
        · gi_wp2
          refine bodyPost_ret (results_none rfl _ _ _) rfl ?_
          exact ⟨⟨_, rfl⟩, .inr hjx⟩
    · obtain rfl : k = manyN t n p := by have := HKN.out; omega
      have he := CE.out
      rw [he]
      gi_wp2
      go_end0
      exact ⟨⟨_, rfl⟩, .inl hj⟩

theorem parts_ok (w : World) (t n p : Int) :
    Calls Tryd.prog 42 #[.int .i64 t, .int .i64 n, .int .i64 p] w fun e w' => e = .returned (.func (.func 76) #[] #[.pointer (some ⟨w.heap.size, 0, none⟩), .pointer (some ⟨w.heap.size + 1, 0, none⟩), .pointer (some ⟨w.heap.size + 2, 0, none⟩)]) ∧
      ((w.alloc (.cells #[.int .i64 t] 3)).alloc (.cells #[.int .i64 n] 3)).alloc (.cells #[.int .i64 p] 3) = w' := by
  go_enter Tryd.func42, Tryd.ntmps42
  go_wp2
  go_ret
  exact ⟨rfl, rfl⟩
end Go.Proofs.YtaplangfppohdaaDoor
namespace Go.Proofs.YtaplangfppohdaaDoor
open Go.RowKit Go.Shelf
attribute [local go_sem] Oper.semAt_some

/-- The parts of a tick. -/
def partsL (t n p : Nat) : List (Int × Int) := uptoP (partI t (t - n) p) (manyN t n p)
theorem partsL_len (t n p : Nat) : (partsL t n p).length = manyN t n p := uptoP_len _ _
/-- A tick whose numbers are right. -/
def TickOk (t n p : Int) : Prop := (1 ≤ n ∧ n ≤ 4294967295) ∧ (n ≤ t ∧ t ≤ 281474976710656) ∧ (1 ≤ p ∧ p ≤ 4294967296)
instance (t n p : Int) : Decidable (TickOk t n p) := by unfold TickOk; infer_instance
def spE (t n p : Int) : Int := if ¬ TickOk t n p then 2 else if 65536 < manyN t.toNat n.toNat p.toNat then 5 else 0
def spL (t n p : Int) : List (Int × Int) := if spE t n p = 0 then partsL t.toNat n.toNat p.toNat else []

set_option maxHeartbeats 400000 in
theorem spread_ok (w : World) (t n p : Int) :
    Calls Tryd.prog 18 #[.int .i64 t, .int .i64 n, .int .i64 p] w fun e w' => ∃ r, e = .returned (.tuple #[r, .int .i64 (spE t n p)]) ∧ OV encG 2 27 w.heap.size w' r (spL t n p) ∧ Below w.heap.size w w' := by
  have B0 := Lib.hid (Below.refl w.heap.size w)
  by_cases hok : TickOk t n p
  · obtain ⟨⟨k1, k1'⟩, ⟨k2, k3⟩, ⟨k4, k5⟩⟩ := hok
    have HOK := Lib.hid (show TickOk t n p from ⟨⟨k1, k1'⟩, ⟨k2, k3⟩, ⟨k4, k5⟩⟩)
    obtain ⟨T, rfl⟩ : ∃ T : Nat, t = T := ⟨t.toNat, by omega⟩
    obtain ⟨N, rfl⟩ : ∃ N : Nat, n = N := ⟨n.toNat, by omega⟩
    obtain ⟨P, rfl⟩ : ∃ P : Nat, p = P := ⟨p.toNat, by omega⟩
    have HM := Lib.hid (fun w1 => many_ok w1 T N P (by omega) (by omega) (by omega) (by omega) (by omega))
    have HI := Lib.hid (fun w1 B1 B2 B3 h1 h2 h3 => parts1_iter w1 B1 B2 B3 T N P h1 h2 h3 (by omega) (by omega) (by omega) (by omega) (by omega))
    have HE := Lib.hid (show spE T N P = if 65536 < manyN T N P then 5 else 0 from by rw [spE, if_neg (by simpa using HOK.out)]; simp)
    go_enter Tryd.func18, Tryd.ntmps18
    go_wp2_with fail
    refine (in_ok _ _ _ _).mono ?_
    rintro e w1 ⟨rfl, rfl⟩
    rw [show (decide ((1 : Int) ≤ (N : Int)) && decide ((N : Int) ≤ 4294967295)) = true from by simp; omega]
    go_wp2_with fail
    refine (in_ok _ _ _ _).mono ?_
    rintro e w1 ⟨rfl, rfl⟩
    rw [show (decide ((N : Int) ≤ (T : Int)) && decide ((T : Int) ≤ 281474976710656)) = true from by simp; omega]
    go_wp2_with fail
    refine (in_ok _ _ _ _).mono ?_
    rintro e w1 ⟨rfl, rfl⟩
    rw [show (decide ((1 : Int) ≤ (P : Int)) && decide ((P : Int) ≤ 4294967296)) = true from by simp; omega]
    go_wp2_with fail
    refine (HM.out _).mono ?_
    rintro e w1 ⟨rfl, hb⟩
    have HB := Lib.hid hb
    clear hb
    by_cases hm : 65536 < manyN T N P
    · have hm' : (65536 : Int) < (manyN T N P : Nat) := by omega
      go_wp2
      go_ret2
      refine ⟨_, by rw [HE.out, if_pos hm]; rfl, ?_, HB.out⟩
      rw [spL, HE.out, if_pos hm, if_neg (by decide)]
      exact OV.nil _ _
    · have hm' : decide ((65536 : Int) < (manyN T N P : Nat)) = false := by simp; omega
      have HMM := Lib.hid hm
      clear hm
      go_wp2_with fail
      refine (parts_ok _ _ _ _).mono ?_
      rintro e w2 ⟨rfl, hw⟩
      have hz : w2.heap.size = w1.heap.size + 3 := by rw [← hw]; simp
      have b2 : Below w1.heap.size w1 w2 := by rw [← hw]; exact (((Below.refl _ _).alloc (Nat.le_refl _) _).alloc (by simp) _).alloc (by simp; omega) _
      have hit := HI.out w2 w1.heap.size (w1.heap.size + 1) (w1.heap.size + 2) (by rw [← hw]; simp [go_sem]) (by rw [← hw]; simp [go_sem]) (by rw [← hw]; simp [go_sem])
      have HC := Lib.hid (collect_part w2 76 _ (partI T (T - N) P) (manyN T N P) _ _ (enters_of Tryd.func76 (by kernel_rfl) rfl) hit (fun k h => h.elim) (fun k h => by omega) (by have := HMM.out; omega))
      clear hw hit
      go_wp2_with fail
      refine HC.out.mono ?_
      rintro e w3 ⟨v, rfl, ho, hmod⟩
      have hs := HB.out.size
      have HO := Lib.hid ho
      have HB3 := Lib.hid (HB.out.trans ((b2.trans ((hmod.below (B := w2.heap.size) (fun k _ h => h) (Nat.le_refl _)).mono (by omega))).mono hs))
      clear ho hmod b2 HC
      go_wp2
      go_ret2
      refine ⟨_, by rw [HE.out, if_neg HMM.out]; rfl, ?_, HB3.out⟩
      rw [spL, HE.out, if_neg HMM.out, if_pos rfl]
      simp only [Int.toNat_natCast]
      exact HO.out.base_le (by omega)
  · have HE := Lib.hid (show spE t n p = 2 from by rw [spE, if_pos hok])
    have HL := Lib.hid (show spL t n p = [] from by rw [spL, HE.out, if_neg (by decide)])
    have HOK := Lib.hid hok
    clear hok
    go_enter Tryd.func18, Tryd.ntmps18
    go_wp2_with fail
    refine (in_ok _ _ _ _).mono ?_
    rintro e w1 ⟨rfl, rfl⟩
    cases h1 : (decide ((1 : Int) ≤ n) && decide (n ≤ 4294967295)) with
    | false =>
      go_wp2
      go_ret2
      exact ⟨_, by rw [HE.out]; rfl, by rw [HL.out]; exact OV.nil _ _, B0.out⟩
    | true =>
    have H1 := Lib.hid h1
    clear h1
    go_wp2_with fail
    refine (in_ok _ _ _ _).mono ?_
    rintro e w1 ⟨rfl, rfl⟩
    cases h2 : (decide (n ≤ t) && decide (t ≤ 281474976710656)) with
    | false =>
      go_wp2
      go_ret2
      exact ⟨_, by rw [HE.out]; rfl, by rw [HL.out]; exact OV.nil _ _, B0.out⟩
    | true =>
    have H2 := Lib.hid h2
    clear h2
    go_wp2_with fail
    refine (in_ok _ _ _ _).mono ?_
    rintro e w1 ⟨rfl, rfl⟩
    cases h3 : (decide ((1 : Int) ≤ p) && decide (p ≤ 4294967296)) with
    | false =>
      go_wp2
      go_ret2
      exact ⟨_, by rw [HE.out]; rfl, by rw [HL.out]; exact OV.nil _ _, B0.out⟩
    | true =>
      exfalso
      have e1 := H1.out
      have e2 := H2.out
      simp only [Bool.and_eq_true, decide_eq_true_eq] at e1 e2 h3
      exact HOK.out ⟨e1, e2, h3⟩
end Go.Proofs.YtaplangfppohdaaDoor
namespace Go.Proofs.YtaplangfppohdaaDoor
open Go.RowKit Go.Shelf
attribute [local go_sem] Oper.semAt_some

def untE (d l : Int) : Int := if d < 0 ∨ l < 0 then 2 else if d = 0 then 0 else if l = 0 then 6 else 0
def untN (d l : Int) : Int := if d < 0 ∨ l < 0 then 0 else if d = 0 then 0 else if l = 0 then 0 else (d - 1) / l + 1
theorem until_ok (w : World) (d l : Int) (hd : d ≤ 9223372036854775807) :
    Calls Tryd.prog 19 #[.int .i64 d, .int .i64 l] w fun e w' => e = .returned (.tuple #[.int .i64 (untN d l), .int .i64 (untE d l)]) ∧ w' = w := by
  by_cases h1 : d < 0
  · go_enter Tryd.func19, Tryd.ntmps19
    go_wp2
    go_ret2
    exact ⟨by rw [untN, untE, if_pos (.inl h1), if_pos (.inl h1)]; rfl, rfl⟩
  by_cases h2 : l < 0
  · go_enter Tryd.func19, Tryd.ntmps19
    go_wp2
    go_ret2
    exact ⟨by rw [untN, untE, if_pos (.inr h2), if_pos (.inr h2)]; rfl, rfl⟩
  have HN := Lib.hid (show ¬ (d < 0 ∨ l < 0) from by omega)
  by_cases h3 : d = 0
  · subst h3
    go_enter Tryd.func19, Tryd.ntmps19
    go_wp2
    go_ret2
    exact ⟨by rw [untN, untE, if_neg HN.out, if_neg HN.out, if_pos rfl, if_pos rfl]; rfl, rfl⟩
  have h3' : (d == 0) = false := by simp [h3]
  by_cases h4 : l = 0
  · subst h4
    have H3 := Lib.hid h3
    clear h3
    go_enter Tryd.func19, Tryd.ntmps19
    go_wp2
    go_ret2
    exact ⟨by rw [untN, untE, if_neg HN.out, if_neg HN.out, if_neg H3.out, if_neg H3.out, if_pos rfl, if_pos rfl]; rfl, rfl⟩
  have h4' : (l == 0) = false := by simp [h4]
  have hq0 : 0 ≤ (d - 1) / l := Int.ediv_nonneg (by omega) (by omega)
  have hq1 : (d - 1) / l ≤ d - 1 := Int.ediv_le_self _ (by omega)
  have HF := Lib.hid (show untN d l = (d - 1) / l + 1 ∧ untE d l = 0 from ⟨by rw [untN, if_neg HN.out, if_neg h3, if_neg h4], by rw [untE, if_neg HN.out, if_neg h3, if_neg h4]⟩)
  go_enter Tryd.func19, Tryd.ntmps19
  go_wp2
  go_ret2
  exact ⟨by rw [HF.out.1, HF.out.2]; rfl, rfl⟩

theorem results_cell1 {fn : Func} {p : Tmp} {ty : TypeId} (h : fn.results = #[.cell p ty]) (tmps : Array Value) (P : Program) (w : World) {Y : Nat} {v : Value} (ht : tmps.getD p undef = .pointer (some ⟨Y, 0, none⟩))
    (hl : (loadVar ty ⟨Y, 0, none⟩).run P w = .ok v w) : (results fn tmps).run P w = .ok v w := by
  have ht' : tmps[p]?.getD undef = .pointer (some ⟨Y, 0, none⟩) := by simpa using ht
  simp [results, h, Sem.run_bind, ht', asAddr, hl, Result.andThen]
theorem load_debt {w : World} {Y : Nat} {v i : Int} (q0 : w.cell? ⟨Y, 0, none⟩ = some (.int .i64 v)) (q1 : w.cell? ⟨Y, 1, none⟩ = some (.int .i64 i)) :
    (loadVar 85 ⟨Y, 0, none⟩).run Tryd.prog w = .ok (.agg #[.int .i64 v, .int .i64 i]) w := by
  have h1 : (isAgg 85).run Tryd.prog w = .ok true w := by kernel_rfl
  have h2 : (Go.sizeOf 85).run Tryd.prog w = .ok 2 w := by kernel_rfl
  unfold loadVar
  simp [Sem.run_bind, h1, h2, Result.andThen, loadCells, loadCellsFrom, go_sem, q0, q1]
/-- What a debt is after a part. -/
def afterN (per n k ticks limit : Int) : Int := max (max (n - (k - per - 1) * limit) 0 + ticks - limit) 0
theorem below_after (w : World) (o1 o2 o3 : Obj) : Below w.heap.size w (((w.alloc o1).alloc o2).alloc o3) := ((((Below.refl w.heap.size w).alloc (Nat.le_refl _) o1).alloc (by simp) o2).alloc (by simp; omega) o3)
set_option maxHeartbeats 400000 in
theorem after_ok (w : World) (per n k ticks limit : Int) (a1 : 0 ≤ n) (a2 : n ≤ 1152921504606846976) (b1 : 0 ≤ limit) (b2 : limit ≤ 4294967296) (c1 : 0 ≤ ticks) (c2 : ticks ≤ 4294967296)
    (d1 : -1 ≤ per) (d2 : per < k) (d3 : k ≤ 281474976710656) :
    Calls Tryd.prog 31 #[.agg #[.int .i64 per, .int .i64 n], .agg #[.int .i64 k, .int .i64 ticks], .int .i64 limit] w fun e w' => e = .returned (.agg #[.int .i64 k, .int .i64 (afterN per n k ticks limit)]) ∧ Below w.heap.size w w' := by
  obtain ⟨bt, hbt⟩ : ∃ bt, bt = k - per - 1 := ⟨_, rfl⟩
  have HA := Lib.hid (show afterN per n k ticks limit = max (max (n - bt * limit) 0 + ticks - limit) 0 from by rw [hbt]; rfl)
  have fin : ∀ (W : World) (z : Int) (tmps : Array Value), afterN per n k ticks limit = z → tmps.getD 6 undef = .pointer (some ⟨w.heap.size + 1 + 1, 0, none⟩) → W.cell? ⟨w.heap.size + 1 + 1, 0, none⟩ = some (.int .i64 k) → W.cell? ⟨w.heap.size + 1 + 1, 1, none⟩ = some (.int .i64 z) → Below w.heap.size w W →
      bodyPost Tryd.prog Tryd.f31 (fun e w' => e = .returned (.agg #[.int .i64 k, .int .i64 (afterN per n k ticks limit)]) ∧ Below w.heap.size w w') .ret { tmps, defers := [] } W := by
    intro W z tmps hz ht q0 q1 hb
    refine bodyPost_ret (v := .agg #[.int .i64 k, .int .i64 z]) (results_cell1 rfl _ _ _ ht (load_debt q0 q1)) rfl ⟨by rw [hz], hb⟩
  have FIN := Lib.hid fin
  clear fin
  have HBB := Lib.hid (fun o1 o2 o3 => (((Below.refl w.heap.size w).alloc (Nat.le_refl _) o1).alloc (by simp) o2).alloc (by simp; omega) o3)
  by_cases h0 : limit = 0
  · subst h0
    go_enter Tryd.func31, Tryd.ntmps31
    go_wp2
    refine FIN.out _ (n + ticks) _ (by rw [HA.out]; simp; omega) rfl (by go_simp) (by go_simp) (HBB.out _ _ _)
  have hl0 : (0 : Int) < limit := by omega
  have hl0' : (limit == 0) = false := by simp; omega
  have hq0 : 0 ≤ n / limit := Int.ediv_nonneg (by omega) (by omega)
  have hq1 : n / limit ≤ n := Int.ediv_le_self _ (by omega)
  have hm1 : n / limit * limit ≤ n := Int.ediv_mul_le _ (by omega)
  have hm2 : n < (n / limit + 1) * limit := Int.lt_ediv_add_one_mul_self _ hl0
  by_cases h1 : n / limit < bt
  · have hge : n < bt * limit := Int.lt_of_lt_of_le hm2 (Int.mul_le_mul_of_nonneg_right (by omega) (by omega))
    have HA2 := Lib.hid (show afterN per n k ticks limit = max (0 + ticks - limit) 0 from by rw [HA.out, show max (n - bt * limit) 0 = 0 from by omega])
    rw [hbt] at h1
    clear hm1 hm2 hge hbt HA
    by_cases h2 : ticks < limit
    · go_enter Tryd.func31, Tryd.ntmps31
      go_wp2
      refine FIN.out _ 0 _ (by rw [HA2.out]; omega) rfl (by go_simp) (by go_simp) ?_
      exact below_after w _ _ _
    · go_enter Tryd.func31, Tryd.ntmps31
      go_wp2
      refine FIN.out _ (ticks - limit) _ (by rw [HA2.out]; omega) rfl (by go_simp) (by go_simp) ?_
      exact below_after w _ _ _
  · obtain ⟨X, hX⟩ : ∃ X, (k - per - 1) * limit = X := ⟨_, rfl⟩
    have hX0 : 0 ≤ X := by rw [← hX]; exact Int.mul_nonneg (by omega) (by omega)
    have hX1 : X ≤ n := by
      rw [← hX, ← hbt]
      exact Int.le_trans (Int.mul_le_mul_of_nonneg_right (by omega) (by omega)) hm1
    have HA2 := Lib.hid (show afterN per n k ticks limit = max (n - X + ticks - limit) 0 from by rw [HA.out, hbt, hX, show max (n - X) 0 = n - X from by omega])
    rw [hbt] at h1
    clear hm1 hm2 hbt HA
    by_cases h2 : n - X + ticks - limit < 0
    · go_enter Tryd.func31, Tryd.ntmps31
      go_wp2
      refine FIN.out _ 0 _ (by rw [HA2.out]; omega) rfl (by go_simp) (by go_simp) ?_
      exact below_after w _ _ _
    · go_enter Tryd.func31, Tryd.ntmps31
      go_wp2
      refine FIN.out _ (n - X + ticks - limit) _ (by rw [HA2.out]; omega) rfl (by go_simp) (by go_simp) ?_
      exact below_after w _ _ _
end Go.Proofs.YtaplangfppohdaaDoor
namespace Go.Proofs.YtaplangfppohdaaDoor
open Go.RowKit Go.Shelf
attribute [local go_sem] Oper.semAt_some

def partAt (l : List (Int × Int)) (j : Nat) : Int × Int := l[j]?.getD (0, 0)
def lastP (l : List (Int × Int)) (j : Nat) : Int := if j = 0 then -1 else (partAt l (j - 1)).1
theorem lastP_succ (l : List (Int × Int)) (j : Nat) : lastP l (j + 1) = (partAt l j).1 := by simp [lastP]
def PartOk (l : List (Int × Int)) (j : Nat) : Prop := (lastP l j + 1 ≤ (partAt l j).1 ∧ (partAt l j).1 ≤ 281474976710656) ∧ (0 ≤ (partAt l j).2 ∧ (partAt l j).2 ≤ 4294967296)
instance (l : List (Int × Int)) (j : Nat) : Decidable (PartOk l j) := by unfold PartOk; infer_instance
def PartsOk (l : List (Int × Int)) : Prop := ∀ j, j < l.length → PartOk l j
instance (l : List (Int × Int)) : Decidable (PartsOk l) := by unfold PartsOk; infer_instance
def LimOk (z : Int) : Prop := 0 ≤ z ∧ z ≤ 4294967296
instance (z : Int) : Decidable (LimOk z) := by unfold LimOk; infer_instance
def dbtE (l : List (Int × Int)) (limit : Int) : Int := if ¬ PartsOk l ∨ ¬ LimOk limit then 2 else if 65536 < l.length then 5 else 0
def debtAt (l : List (Int × Int)) (limit : Int) : Nat → Int
  | 0 => 0
  | j + 1 => afterN (lastP l j) (debtAt l limit j) (partAt l j).1 (partAt l j).2 limit
def debtsL (l : List (Int × Int)) (limit : Int) : List Int := upto (fun j => debtAt l limit (j + 1)) l.length
def dbtL (l : List (Int × Int)) (limit : Int) : List Int := if dbtE l limit = 0 then debtsL l limit else []
theorem last_bound {l : List (Int × Int)} {j : Nat} (h : ∀ q, q < j → PartOk l q) : -1 ≤ lastP l j ∧ lastP l j ≤ 281474976710656 := by
  induction j with
  | zero => simp [lastP]
  | succ j ih =>
    have h1 := ih (fun q hq => h q (by omega))
    have h2 := h j (by omega)
    rw [lastP_succ]
    unfold PartOk at h2
    omega
theorem debt_bound {l : List (Int × Int)} {limit : Int} (hl : LimOk limit) {j : Nat} (h : ∀ q, q < j → PartOk l q) : 0 ≤ debtAt l limit j ∧ debtAt l limit j ≤ (j : Int) * 4294967296 := by
  induction j with
  | zero => simp [debtAt]
  | succ j ih =>
    have h1 := ih (fun q hq => h q (by omega))
    have h2 := h j (by omega)
    unfold PartOk at h2
    unfold LimOk at hl
    have h3 : 0 ≤ ((partAt l j).1 - lastP l j - 1) * limit := Int.mul_nonneg (by omega) hl.1
    simp only [debtAt, afterN]
    generalize ((partAt l j).1 - lastP l j - 1) * limit = X at h3
    omega
theorem grp_at {w : World} {b off : Nat} {l : List (Int × Int)} (h : ER encG 2 w b off l) {j : Nat} (hj : j < l.length) :
    w.cell? ⟨b, off + j * 2, none⟩ = some (.int .i64 (partAt l j).1) ∧ w.cell? ⟨b, off + j * 2 + 1, none⟩ = some (.int .i64 (partAt l j).2) := by
  have := h.grp (List.getElem?_eq_getElem hj)
  simpa [partAt, List.getElem?_eq_getElem hj] using this

theorem new_oneM {w : World} {z : Int} {m : Nat} (hm : w.heap.size = m) : EV encI 1 (w.alloc (.cells #[.int .i64 z] 3)) (.slice (some ⟨m, 0, none⟩) 1 1) [z] := by subst hm; exact EV.new1 rfl (Nat.le_refl _)
/-- Block b is of type t. -/
def Typ (w : World) (b : Nat) (t : TypeId) : Prop := ∃ cs fz, w.heap[b]? = some (.cells cs t fz)
theorem Typ.set {w : World} {b : Nat} {t : TypeId} (h : Typ w b t) (p : Addr) (v : Value) : Typ (w.setCell p v) b t := by
  obtain ⟨cs, fz, h⟩ := h
  unfold Typ World.setCell
  simp only [Array.getElem?_modify]
  by_cases e : p.block = b
  · subst e
    exact ⟨_, fz, by rw [if_pos rfl, h]; rfl⟩
  · exact ⟨cs, fz, by rw [if_neg e, h]⟩
theorem Typ.same {w w' : World} {b : Nat} {t : TypeId} (h : Typ w b t) (he : w'.heap[b]? = w.heap[b]?) : Typ w' b t := by
  obtain ⟨cs, fz, h⟩ := h
  exact ⟨cs, fz, he.trans h⟩
theorem OV.not_typ {α : Type} {enc : α → List Value} {k : Nat} {e t : TypeId} {base b : Nat} {w : World} {v : Value} {xs : List α} (h : OV enc k e base w v xs) (hb : Typ w b t) (hte : t ≠ e) : v.ownBlock ≠ some b := by
  obtain ⟨cs, fz, hb⟩ := hb
  rcases h.2 with ⟨rfl, h0⟩ | ⟨g, cap, cur, hv, _, hg, _⟩
  · simp [Value.ownBlock]
  · subst hv
    intro e1
    have : g = b := by simpa [Value.ownBlock] using e1
    subst this
    rw [hb] at hg
    simp at hg
    exact hte hg.2.1
set_option maxRecDepth 4000 in
set_option maxHeartbeats 800000 in
theorem debts_ok (w : World) (v : Value) (l : List (Int × Int)) (limit : Int) (hv : EV encG 2 w v l) (hlen : l.length ≤ 1000000000) :
    Calls Tryd.prog 12 #[v, .int .i64 limit] w fun e w' => ∃ r, e = .returned (.tuple #[r, .int .i64 (dbtE l limit)]) ∧ OV encI 1 3 w.heap.size w' r (dbtL l limit) ∧ Below w.heap.size w w' := by
  obtain ⟨A, c, rfl⟩ := hv.shape
  have HV := Lib.hid hv
  clear hv
  obtain ⟨n, hn⟩ : ∃ n, n = l.length := ⟨_, rfl⟩
  have HN := Lib.hid hn
  rw [← hn] at hlen ⊢
  clear hn
  go_enter Tryd.func12, Tryd.ntmps12
  go_wp2
  go_loopg [6, 15] n (fun k lst i wr => ∃ j : Nat, j + k = n ∧ lst = .int .i64 (lastP l j) ∧ i = .int .i64 j ∧ (∀ q, q < j → PartOk l q) ∧ Below w.heap.size w wr)
  case atStart => exact ⟨0, by omega, rfl, rfl, fun q hq => by omega, Below.refl _ _⟩
  case round =>
    obtain ⟨j, hj, rfl, rfl, ha, hb⟩ := hrel
    have HJ := Lib.hid hj
    have HA := Lib.hid ha
    have HB := Lib.hid hb
    have hlb := last_bound ha
    clear hj ha hb
    by_cases hlt : j < n
    · have hev := HV.out.below HB.out
      obtain ⟨b, off, c', hsl, hcc, hr⟩ := hev.row (by have := HN.out; omega)
      cases hsl
      obtain ⟨g0, g1⟩ := grp_at hr (j := j) (by rw [← HN.out]; exact hlt)
      clear hev hr
      have HBN := Lib.hid (HB.out.trans ((Below.refl wr.heap.size wr).alloc (Nat.le_refl _) (.cells #[.int .i64 (partAt l j).1, .int .i64 (partAt l j).2] 27) |>.mono HB.out.size))
      go_wp2_with fail
      refine (in_ok _ _ _ _).mono ?_
      rintro e w1 ⟨rfl, rfl⟩
      cases h1 : (decide (lastP l j + 1 ≤ (partAt l j).1) && decide ((partAt l j).1 ≤ 281474976710656)) with
      | false =>
        go_wp2
        go_ret2
        have hE : dbtE l limit = 2 := by
          rw [dbtE, if_pos (.inl (fun hp => by
            have := (hp j (by rw [← HN.out]; exact hlt)).1
            simp at h1; omega))]
        exact ⟨_, by rw [hE]; rfl, by rw [dbtL, hE, if_neg (by decide)]; exact OV.nil _ _, HBN.out⟩
      | true =>
      have H1 := Lib.hid h1
      clear h1
      go_wp2_with fail
      refine (in_ok _ _ _ _).mono ?_
      rintro e w1 ⟨rfl, rfl⟩
      cases h2 : (decide ((0 : Int) ≤ (partAt l j).2) && decide ((partAt l j).2 ≤ 4294967296)) with
      | false =>
        go_wp2
        go_ret2
        have hE : dbtE l limit = 2 := by
          rw [dbtE, if_pos (.inl (fun hp => by
            have := (hp j (by rw [← HN.out]; exact hlt)).2
            simp at h2; omega))]
        exact ⟨_, by rw [hE]; rfl, by rw [dbtL, hE, if_neg (by decide)]; exact OV.nil _ _, HBN.out⟩
      | true =>
        have HP := Lib.hid (show PartOk l j from by have h1 := H1.out; simp only [Bool.and_eq_true, decide_eq_true_eq] at h1 h2; exact ⟨h1, h2⟩)
        clear h2
        go_wp2
        go_roundg (gk - 1)
        case measure => have := HJ.out; omega
        case rel =>
          refine ⟨j + 1, by have := HJ.out; omega, by rw [lastP_succ], by go_num, fun q hq => ?_, HBN.out⟩
          rcases Nat.lt_or_ge q j with h | h
          · exact HA.out q h
          · obtain rfl : q = j := by omega
            exact HP.out
    · obtain rfl : n = j := by have := HJ.out; omega
      have HPS := Lib.hid (show PartsOk l from fun q hq => HA.out q (by rw [HN.out]; exact hq))
      clear hlt hlb HA HJ
      go_wp2_with fail
      refine (in_ok _ _ _ _).mono ?_
      rintro e w1 ⟨rfl, rfl⟩
      cases h1 : (decide ((0 : Int) ≤ limit) && decide (limit ≤ 4294967296)) with
      | false =>
        go_wp2
        go_ret2
        have hE : dbtE l limit = 2 := by rw [dbtE, if_pos (.inr (fun hp => by unfold LimOk at hp; simp at h1; omega))]
        exact ⟨_, by rw [hE]; rfl, by rw [dbtL, hE, if_neg (by decide)]; exact OV.nil _ _, HB.out⟩
      | true =>
      have HL := Lib.hid (show LimOk limit from by simpa [LimOk] using h1)
      clear h1
      by_cases h2 : 65536 < n
      · have h2' : (65536 : Int) < (n : Int) := by omega
        go_wp2
        go_ret2
        have hE : dbtE l limit = 5 := by rw [dbtE, if_neg (by simp [HPS.out, HL.out]), if_pos (by rw [← HN.out]; exact h2)]
        exact ⟨_, by rw [hE]; rfl, by rw [dbtL, hE, if_neg (by decide)]; exact OV.nil _ _, HB.out⟩
      have h2' : decide ((65536 : Int) < (n : Int)) = false := by simp; omega
      have HE := Lib.hid (show dbtE l limit = 0 from by rw [dbtE, if_neg (by simp [HPS.out, HL.out]), if_neg (by rw [← HN.out]; exact h2)])
      have H2 := Lib.hid h2
      clear h2
      obtain ⟨D, hD⟩ : ∃ D, D = w1.heap.size := ⟨_, rfl⟩
      have hDw : w.heap.size ≤ D := by rw [hD]; exact HB.out.size
      have HB2 := Lib.hid (HB.out.trans ((Below.refl w1.heap.size w1).alloc (Nat.le_refl _) (.cells #[.int .i64 (-1), .int .i64 0] 85) |>.mono HB.out.size))
      have q0 : (w1.alloc (.cells #[.int .i64 (-1), .int .i64 0] 85)).cell? ⟨D, 0, none⟩ = some (.int .i64 (-1)) := by rw [hD]; go_simp
      have q1 : (w1.alloc (.cells #[.int .i64 (-1), .int .i64 0] 85)).cell? ⟨D, 1, none⟩ = some (.int .i64 0) := by rw [hD]; go_simp
      have q2 : (w1.alloc (.cells #[.int .i64 (-1), .int .i64 0] 85)).frozen? ⟨D, 0, none⟩ = false := by rw [hD]; go_simp
      have q3 : (w1.alloc (.cells #[.int .i64 (-1), .int .i64 0] 85)).frozen? ⟨D, 1, none⟩ = false := by rw [hD]; go_simp
      have hDs : D < (w1.alloc (.cells #[.int .i64 (-1), .int .i64 0] 85)).heap.size := by rw [hD]; simp
      have HQ := Lib.hid (And.intro q0 (And.intro q1 (And.intro q2 (And.intro q3 hDs))))
      have HTY := Lib.hid (show Typ (w1.alloc (.cells #[.int .i64 (-1), .int .i64 0] 85)) D 85 from ⟨_, _, by rw [hD]; exact World.alloc_heap_new w1 _⟩)
      clear q0 q1 q2 q3 hDs
      go_wp2
      rw [← hD]
      clear hD
      go_loopg [9, 45] n (fun k v i wr => ∃ j : Nat, j + k = n ∧ i = .int .i64 j ∧ OV encI 1 3 w.heap.size wr v (upto (fun j => debtAt l limit (j + 1)) j) ∧ wr.cell? ⟨D, 0, none⟩ = some (.int .i64 (lastP l j)) ∧ wr.cell? ⟨D, 1, none⟩ = some (.int .i64 (debtAt l limit j)) ∧
        wr.frozen? ⟨D, 0, none⟩ = false ∧ wr.frozen? ⟨D, 1, none⟩ = false ∧ Typ wr D 85 ∧ D < wr.heap.size ∧ Below w.heap.size w wr)
      case atStart => exact ⟨0, by omega, rfl, OV.nil _ _, HQ.out.1, HQ.out.2.1, HQ.out.2.2.1, HQ.out.2.2.2.1, HTY.out, HQ.out.2.2.2.2, HB2.out⟩
      case round =>
        obtain ⟨j, hj, rfl, ho, c0, c1, f0, f1, hty, hDs, hb⟩ := hrel
        have hne := ho.not_typ hty (by decide)
        have HT1 := Lib.hid hty
        clear hty
        have HJ := Lib.hid hj
        have HO := Lib.hid ho
        have HBW := Lib.hid hb
        have HNE := Lib.hid hne
        clear hj ho hb hne
        by_cases hlt : j < n
        · have hev := HV.out.below HBW.out
          obtain ⟨b, off, c', hsl, hcc, hr⟩ := hev.row (by have := HN.out; omega)
          cases hsl
          obtain ⟨g0, g1⟩ := grp_at hr (j := j) (by rw [← HN.out]; exact hlt)
          clear hev hr
          have hpo := HPS.out j (by rw [← HN.out]; exact hlt)
          have hlb := last_bound (l := l) (j := j) (fun q hq => HPS.out q (by rw [← HN.out]; omega))
          have hdb := debt_bound (l := l) HL.out (j := j) (fun q hq => HPS.out q (by rw [← HN.out]; omega))
          have hAF := fun W => after_ok W (lastP l j) (debtAt l limit j) (partAt l j).1 (partAt l j).2 limit hdb.1 (by have := H2.out; omega) HL.out.1 HL.out.2 hpo.2.1 hpo.2.2 hlb.1 (by have := hpo.1; omega) hpo.1.2
          have HAF := Lib.hid hAF
          clear hAF hpo hlb hdb
          go_wp2_with fail
          refine (HAF.out _).mono ?_
          rintro e w2 ⟨rfl, hb2⟩
          have e0 := ((((Below.refl wr.heap.size wr).alloc (Nat.le_refl _) (.cells #[.int .i64 (partAt l j).1, .int .i64 (partAt l j).2] 27)).trans (hb2.mono (by simp))).cell (p := ⟨D, 0, none⟩) hDs).trans c0
          have e1 := ((((Below.refl wr.heap.size wr).alloc (Nat.le_refl _) (.cells #[.int .i64 (partAt l j).1, .int .i64 (partAt l j).2] 27)).trans (hb2.mono (by simp))).cell (p := ⟨D, 1, none⟩) hDs).trans c1
          have k0 := ((((Below.refl wr.heap.size wr).alloc (Nat.le_refl _) (.cells #[.int .i64 (partAt l j).1, .int .i64 (partAt l j).2] 27)).trans (hb2.mono (by simp))).frozen (p := ⟨D, 0, none⟩) hDs).trans f0
          have k1 := ((((Below.refl wr.heap.size wr).alloc (Nat.le_refl _) (.cells #[.int .i64 (partAt l j).1, .int .i64 (partAt l j).2] 27)).trans (hb2.mono (by simp))).frozen (p := ⟨D, 1, none⟩) hDs).trans f1
          have HT2 := Lib.hid (HT1.out.same (((Below.refl wr.heap.size wr).alloc (Nat.le_refl _) (.cells #[.int .i64 (partAt l j).1, .int .i64 (partAt l j).2] 27)).trans (hb2.mono (by simp)) |>.block D hDs))
          have hD2 : D < w2.heap.size := by have := hb2.size; simp at this; omega
          have ho2 := (HO.out.alloc (.cells #[.int .i64 (partAt l j).1, .int .i64 (partAt l j).2] 27)).below hb2
          have ho3 := (ho2.mod (T := fun k => k = D) (Mod.setCell (p := ⟨D, 0, none⟩) (.int .i64 (partAt l j).1) rfl) (fun g hg e => HNE.out (by rw [hg, e]))).mod (T := fun k => k = D) (Mod.setCell (p := ⟨D, 1, none⟩) (.int .i64 (debtAt l limit (j + 1))) rfl) (fun g hg e => HNE.out (by rw [hg, e]))
          have hb3 : Below w.heap.size w w2 := HBW.out.trans ((((Below.refl wr.heap.size wr).alloc (Nat.le_refl _) _).trans (hb2.mono (by simp))).mono HBW.out.size)
          have hb4 := Lib.hid ((hb3.setCell (p := ⟨D, 0, none⟩) hDw (.int .i64 (partAt l j).1)).setCell (p := ⟨D, 1, none⟩) hDw (.int .i64 (debtAt l limit (j + 1))))
          have HO3 := Lib.hid ho3
          clear ho2 ho3 hb2 hb3 c0 c1 f0 f1 g0 g1 hDs
          rw [show afterN (lastP l j) (debtAt l limit j) (partAt l j).1 (partAt l j).2 limit = debtAt l limit (j + 1) from rfl]
          clear h2'
          generalize hZ : debtAt l limit (j + 1) = Z at *
          go_wp2_with (at_builtin; refine wpList_app elemI encI_len encI_one rfl _ _ rfl _ _ rfl rfl (HO3.out.alloc _) (new_oneM (z := Z) (by simp)) ?q1 ?q2 ?_)
          case q1 => rw [upto_len]; simp; omega
          case q2 => simp; omega
          intro v' w4 ho4 hg4
          obtain ⟨W3, hW3⟩ : ∃ W3, ((w2.setCell ⟨D, 0, none⟩ (.int .i64 (partAt l j).1)).setCell ⟨D, 1, none⟩ (.int .i64 Z)).alloc (.cells #[.int .i64 Z] 3) = W3 := ⟨_, rfl⟩
          have r0 : W3.cell? ⟨D, 0, none⟩ = some (.int .i64 (partAt l j).1) := by rw [← hW3]; clear hW3; go_simp
          have r1 : W3.cell? ⟨D, 1, none⟩ = some (.int .i64 Z) := by rw [← hW3]; clear hW3; go_simp
          have r2 : W3.frozen? ⟨D, 0, none⟩ = false := by rw [← hW3]; clear hW3; go_simp
          have r3 : W3.frozen? ⟨D, 1, none⟩ = false := by rw [← hW3]; clear hW3; go_simp
          have r4 : D < W3.heap.size := by rw [← hW3]; simp; omega
          have r5 : Below w.heap.size w W3 := by rw [← hW3]; exact hb4.out.alloc hb4.out.size _
          have r6 : ∀ k, u9.ownBlock = some k → w.heap.size ≤ k := fun k hk => (HO3.out.block k hk).1
          have hty3 : Typ W3 D 85 := by
            rw [← hW3]
            exact (((HT2.out.set _ _).set _ _)).same (Below.heap_alloc _ _ _ (by simpa using hD2))
          rw [hW3] at hg4
          have hk := hg4.block D r4 (fun e => HNE.out e.symm)
          have hty4 := hty3.same hk
          clear hty3
          have t0 := Lib.hid ((World.cell?_of_block (a := ⟨D, 0, none⟩) hk).trans r0)
          have t1 := Lib.hid ((World.cell?_of_block (a := ⟨D, 1, none⟩) hk).trans r1)
          have t2 := Lib.hid ((World.frozen?_of_block (a := ⟨D, 0, none⟩) hk).trans r2)
          have t3 := Lib.hid ((World.frozen?_of_block (a := ⟨D, 1, none⟩) hk).trans r3)
          have t4 := Lib.hid (Nat.lt_of_lt_of_le r4 hg4.size)
          have t5 := Lib.hid (r5.grown hg4 r5.size r6)
          have ho5 := Lib.hid ho4
          have HZ := Lib.hid hZ
          clear ho4 hg4 hW3 r0 r1 r2 r3 r4 r5 r6 hk hb4 e0 e1 k0 k1 HO3 HAF hZ
          have HNE4 := Lib.hid hty4
          clear hty4
          go_wp2
          go_roundg (gk - 1)
          case measure => have := HJ.out; omega
          case rel =>
            refine ⟨j + 1, by have := HJ.out; omega, by go_num, by rw [upto_succ, HZ.out]; exact ho5.out, by rw [lastP_succ]; exact t0.out, by rw [HZ.out]; exact t1.out, t2.out, t3.out, HNE4.out, t4.out, t5.out⟩
        · obtain rfl : n = j := by have := HJ.out; omega
          go_wp2
          go_ret2
          refine ⟨_, by rw [HE.out]; rfl, ?_, HBW.out⟩
          rw [dbtL, HE.out, if_pos rfl, debtsL, ← HN.out]
          exact HO.out
end Go.Proofs.YtaplangfppohdaaDoor
