/- How arguments of any shape read: a slice whose elements read, element by element; a struct of integers | The parts of a tick and debts as the reference reckons them; plain | The reference's Spread and Until, and what is left of a debt | The reference's Debts | The reference's Debts | The law's own comparisons of Spread, and of Debts and Until: they return true. -/
import Derived.Test.YtaplangfppohdaaDoorZ1
import Derived.Deep.Slices
import Derived.ChangeArms
import Derived.Test.YtaplangfppohdaaDoorZ19
import Derived.Test.YtaplangfppohdaaDoorZ14
set_option linter.unusedVariables false
set_option linter.unusedSimpArgs false
set_option linter.unusedSectionVars false
namespace Go.Proofs.YtaplangfppohdaaDoor
open Go Go.RowKit Go.Deep Go.ChangeShapes Go.WideShapes

theorem pick_list {α : Type} (f : Nat → Option α) : ∀ len : Nat, (∀ i, i < len → ∃ z, f i = some z) → ∃ xs : List α, xs.length = len ∧ ∀ i z, xs[i]? = some z → f i = some z := by
  intro len
  induction len with
  | zero => intro _; exact ⟨[], rfl, fun i z h => by simp at h⟩
  | succ m ih =>
    intro hs
    obtain ⟨xs, h1, h2⟩ := ih (fun i hi => hs i (by omega))
    obtain ⟨z, hz⟩ := hs m (by omega)
    refine ⟨xs ++ [z], by simp [h1], fun i y h => ?_⟩
    rcases Nat.lt_or_ge i xs.length with hi | hi
    · rw [List.getElem?_append_left hi] at h; exact h2 i y h
    · rw [List.getElem?_append_right hi] at h
      have h0 := (List.getElem?_eq_some_iff.1 h).1
      simp at h0
      obtain rfl : i = m := by omega
      simp [h1] at h
      rw [hz, h]
section
variable {H : Type} {encd : TypeId × Value → H} {P : Program} {w : World} {base : Nat} {spare : Nat → Bool} {held : Bool}

theorem open_rows {α : Type} {enc : α → List Value} {k : Nat} {Q : α → Prop} {t e : TypeId} {fuel : Nat} {v : Value} {x : DataW H × List MemPlace}
    (ht : P.underlying t = some (.slice e)) (ck : P.cellsOf e = k) (hk : 0 < k)
    (each : ∀ n cs y, DataW.trod encd P w base spare held n e cs = some y → ∃ a, cs = enc a ∧ Q a)
    (h : DataW.trod encd P w base spare held fuel t [v] = some x) :
    ∃ A len cap xs, v = .slice A len cap ∧ EV enc k w (.slice A len cap) xs ∧ xs.length = len ∧ len ≤ maxLen ∧ ∀ a ∈ xs, Q a := by
  rcases open_slice ht h with ⟨hv, _⟩ | ⟨a, len, cap, m, n, D, Pl, hv, hb, hl, hm, hmm, _, hx⟩
  · simp at hv
    exact ⟨_, _, _, [], hv, .inl ⟨rfl, _, _, rfl⟩, rfl, by unfold maxLen; omega, by simp⟩
  · simp at hv
    have hlm : len ≤ m := by rw [hmm]; split <;> omega
    have ex : ∀ i, i < len → ∃ z, (∀ j u, (enc z)[j]? = some u → w.cell? ((a.add (i * k)).add j) = some u) ∧ Q z := fun i hi => by
      obtain ⟨cs', h1, h2⟩ := hx i (by omega)
      rw [ck] at h1
      obtain ⟨_, hlen, hcell⟩ := World.cells?_some h1
      obtain ⟨z, rfl, hq⟩ := each _ _ _ h2
      refine ⟨z, fun j u hu => ?_, hq⟩
      have := (List.getElem?_eq_some_iff.1 hu).1
      exact (hcell j (by omega)).trans hu
    have hlens : ∀ i, i < len → ∀ z, (∃ cs', w.cells? base (a.add (i * k)) k = some cs' ∧ cs' = enc z) → (enc z).length = k := fun i hi z ⟨cs', h1, h2⟩ => by
      subst h2; exact (World.cells?_some h1).2.1
    obtain ⟨f, hf⟩ : ∃ f : Nat → Option α, ∀ i, i < len → ∃ z, f i = some z ∧ (∀ j u, (enc z)[j]? = some u → w.cell? ((a.add (i * k)).add j) = some u) ∧ Q z :=
      ⟨fun i => if hi : i < len then some (Classical.choose (ex i hi)) else none, fun i hi => ⟨Classical.choose (ex i hi), by simp [hi], (Classical.choose_spec (ex i hi)).1, (Classical.choose_spec (ex i hi)).2⟩⟩
    obtain ⟨xs, hxl, hxs⟩ := pick_list f len (fun i hi => by obtain ⟨z, hz, _⟩ := hf i hi; exact ⟨z, hz⟩)
    have hq : ∀ z ∈ xs, Q z := fun z hz => by
      obtain ⟨i, hi⟩ := List.getElem?_of_mem hz
      have hil : i < len := by have := (List.getElem?_eq_some_iff.1 hi).1; omega
      obtain ⟨z', h1, _, h3⟩ := hf i hil
      rw [hxs i z hi] at h1; cases h1; exact h3
    refine ⟨some a, len, cap, xs, hv, ?_, hxl, by omega, hq⟩
    rcases Nat.eq_zero_or_pos len with h0 | h0
    · exact .inl ⟨List.eq_nil_of_length_eq_zero (by omega), _, _, by rw [h0]⟩
    · have ha : a = ⟨a.block, a.off, none⟩ := by
        obtain ⟨cs', h1, _⟩ := hx 0 (by omega)
        rw [ck] at h1
        obtain ⟨_, hlen, hcell⟩ := World.cells?_some h1
        have h2 := hcell 0 hk
        rw [Nat.zero_mul, Addr.add_zero', Addr.add_zero', List.getElem?_eq_getElem (by omega)] at h2
        exact addr_of_cell h2
      rw [ha] at hf ⊢
      subst hxl
      refine EV.mk (fun i z hz j u hu => ?_) hl
      have hil : i < xs.length := (List.getElem?_eq_some_iff.1 hz).1
      obtain ⟨z', h1, h2, _⟩ := hf i hil
      rw [hxs i z hz] at h1; cases h1
      have := h2 j u hu
      rwa [Addr.add_lit, Addr.add_lit] at this

/-- A struct of integers. -/
theorem flat_ints {t : TypeId} {fs : Array Field} {n : Nat} {cs : List Value} {x : DataW H × List MemPlace} (ht : P.underlying t = some (.struct fs)) (ct : P.cellsOf t = fs.size)
    (hf : ∀ (i : Nat) (f : Field), fs[i]? = some f → f.offset = i ∧ P.cellsOf f.type = 1 ∧ P.underlying f.type = some (.int .i64))
    (h : DataW.trod encd P w base spare held n t cs = some x) : ∃ zs : List Int, cs = zs.map (Value.int .i64) ∧ zs.length = fs.size ∧ ∀ z ∈ zs, (Lit.int .i64 z).wf = true := by
  obtain ⟨xs, m, _, _, hcl, hxl, he⟩ := DataW.trod_struct ht h
  have ex : ∀ i, i < cs.length → ∃ z, cs[i]? = some (.int .i64 z) ∧ (Lit.int .i64 z).wf = true := fun i hi => by
    have hi' : i < fs.size := by omega
    obtain ⟨h1, h2, h3⟩ := hf i fs[i] (Array.getElem?_eq_getElem hi')
    have h4 := he i fs[i] (Array.getElem?_eq_getElem hi')
    rw [h1, h2, List.getElem?_eq_getElem (by omega)] at h4
    obtain ⟨z, h5, _, h6⟩ := DataW.trod_int h3 h4
    refine ⟨z, ?_, h6⟩
    have h7 : ((cs.drop i).take 1)[0]? = some (Value.int .i64 z) := by rw [h5]; rfl
    rwa [List.getElem?_take_of_lt (by omega), List.getElem?_drop, Nat.add_zero] at h7
  have go : ∀ l : List Value, (∀ i, i < l.length → ∃ z, l[i]? = some (.int .i64 z) ∧ (Lit.int .i64 z).wf = true) → ∃ zs : List Int, l = zs.map (Value.int .i64) ∧ zs.length = l.length ∧ ∀ z ∈ zs, (Lit.int .i64 z).wf = true := by
    intro l
    induction l with
    | nil => intro _; exact ⟨[], rfl, rfl, by simp⟩
    | cons a r ih =>
      intro hl
      obtain ⟨z, hz, hw⟩ := hl 0 (by simp)
      simp at hz
      obtain ⟨zs, h1, h2, h3⟩ := ih (fun i hi => by simpa using hl (i + 1) (by simpa using hi))
      exact ⟨z :: zs, by rw [hz, h1]; rfl, by simp [h2], fun y hy => (List.mem_cons.1 hy).elim (fun e => e ▸ hw) (h3 y)⟩
  obtain ⟨zs, h1, h2, h3⟩ := go cs ex
  exact ⟨zs, h1, by omega, h3⟩
theorem flat_two {t : TypeId} {f0 f1 : Field} {n : Nat} {cs : List Value} {x : DataW H × List MemPlace} (ht : P.underlying t = some (.struct #[f0, f1])) (ct : P.cellsOf t = 2)
    (o0 : f0.offset = 0) (o1 : f1.offset = 1) (c0 : P.cellsOf f0.type = 1) (c1 : P.cellsOf f1.type = 1) (u0 : P.underlying f0.type = some (.int .i64)) (u1 : P.underlying f1.type = some (.int .i64))
    (h : DataW.trod encd P w base spare held n t cs = some x) : ∃ g : Int × Int, cs = [.int .i64 g.1, .int .i64 g.2] ∧ ((Lit.int .i64 g.1).wf = true ∧ (Lit.int .i64 g.2).wf = true) := by
  obtain ⟨zs, h1, h2, h3⟩ := flat_ints ht ct (fun i f hi => by
    rcases i with _ | _ | i <;> simp at hi <;> subst hi
    · exact ⟨o0, c0, u0⟩
    · exact ⟨o1, c1, u1⟩) h
  rcases zs with _ | ⟨p, _ | ⟨q, _ | ⟨r, zs⟩⟩⟩ <;> simp at h2
  exact ⟨(p, q), h1, h3 p (by simp), h3 q (by simp)⟩
end
end Go.Proofs.YtaplangfppohdaaDoor
namespace Go.Proofs.YtaplangfppohdaaDoor
open Go Go.RowKit

theorem manyN_prt (t n p : Nat) : manyN t n p = nP t (t - n) p := rfl
/-- The part of period a / p + k, as what the period and the tick have in common. -/
theorem split_at {t a p k : Nat} (hp : 1 ≤ p) (ha : a < t) (hk : k < nP t a p) :
    (a / p + k) * p < t ∧ partI t a p k = (((a / p + k : Nat) : Int), ((min ((a / p + k + 1) * p) t : Nat) : Int) - ((max ((a / p + k) * p) a : Nat) : Int)) ∧ max ((a / p + k) * p) a < min ((a / p + k + 1) * p) t := by
  obtain ⟨f1, f2, f3, f4⟩ := cutA_facts (t := t) (a := a) (p := p) (k := k) hp ha rfl hk
  have h2 := Nat.div_mul_le_self a p
  have h3 := Nat.lt_mul_div_succ a (show 0 < p by omega)
  rw [Nat.mul_comm] at h3
  have hc : cutA t a p k = max ((a / p + k) * p) a := by
    rcases Nat.eq_zero_or_pos k with rfl | h0
    · rw [cut_zero, Nat.add_zero]; omega
    · rw [cut_mid hp ha h0 hk]
      have : (a / p + 1) * p ≤ (a / p + k) * p := Nat.mul_le_mul_right p (by omega)
      omega
  refine ⟨by omega, ?_, by omega⟩
  unfold partI
  rw [f3, hc]
theorem split_end {t a p k : Nat} (hp : 1 ≤ p) (ha : a < t) (hk : nP t a p ≤ k) : t ≤ (a / p + k) * p := by
  have h1 : a / p ≤ (t - 1) / p := Nat.div_le_div_right (by omega)
  have h3 := Nat.lt_mul_div_succ (t - 1) (show 0 < p by omega)
  rw [Nat.mul_comm] at h3
  have h4 : ((t - 1) / p + 1) * p ≤ (a / p + k) * p := Nat.mul_le_mul_right p (by unfold nP at hk; omega)
  omega
theorem split_top {t a p : Nat} (ha : a < t) : (a / p + nP t a p) * p ≤ t + p := by
  have h1 : a / p ≤ (t - 1) / p := Nat.div_le_div_right (by omega)
  have h2 := Nat.div_mul_le_self (t - 1) p
  rw [show a / p + nP t a p = (t - 1) / p + 1 by unfold nP; omega, Nat.add_mul]
  omega
/-- What is left of a debt. -/
def leftZ (d q l : Int) : Int := max (d - q * l) 0
theorem left_q0 {d l : Int} (hd : 0 ≤ d) : leftZ d 0 l = d := by unfold leftZ; rw [Int.zero_mul]; omega
theorem left_d0 {q l : Int} (hq : 0 ≤ q) (hl : 0 ≤ l) : leftZ 0 q l = 0 := by
  have : 0 ≤ q * l := Int.mul_nonneg hq hl
  unfold leftZ; generalize q * l = X at this; omega
theorem left_l0 {d q : Int} (hd : 0 ≤ d) : leftZ d q 0 = d := by unfold leftZ; rw [Int.mul_zero]; omega
theorem left_small {d q l : Int} (hd : 0 ≤ d) (hq : 1 ≤ q) (hl : 0 < l) (h : d / l = 0) : leftZ d q l = 0 := by
  have h1 : d < (d / l + 1) * l := Int.lt_ediv_add_one_mul_self _ hl
  rw [h, Int.zero_add, Int.one_mul] at h1
  have h2 : 1 * l ≤ q * l := Int.mul_le_mul_of_nonneg_right hq (by omega)
  rw [Int.one_mul] at h2
  unfold leftZ; generalize q * l = X at h2; omega
theorem left_step {d q l n : Int} : leftZ (d - n * l) (q - n) l = leftZ d q l := by
  unfold leftZ
  rw [Int.sub_mul]
  generalize q * l = X
  generalize n * l = Y
  congr 1; omega
theorem left_n {d q l : Int} (hd : 0 ≤ d) (hq : 0 ≤ q) (hl : 0 < l) : 0 ≤ d / l ∧ d / l ≤ d ∧ 0 ≤ d / l * l ∧ d / l * l ≤ d ∧ (q < d / l → 0 ≤ q * l ∧ q * l ≤ d) := by
  have hq0 : 0 ≤ d / l := Int.ediv_nonneg hd (by omega)
  have hq1 : d / l ≤ d := Int.ediv_le_self _ hd
  have hm1 : d / l * l ≤ d := Int.ediv_mul_le _ (by omega)
  refine ⟨hq0, hq1, Int.mul_nonneg hq0 (by omega), hm1, fun h => ⟨Int.mul_nonneg hq (by omega), ?_⟩⟩
  have : q * l ≤ d / l * l := Int.mul_le_mul_of_nonneg_right (by omega) (by omega)
  omega
theorem after_left (per n k ticks limit : Int) : afterN per n k ticks limit = max (leftZ n (k - (per + 1)) limit + ticks - limit) 0 := by
  unfold afterN leftZ
  rw [show k - per - 1 = k - (per + 1) by omega]
/-- Rounded up. -/
theorem until_up {d l : Int} (hd : 0 < d) (hl : 0 < l) : (d - 1) / l + 1 = if 0 < d % l then d / l + 1 else d / l := by
  have h1 := Int.mul_ediv_add_emod d l
  have h2 := Int.emod_nonneg d (show l ≠ 0 by omega)
  have h3 := Int.emod_lt_of_pos d hl
  have c1 : d / l * l = l * (d / l) := Int.mul_comm _ _
  have c2 : (d / l + 1) * l = l * (d / l) + l := by rw [Int.add_mul, Int.one_mul, Int.mul_comm]
  have c3 : (d / l - 1) * l = l * (d / l) - l := by rw [Int.sub_mul, Int.one_mul, Int.mul_comm]
  have c4 : (d / l - 1 + 1) * l = l * (d / l) := by rw [Int.sub_add_cancel, Int.mul_comm]
  split
  · rename_i h
    congr 1
    rw [Int.ediv_eq_iff_of_pos hl]
    constructor <;> omega
  · have h4 : (d - 1) / l = d / l - 1 := by
      rw [Int.ediv_eq_iff_of_pos hl]
      constructor <;> omega
    omega
end Go.Proofs.YtaplangfppohdaaDoor
namespace Go.Proofs.YtaplangfppohdaaDoor
open Go.RowKit Go.Shelf
attribute [local go_sem] Oper.semAt_some

theorem elemRPt : ElemT Tryd.prog 87 90 2 16 := ⟨Tryd.underlying87, by
  have h : (Tryd.prog.info? 90).map (fun i => (i.zero, i.size, i.bytes)) = some (some (.agg #[.int .i64 0, .int .i64 0]), 2, 16) := by kernel_rfl
  obtain ⟨i, h1, h2, h3, h4⟩ := info_parts h
  exact ⟨i, _, h1, h2, h3, h4, rfl⟩, by omega, by omega⟩
theorem new_rpartM {w : World} {p q : Int} {m : Nat} (hm : w.heap.size = m) : EV encG 2 (w.alloc (.cells #[.int .i64 p, .int .i64 q] 90)) (.slice (some ⟨m, 0, none⟩) 1 1) [(p, q)] := by subst hm; exact EV.new1 rfl (Nat.le_refl _)
theorem rcount_ok (w : World) (t n p : Nat) (h1 : 1 ≤ n) (h2 : n ≤ t) (h3 : t ≤ 281474976710656) (h4 : 1 ≤ p) (h5 : p ≤ 4294967296) :
    Calls Tryd.prog 70 #[.int .i64 t, .int .i64 n, .int .i64 p] w fun e w' => e = .returned (.int .i64 (manyN t n p)) ∧ Below w.heap.size w w' := by
  have hp0 : ((p : Int) == 0) = false := by simp; omega
  have e1 : ((t : Int) - 1) / p = (((t - 1) / p : Nat) : Int) := by rw [Int.natCast_ediv]; congr 1; omega
  have e2 : ((t : Int) - n) / p = (((t - n) / p : Nat) : Int) := by rw [Int.natCast_ediv]; congr 1; omega
  have l1 : (t - n) / p ≤ (t - 1) / p := Nat.div_le_div_right (by omega)
  have l2 : (t - 1) / p ≤ t - 1 := Nat.div_le_self _ _
  have HM := Lib.hid (show manyN t n p = (t - 1) / p - (t - n) / p + 1 from rfl)
  generalize (t - 1) / p = A at *
  generalize (t - n) / p = C at *
  go_enter Tryd.func70, Tryd.ntmps70
  go_wp2
  go_quiet (fail)
  go_wp2
  go_ret
  refine ⟨ret_int ?_, below_drewN (Below.refl _ _) _⟩
  rw [HM.out]
  try rw [e1, e2]
  try rw [show wrap64 ((A : Int) + 1) = (A : Int) + 1 from IntWalk.wrap64_in _ (by omega)]
  try rw [IntWalk.wrap64_in _ (by omega)]
  omega
set_option maxHeartbeats 800000 in
theorem rsplit_ok (w : World) (t n p : Nat) (k1 : 1 ≤ n) (k2 : n ≤ t) (k3 : t ≤ 281474976710656) (k4 : 1 ≤ p) (k5 : p ≤ 4294967296) (hm : manyN t n p ≤ 1000000) :
    Calls Tryd.prog 71 #[.int .i64 t, .int .i64 n, .int .i64 p] w fun e w' => ∃ r, e = .returned r ∧ OV encG 2 90 w.heap.size w' r (partsL t n p) ∧ Below w.heap.size w w' := by
  obtain ⟨a, ha⟩ : ∃ a, a = t - n := ⟨_, rfl⟩
  have hA : (t : Int) - (n : Int) = (a : Int) := by omega
  have hat : a < t := by omega
  have hp0 : ((p : Int) == 0) = false := by simp; omega
  have hap : (a : Int) / (p : Int) = ((a / p : Nat) : Int) := by rw [Int.natCast_ediv]
  have hqt : a / p ≤ t := by have := Nat.div_le_self a p; omega
  have CF := Lib.hid (fun k (hk : k < nP t a p) => split_at (t := t) (a := a) (p := p) (k := k) k4 hat hk)
  have CE := Lib.hid (fun k (hk : nP t a p ≤ k) => split_end (t := t) (a := a) (p := p) (k := k) k4 hat hk)
  have HSM := Lib.hid (show nP t a p ≤ 1000000 from by rw [ha]; exact hm)
  have HPL := Lib.hid (show partsL t n p = uptoP (partI t a p) (nP t a p) from by rw [ha]; rfl)
  have hNt : a / p + nP t a p ≤ t := by
    have h1 : a / p ≤ (t - 1) / p := Nat.div_le_div_right (by omega)
    have h2 := Nat.div_le_self (t - 1) p
    unfold nP; omega
  have HTP := Lib.hid (split_top (t := t) (a := a) (p := p) hat)
  have k3i : (t : Int) ≤ 281474976710656 := by omega
  have k4i : (1 : Int) ≤ p := by omega
  have k5i : (p : Int) ≤ 4294967296 := by omega
  have hati : (a : Int) < t := by omega
  have hqti : ((a / p : Nat) : Int) ≤ t := by omega
  clear ha hm k1 k2 k3 k4 k5 hat
  generalize a / p = Q0 at *
  go_enter Tryd.func71, Tryd.ntmps71
  go_wp2
  go_loopg [7, 8] (nP t a p) (fun g v i wr => ∃ k : Nat, k + g = nP t a p ∧ i = .int .i64 ((Q0 + k : Nat) : Int) ∧ OV encG 2 90 w.heap.size wr v (uptoP (partI t a p) k) ∧ Below w.heap.size w wr)
  case atStart => exact ⟨0, by omega, by simp, OV.nil _ _, Below.refl _ _⟩
  case round =>
    obtain ⟨k, hk, rfl, ho, hb⟩ := hrel
    have HJ := Lib.hid hk
    have HO := Lib.hid ho
    have HB := Lib.hid hb
    clear hk ho hb hap
    obtain ⟨q, hq⟩ : ∃ q, Q0 + k = q := ⟨_, rfl⟩
    have HQ := Lib.hid hq
    obtain ⟨X, hX⟩ : ∃ X, q * p = X := ⟨_, rfl⟩
    have hXi : (q : Int) * (p : Int) = (X : Int) := by rw [← hX]; simp
    have hqb : q ≤ t := by have := HJ.out; omega
    rw [hq]
    rcases Nat.lt_or_ge k (nP t a p) with hlt | hge
    · obtain ⟨f1, f2, f3⟩ := CF.out k hlt
      rw [hq, hX] at f1 f2 f3
      obtain ⟨M, hM⟩ : ∃ M, (q + 1) * p = M := ⟨_, rfl⟩
      have hMi : ((q : Int) + 1) * (p : Int) = (M : Int) := by rw [← hM]; simp
      rw [hM] at f2 f3
      have hMb : M ≤ t + p := by rw [← hM, Nat.add_mul]; omega
      have HPE := Lib.hid f2
      clear f2 hM hX hq hqt hNt
      rcases Nat.lt_or_ge X a with h1 | h1 <;> rcases Nat.lt_or_ge t M with h2 | h2
      · skip
        go_wp2_with (at_builtin; refine wpList_app elemRPt encG_len encG_one rfl _ _ rfl _ _ rfl rfl (HO.out.alloc _) (new_rpartM (p := (q : Int)) (q := (t : Int) - (a : Int)) (by simp)) ?q1 ?q2 ?_)
        case q1 => rw [uptoP_len]; simp; have := HSM.out; omega
        case q2 => have := HB.out.size; simp; omega
        intro v' w3 ho3 hg3
        have HO3 := Lib.hid ho3
        have HB3 := Lib.hid ((HB.out.alloc HB.out.size (.cells #[.int .i64 (q : Int), .int .i64 ((t : Int) - (a : Int))] 90)).grown hg3 (by have := HB.out.size; simp; omega) (fun k hk => (HO.out.block k hk).1))
        clear ho3 hg3
        go_wp2
        go_roundg (gk - 1)
        case measure => have := HJ.out; omega
        case rel => exact ⟨k + 1, by have := HJ.out; omega, by rw [← Nat.add_assoc, HQ.out]; go_num, by rw [uptoP_succ, HPE.out, show max X a = a from by omega, show min M t = t from by omega]; exact HO3.out, HB3.out⟩
      · skip
        go_wp2_with (at_builtin; refine wpList_app elemRPt encG_len encG_one rfl _ _ rfl _ _ rfl rfl (HO.out.alloc _) (new_rpartM (p := (q : Int)) (q := (M : Int) - (a : Int)) (by simp)) ?q1 ?q2 ?_)
        case q1 => rw [uptoP_len]; simp; have := HSM.out; omega
        case q2 => have := HB.out.size; simp; omega
        intro v' w3 ho3 hg3
        have HO3 := Lib.hid ho3
        have HB3 := Lib.hid ((HB.out.alloc HB.out.size (.cells #[.int .i64 (q : Int), .int .i64 ((M : Int) - (a : Int))] 90)).grown hg3 (by have := HB.out.size; simp; omega) (fun k hk => (HO.out.block k hk).1))
        clear ho3 hg3
        go_wp2
        go_roundg (gk - 1)
        case measure => have := HJ.out; omega
        case rel => exact ⟨k + 1, by have := HJ.out; omega, by rw [← Nat.add_assoc, HQ.out]; go_num, by rw [uptoP_succ, HPE.out, show max X a = a from by omega, show min M t = M from by omega]; exact HO3.out, HB3.out⟩
      · skip
        go_wp2_with (at_builtin; refine wpList_app elemRPt encG_len encG_one rfl _ _ rfl _ _ rfl rfl (HO.out.alloc _) (new_rpartM (p := (q : Int)) (q := (t : Int) - (X : Int)) (by simp)) ?q1 ?q2 ?_)
        case q1 => rw [uptoP_len]; simp; have := HSM.out; omega
        case q2 => have := HB.out.size; simp; omega
        intro v' w3 ho3 hg3
        have HO3 := Lib.hid ho3
        have HB3 := Lib.hid ((HB.out.alloc HB.out.size (.cells #[.int .i64 (q : Int), .int .i64 ((t : Int) - (X : Int))] 90)).grown hg3 (by have := HB.out.size; simp; omega) (fun k hk => (HO.out.block k hk).1))
        clear ho3 hg3
        go_wp2
        go_roundg (gk - 1)
        case measure => have := HJ.out; omega
        case rel => exact ⟨k + 1, by have := HJ.out; omega, by rw [← Nat.add_assoc, HQ.out]; go_num, by rw [uptoP_succ, HPE.out, show max X a = X from by omega, show min M t = t from by omega]; exact HO3.out, HB3.out⟩
      · skip
        go_wp2_with (at_builtin; refine wpList_app elemRPt encG_len encG_one rfl _ _ rfl _ _ rfl rfl (HO.out.alloc _) (new_rpartM (p := (q : Int)) (q := (M : Int) - (X : Int)) (by simp)) ?q1 ?q2 ?_)
        case q1 => rw [uptoP_len]; simp; have := HSM.out; omega
        case q2 => have := HB.out.size; simp; omega
        intro v' w3 ho3 hg3
        have HO3 := Lib.hid ho3
        have HB3 := Lib.hid ((HB.out.alloc HB.out.size (.cells #[.int .i64 (q : Int), .int .i64 ((M : Int) - (X : Int))] 90)).grown hg3 (by have := HB.out.size; simp; omega) (fun k hk => (HO.out.block k hk).1))
        clear ho3 hg3
        go_wp2
        go_roundg (gk - 1)
        case measure => have := HJ.out; omega
        case rel => exact ⟨k + 1, by have := HJ.out; omega, by rw [← Nat.add_assoc, HQ.out]; go_num, by rw [uptoP_succ, HPE.out, show max X a = X from by omega, show min M t = M from by omega]; exact HO3.out, HB3.out⟩
    · have f1 := CE.out k hge
      rw [hq, hX] at f1
      obtain rfl : k = nP t a p := by have := HJ.out; omega
      have hXb := HTP.out
      rw [hq, hX] at hXb
      clear hX hq hNt
      go_wp2
      go_ret
      exact ⟨_, rfl, by rw [HPL.out]; exact HO.out, HB.out⟩
theorem rspread_ok (w : World) (t n p : Int) :
    Calls Tryd.prog 32 #[.int .i64 t, .int .i64 n, .int .i64 p] w fun e w' => ∃ r, e = .returned (.tuple #[r, .int .i64 (spE t n p)]) ∧ OV encG 2 90 w.heap.size w' r (spL t n p) ∧ Below w.heap.size w w' := by
  by_cases hok : TickOk t n p
  · obtain ⟨⟨k1, k1'⟩, ⟨k2, k3⟩, ⟨k4, k5⟩⟩ := hok
    have HOK := Lib.hid (show TickOk t n p from ⟨⟨k1, k1'⟩, ⟨k2, k3⟩, ⟨k4, k5⟩⟩)
    obtain ⟨T, rfl⟩ : ∃ T : Nat, t = T := ⟨t.toNat, by omega⟩
    obtain ⟨N, rfl⟩ : ∃ N : Nat, n = N := ⟨n.toNat, by omega⟩
    obtain ⟨P, rfl⟩ : ∃ P : Nat, p = P := ⟨p.toNat, by omega⟩
    have HC := Lib.hid (rcount_ok w T N P (by omega) (by omega) (by omega) (by omega) (by omega))
    have HS := Lib.hid (fun w1 hm => rsplit_ok w1 T N P (by omega) (by omega) (by omega) (by omega) (by omega) hm)
    have HE := Lib.hid (show spE T N P = if 65536 < manyN T N P then 5 else 0 from by rw [spE, if_neg (by simpa using HOK.out)]; simp)
    go_enter Tryd.func32, Tryd.ntmps32
    go_wp2_with fail
    refine HC.out.mono ?_
    rintro e w1 ⟨rfl, hb⟩
    have HB := Lib.hid hb
    clear hb
    by_cases hm : 65536 < manyN T N P
    · have hm' : (65536 : Int) < (manyN T N P : Nat) := by omega
      go_wp2
      go_ret2
      refine ⟨_, by rw [HE.out, if_pos hm]; rfl, ?_, HB.out⟩
      rw [spL, HE.out, if_pos hm, if_neg (by decide)]
      exact OV.nil _ _
    · have hm' : decide ((65536 : Int) < (manyN T N P : Nat)) = false := by simp; omega
      have HMM := Lib.hid hm
      clear hm
      go_wp2_with fail
      refine (HS.out w1 (by have := HMM.out; omega)).mono ?_
      rintro e w3 ⟨v, rfl, ho, hb3⟩
      go_wp2
      go_ret2
      refine ⟨_, by rw [HE.out, if_neg HMM.out]; rfl, ?_, HB.out.trans (hb3.mono HB.out.size)⟩
      rw [spL, HE.out, if_neg HMM.out, if_pos rfl]
      simp only [Int.toNat_natCast]
      exact ho.base_le HB.out.size
  · have HE := Lib.hid (show spE t n p = 2 from by rw [spE, if_pos hok])
    have HL := Lib.hid (show spL t n p = [] from by rw [spL, HE.out, if_neg (by decide)])
    have B0 := Lib.hid (Below.refl w.heap.size w)
    have fin : ∀ W, W = w → (∃ r, Ending.returned (.tuple #[.slice none 0 0, .int .i64 2]) = .returned (.tuple #[r, .int .i64 (spE t n p)]) ∧ OV encG 2 90 w.heap.size W r (spL t n p) ∧ Below w.heap.size w W) := by
      rintro W rfl
      exact ⟨_, by rw [HE.out], by rw [HL.out]; exact OV.nil _ _, B0.out⟩
    have FIN := Lib.hid fin
    clear fin
    by_cases h1 : n < 1
    · clear hok
      go_enter Tryd.func32, Tryd.ntmps32
      go_wp2
      go_ret2
      exact FIN.out _ rfl
    by_cases h2 : 4294967295 < n
    · clear hok
      go_enter Tryd.func32, Tryd.ntmps32
      go_wp2
      go_ret2
      exact FIN.out _ rfl
    by_cases h3 : t < n
    · clear hok
      go_enter Tryd.func32, Tryd.ntmps32
      go_wp2
      go_ret2
      exact FIN.out _ rfl
    by_cases h4 : 281474976710656 < t
    · clear hok
      go_enter Tryd.func32, Tryd.ntmps32
      go_wp2
      go_ret2
      exact FIN.out _ rfl
    by_cases h5 : p < 1
    · clear hok
      go_enter Tryd.func32, Tryd.ntmps32
      go_wp2
      go_ret2
      exact FIN.out _ rfl
    by_cases h6 : 4294967296 < p
    · clear hok
      go_enter Tryd.func32, Tryd.ntmps32
      go_wp2
      go_ret2
      exact FIN.out _ rfl
    exact absurd ⟨⟨by omega, by omega⟩, ⟨by omega, by omega⟩, by omega, by omega⟩ hok
theorem runtil_ok (w : World) (d l : Int) (hd : d ≤ 9223372036854775807) :
    Calls Tryd.prog 35 #[.int .i64 d, .int .i64 l] w fun e w' => e = .returned (.tuple #[.int .i64 (untN d l), .int .i64 (untE d l)]) ∧ w' = w := by
  by_cases h1 : d < 0
  · go_enter Tryd.func35, Tryd.ntmps35
    go_wp2
    go_ret2
    exact ⟨by rw [untN, untE, if_pos (.inl h1), if_pos (.inl h1)]; rfl, rfl⟩
  by_cases h2 : l < 0
  · go_enter Tryd.func35, Tryd.ntmps35
    go_wp2
    go_ret2
    exact ⟨by rw [untN, untE, if_pos (.inr h2), if_pos (.inr h2)]; rfl, rfl⟩
  have HN := Lib.hid (show ¬ (d < 0 ∨ l < 0) from by omega)
  by_cases h3 : d = 0
  · subst h3
    go_enter Tryd.func35, Tryd.ntmps35
    go_wp2
    go_ret2
    exact ⟨by rw [untN, untE, if_neg HN.out, if_neg HN.out, if_pos rfl, if_pos rfl]; rfl, rfl⟩
  have h3' : (d == 0) = false := by simp [h3]
  by_cases h4 : l = 0
  · subst h4
    have H3 := Lib.hid h3
    clear h3
    go_enter Tryd.func35, Tryd.ntmps35
    go_wp2
    go_ret2
    exact ⟨by rw [untN, untE, if_neg HN.out, if_neg HN.out, if_neg H3.out, if_neg H3.out, if_pos rfl, if_pos rfl]; rfl, rfl⟩
  have h4' : (l == 0) = false := by simp [h4]
  have h4n : ¬ l = 0 := h4
  have hq0 : 0 ≤ d / l := Int.ediv_nonneg (by omega) (by omega)
  have hq1 : d / l ≤ d := Int.ediv_le_self _ (by omega)
  have hup := until_up (d := d) (l := l) (by omega) (by omega)
  have hF : untN d l = (d - 1) / l + 1 ∧ untE d l = 0 := ⟨by rw [untN, if_neg HN.out, if_neg h3, if_neg h4], by rw [untE, if_neg HN.out, if_neg h3, if_neg h4]⟩
  have hlt : d % l < l := Int.emod_lt_of_pos d (by omega)
  have h0l := Int.emod_nonneg d h4
  have hsm : d / l + 1 ≤ d ∨ ¬ 0 < d % l := by
    by_cases hr : 0 < d % l
    · left
      have h5 := Int.mul_ediv_add_emod d l
      have h6 : 1 * (d / l) ≤ l * (d / l) := Int.mul_le_mul_of_nonneg_right (by omega) hq0
      omega
    · right; exact hr
  rw [hup] at hF
  have HF := Lib.hid hF
  clear hup hF
  by_cases hr : 0 < d % l
  · have hsm' : d / l + 1 ≤ d := by rcases hsm with h | h; exact h; exact absurd hr h
    clear hsm
    have HFF := Lib.hid (show untN d l = d / l + 1 from by rw [HF.out.1, if_pos hr])
    go_enter Tryd.func35, Tryd.ntmps35
    go_wp2
    go_ret2
    exact ⟨by rw [HFF.out, HF.out.2]; rfl, rfl⟩
  · have HFF := Lib.hid (show untN d l = d / l from by rw [HF.out.1, if_neg hr])
    clear hsm
    go_enter Tryd.func35, Tryd.ntmps35
    go_wp2
    go_ret2
    exact ⟨by rw [HFF.out, HF.out.2]; rfl, rfl⟩
end Go.Proofs.YtaplangfppohdaaDoor
namespace Go.Proofs.YtaplangfppohdaaDoor
open Go.RowKit Go.Shelf
attribute [local go_sem] Oper.semAt_some

theorem left_ok (w : World) (d q l : Int) (h1 : 0 ≤ d) (h2 : d ≤ 1152921504606846976) (h3 : 0 ≤ q) (h4 : q ≤ 1152921504606846976) (h5 : 0 ≤ l) (h6 : l ≤ 4294967296) :
    Calls Tryd.prog 90 #[.int .i64 d, .int .i64 q, .int .i64 l] w fun e w' => e = .returned (.int .i64 (leftZ d q l)) ∧ w' = w := by
  have HB := Lib.hid (And.intro h1 (And.intro h2 (And.intro h3 h4)))
  have HL := Lib.hid (And.intro h5 h6)
  obtain ⟨V, hV⟩ : ∃ V, leftZ d q l = V := ⟨_, rfl⟩
  have HV := Lib.hid hV
  rw [hV]
  clear hV h1 h2 h3 h4 h5 h6
  go_enter Tryd.func90, Tryd.ntmps90
  go_wp2
  go_loopg [0, 1] q.toNat (fun k dv qv wr => ∃ D Q : Int, dv = .int .i64 D ∧ qv = .int .i64 Q ∧ Q.toNat = k ∧ (0 ≤ D ∧ D ≤ 1152921504606846976) ∧ (0 ≤ Q ∧ Q ≤ 1152921504606846976) ∧ leftZ D Q l = V ∧ wr = w)
  case atStart => exact ⟨d, q, rfl, rfl, rfl, ⟨HB.out.1, HB.out.2.1⟩, HB.out.2.2, HV.out, rfl⟩
  clear HB HV
  case round =>
    obtain ⟨D, Q, rfl, rfl, hk, hD, hQ, hV, rfl⟩ := hrel
    have HK := Lib.hid hk
    have HV := Lib.hid hV
    clear hk hV
    by_cases q0 : Q = 0
    · subst q0
      have he := HV.out
      rw [left_q0 hD.1] at he
      have HE := Lib.hid he
      clear he
      go_wp2
      go_ret
      exact ⟨ret_int HE.out, rfl⟩
    by_cases d0 : D = 0
    · subst d0
      have he := HV.out
      rw [left_d0 hQ.1 HL.out.1] at he
      have HE := Lib.hid he
      clear he
      go_wp2
      go_ret
      exact ⟨ret_int HE.out, rfl⟩
    have hq1 : 0 < Q := by omega
    have hd1 : 0 < D := by omega
    by_cases l0 : l = 0
    · have he := HV.out
      rw [l0, left_l0 hD.1] at he
      subst l0
      have HE := Lib.hid he
      clear he
      go_wp2
      go_ret
      exact ⟨ret_int HE.out, rfl⟩
    have hl1 : 0 < l := by have := HL.out; omega
    have hl2 := HL.out.2
    have l0' : (l == 0) = false := by simp [l0]
    obtain ⟨N, hN⟩ : ∃ N, D / l = N := ⟨_, rfl⟩
    have hf := left_n hD.1 hQ.1 hl1
    rw [hN] at hf
    obtain ⟨f1, f2, f3, f4, f5⟩ := hf
    by_cases n0 : N = 0
    · have he := HV.out
      rw [left_small hD.1 (by omega) hl1 (by rw [hN]; exact n0)] at he
      have hN' : D / l = 0 := by rw [hN, n0]
      have HE := Lib.hid he
      clear hN f3 f4 f5 he
      go_wp2
      go_ret
      exact ⟨ret_int HE.out, rfl⟩
    have n0' : (N == 0) = false := by simp [n0]
    by_cases hNQ : Q < N
    · obtain ⟨g1, g2⟩ := f5 hNQ
      have hst := left_step (d := D) (q := Q) (l := l) (n := Q)
      obtain ⟨P, hP⟩ : ∃ P, Q * l = P := ⟨_, rfl⟩
      rw [hP] at g1 g2 hst
      have HST := Lib.hid (hst.trans HV.out)
      have HBD := Lib.hid (show 0 ≤ D - P ∧ D - P ≤ 1152921504606846976 from by omega)
      clear f3 f4 f5 hst
      go_wp2
      go_roundg 0
      case measure => have := HK.out; omega
      case rel => exact ⟨D - P, 0, by congr 1; try omega, by congr 1; try omega, rfl, HBD.out, by omega, by rw [← HST.out]; congr 1; omega, rfl⟩
    · have hst := left_step (d := D) (q := Q) (l := l) (n := N)
      obtain ⟨P, hP⟩ : ∃ P, N * l = P := ⟨_, rfl⟩
      rw [hP] at f3 f4 hst
      have HST := Lib.hid (hst.trans HV.out)
      have HBD := Lib.hid (show (0 ≤ D - P ∧ D - P ≤ 1152921504606846976) ∧ (0 ≤ Q - N ∧ Q - N ≤ 1152921504606846976) ∧ (Q - N).toNat < Q.toNat from by omega)
      clear f5 hst
      go_wp2
      go_roundg (Q - N).toNat
      case measure => have := HK.out; have := HBD.out.2.2; omega
      case rel => exact ⟨D - P, Q - N, by congr 1; try omega, by congr 1; try omega, rfl, HBD.out.1, HBD.out.2.1, HST.out, rfl⟩
theorem left_bd {d q l : Int} (hd : 0 ≤ d) (hq : 0 ≤ q) (hl : 0 ≤ l) : 0 ≤ leftZ d q l ∧ leftZ d q l ≤ d := by
  have : 0 ≤ q * l := Int.mul_nonneg hq hl
  unfold leftZ; generalize q * l = X at this; omega
set_option maxHeartbeats 1600000 in
theorem rdebts_in (w : World) (v : Value) (l : List (Int × Int)) (limit : Int) (hv : EV encG 2 w v l) (hp : PartsOk l) (hlim : LimOk limit) (hlen : l.length ≤ 65536) :
    Calls Tryd.prog 72 #[v, .int .i64 limit] w fun e w' => ∃ r, e = .returned r ∧ OV encI 1 3 w.heap.size w' r (debtsL l limit) ∧ Below w.heap.size w w' := by
  obtain ⟨A, c, rfl⟩ := hv.shape
  have HV := Lib.hid hv
  have HP := Lib.hid hp
  have HLM := Lib.hid hlim
  clear hv hp hlim
  obtain ⟨n, hn⟩ : ∃ n, n = l.length := ⟨_, rfl⟩
  have HL := Lib.hid hn
  rw [← hn] at hlen ⊢
  have HN := Lib.hid hlen
  clear hn
  go_enter Tryd.func72, Tryd.ntmps72
  go_wp2
  go_loopg [5, 6, 7, 8] n (fun k v d t i wr => ∃ j : Nat, j + k = n ∧ i = .int .i64 j ∧ d = .int .i64 (debtAt l limit j) ∧ t = .int .i64 (lastP l j + 1) ∧ OV encI 1 3 w.heap.size wr v (upto (fun j => debtAt l limit (j + 1)) j) ∧ Below w.heap.size w wr)
  case atStart => exact ⟨0, by omega, rfl, rfl, rfl, OV.nil _ _, Below.refl _ _⟩
  case round =>
    obtain ⟨j, hj, rfl, rfl, rfl, ho, hb⟩ := hrel
    have HJ := Lib.hid hj
    have HO := Lib.hid ho
    have HB := Lib.hid hb
    clear hj ho hb
    by_cases hlt : j < n
    · have hev := HV.out.below HB.out
      obtain ⟨b, off, c', hsl, hcc, hr⟩ := hev.row (by have := HL.out; omega)
      simp only [Value.slice.injEq] at hsl
      rw [← HL.out] at hcc
      obtain ⟨rfl, _, rfl⟩ := hsl
      obtain ⟨g0, g1⟩ := grp_at hr (j := j) (by rw [← HL.out]; exact hlt)
      have hpo := HP.out j (by rw [← HL.out]; exact hlt)
      have hlb := last_bound (l := l) (j := j) (fun q hq => HP.out q (by rw [← HL.out]; omega))
      have hdb := debt_bound (l := l) HLM.out (j := j) (fun q hq => HP.out q (by rw [← HL.out]; omega))
      have hT : 0 ≤ lastP l j + 1 := by omega
      have hde := show debtAt l limit (j + 1) = _ from after_left (lastP l j) (debtAt l limit j) (partAt l j).1 (partAt l j).2 limit
      obtain ⟨P, hP⟩ : ∃ P, (partAt l j).1 = P := ⟨_, rfl⟩
      have HPJ := Lib.hid hP
      unfold PartOk at hpo
      rw [hP] at hpo g0 hde
      clear hP hr hev hcc
      generalize (partAt l j).2 = K at hpo g1 hde
      generalize lastP l j + 1 = T at hpo hde hT ⊢
      generalize debtAt l limit j = D at hdb hde ⊢
      obtain ⟨⟨p1, p2⟩, p3, p4⟩ := hpo
      have hn5 := HN.out
      have hlm := HLM.out
      unfold LimOk at hlm
      have hD : D ≤ 281474976710656 := by have : (j : Int) * 4294967296 ≤ 65536 * 4294967296 := Int.mul_le_mul_of_nonneg_right (by omega) (by omega); omega
      have HLF := Lib.hid (fun W => left_ok W D (P - T) limit hdb.1 (by omega) (by omega) (by omega) hlm.1 hlm.2)
      have hX := left_bd hdb.1 (show 0 ≤ P - T by omega) hlm.1
      obtain ⟨hd0, _⟩ := hdb
      generalize leftZ D (P - T) limit = X at hde hX HLF
      clear hlb
      by_cases hneg : X + K - limit < 0
      · rw [show max (X + K - limit) 0 = 0 by omega] at hde
        have HDE := Lib.hid hde.symm
        clear hde
        go_wp2_with fail
        go_quiet ((go_at_call 90; exact Calls.quiet_of_same (HLF.out _)))
        clear g0 g1
        go_wp2_with (at_builtin; refine wpList_app elemI encI_len encI_one rfl _ _ rfl _ _ rfl rfl ((HO.out.below (below_drewN (Below.refl _ _) nq)).alloc _) (new_oneM (z := 0) (by simp)) ?q1 ?q2 ?_)
        case q1 => rw [upto_len]; simp; have := HN.out; omega
        case q2 => have := HB.out.size; simp; omega
        intro v' w4 ho4 hg4
        have HO4 := Lib.hid ho4
        have hb4 := (((below_drewN HB.out nq).alloc (by have := HB.out.size; simpa using this) (.cells #[.int .i64 (0)] 3)).grown hg4 (by have := HB.out.size; simp; omega) (fun k hk => (HO.out.block k hk).1))
        have HB4 := Lib.hid hb4
        obtain ⟨g0, _⟩ := grp_at ((HV.out.below hb4).row3 (by rw [← HL.out]; omega)) (j := j) (by rw [← HL.out]; exact hlt)
        rw [HPJ.out] at g0
        clear ho4 hg4 hb4
        go_wp2
        go_roundg (gk - 1)
        case measure => have := HJ.out; omega
        case rel => exact ⟨j + 1, by have := HJ.out; omega, by go_num, by rw [← HDE.out]; try (congr 1; omega), by rw [lastP_succ, HPJ.out], by rw [upto_succ, ← HDE.out]; exact HO4.out, HB4.out⟩
      · rw [show max (X + K - limit) 0 = X + K - limit by omega] at hde
        have HDE := Lib.hid hde.symm
        clear hde
        go_wp2_with fail
        go_quiet ((go_at_call 90; exact Calls.quiet_of_same (HLF.out _)))
        clear g0 g1
        go_wp2_with (at_builtin; refine wpList_app elemI encI_len encI_one rfl _ _ rfl _ _ rfl rfl ((HO.out.below (below_drewN (Below.refl _ _) nq)).alloc _) (new_oneM (z := X + K - limit) (by simp)) ?q1 ?q2 ?_)
        case q1 => rw [upto_len]; simp; have := HN.out; omega
        case q2 => have := HB.out.size; simp; omega
        intro v' w4 ho4 hg4
        have HO4 := Lib.hid ho4
        have hb4 := (((below_drewN HB.out nq).alloc (by have := HB.out.size; simpa using this) (.cells #[.int .i64 (X + K - limit)] 3)).grown hg4 (by have := HB.out.size; simp; omega) (fun k hk => (HO.out.block k hk).1))
        have HB4 := Lib.hid hb4
        obtain ⟨g0, _⟩ := grp_at ((HV.out.below hb4).row3 (by rw [← HL.out]; omega)) (j := j) (by rw [← HL.out]; exact hlt)
        rw [HPJ.out] at g0
        clear ho4 hg4 hb4
        go_wp2
        go_roundg (gk - 1)
        case measure => have := HJ.out; omega
        case rel => exact ⟨j + 1, by have := HJ.out; omega, by go_num, by rw [← HDE.out]; try (congr 1; omega), by rw [lastP_succ, HPJ.out], by rw [upto_succ, ← HDE.out]; exact HO4.out, HB4.out⟩
    · obtain rfl : n = j := by have := HJ.out; omega
      go_wp2
      go_ret
      refine ⟨_, rfl, ?_, HB.out⟩
      rw [debtsL, ← HL.out]
      exact HO.out
end Go.Proofs.YtaplangfppohdaaDoor
namespace Go.Proofs.YtaplangfppohdaaDoor
open Go.RowKit Go.Shelf
attribute [local go_sem] Oper.semAt_some

def rBad (l : List (Int × Int)) (j : Nat) : Prop := (partAt l j).1 < 0 ∨ 281474976710656 < (partAt l j).1 ∨ (0 < j ∧ (partAt l j).1 ≤ (partAt l (j - 1)).1) ∨ (partAt l j).2 < 0 ∨ 4294967296 < (partAt l j).2
theorem rcheck_at {l : List (Int × Int)} {j : Nat} (h : ∀ q, q < j → PartOk l q) : PartOk l j ↔ ¬ rBad l j := by
  unfold rBad
  rcases Nat.eq_zero_or_pos j with rfl | h0
  · unfold PartOk lastP
    simp only [if_true]
    omega
  · have h1 := h (j - 1) (by omega)
    have h2 := (last_bound (l := l) (j := j - 1) (fun q hq => h q (by omega))).1
    unfold PartOk at h1 ⊢
    rw [show lastP l j = (partAt l (j - 1)).1 from by unfold lastP; rw [if_neg (by omega)]]
    omega
set_option maxHeartbeats 1600000 in
theorem rDebts_ok (w : World) (v : Value) (l : List (Int × Int)) (limit : Int) (hv : EV encG 2 w v l) (hlen : l.length ≤ 1000000000) :
    Calls Tryd.prog 34 #[v, .int .i64 limit] w fun e w' => ∃ r, e = .returned (.tuple #[r, .int .i64 (dbtE l limit)]) ∧ OV encI 1 3 w.heap.size w' r (dbtL l limit) ∧ Below w.heap.size w w' := by
  obtain ⟨A, c, rfl⟩ := hv.shape
  have HV := Lib.hid hv
  clear hv
  obtain ⟨n, hn⟩ : ∃ n, n = l.length := ⟨_, rfl⟩
  have HN := Lib.hid hn
  rw [← hn] at hlen ⊢
  clear hn
  have HB0 := Lib.hid (Below.refl w.heap.size w)
  by_cases hl0 : limit < 0
  · have HE2 := Lib.hid (show dbtE l limit = 2 from by rw [dbtE, if_pos (.inr (fun h => by unfold LimOk at h; omega))])
    go_enter Tryd.func34, Tryd.ntmps34
    go_wp2
    go_ret2
    exact ⟨_, by rw [HE2.out]; rfl, by rw [dbtL, HE2.out, if_neg (by decide)]; exact OV.nil _ _, HB0.out⟩
  by_cases hl1 : 4294967296 < limit
  · have HE2 := Lib.hid (show dbtE l limit = 2 from by rw [dbtE, if_pos (.inr (fun h => by unfold LimOk at h; omega))])
    go_enter Tryd.func34, Tryd.ntmps34
    go_wp2
    go_ret2
    exact ⟨_, by rw [HE2.out]; rfl, by rw [dbtL, HE2.out, if_neg (by decide)]; exact OV.nil _ _, HB0.out⟩
  have HLM := Lib.hid (show LimOk limit from ⟨by omega, by omega⟩)
  go_enter Tryd.func34, Tryd.ntmps34
  go_wp2
  clear hl0 hl1
  go_loopg [6] n (fun k i wr => ∃ j : Nat, j + k = n ∧ i = .int .i64 j ∧ (∀ q, q < j → PartOk l q) ∧ Below w.heap.size w wr)
  case atStart => exact ⟨0, by omega, rfl, fun q hq => by omega, HB0.out⟩
  case round =>
    obtain ⟨j, hj, rfl, ha, hb⟩ := hrel
    have HJ := Lib.hid hj
    have HA := Lib.hid ha
    have HB := Lib.hid hb
    clear hj ha hb
    by_cases hlt : j < n
    · have hev := HV.out.below HB.out
      obtain ⟨b, off, c', hsl, hcc, hr⟩ := hev.row (by have := HN.out; omega)
      simp only [Value.slice.injEq] at hsl
      rw [← HN.out] at hcc
      obtain ⟨rfl, _, rfl⟩ := hsl
      obtain ⟨g0, g1⟩ := grp_at hr (j := j) (by rw [← HN.out]; exact hlt)
      have HR := Lib.hid hr
      clear hr hev
      go_upto_region 7 with fail
      have hbel := bel_alloc wr (.cells #[.int .i64 (partAt l j).1, .int .i64 (partAt l j).2] 90)
      have b0 : (wr.alloc (.cells #[.int .i64 (partAt l j).1, .int .i64 (partAt l j).2] 90)).cell? ⟨wr.heap.size, 0, none⟩ = some (.int .i64 (partAt l j).1) := by go_simp
      have b1 : (wr.alloc (.cells #[.int .i64 (partAt l j).1, .int .i64 (partAt l j).2] 90)).cell? ⟨wr.heap.size, 1, none⟩ = some (.int .i64 (partAt l j).2) := by go_simp
      have HB2 := Lib.hid (HB.out.trans (hbel.mono HB.out.size))
      have gp := (grp_at (HR.out.below hbel) (j := j - 1) (by rw [← HN.out]; omega)).1
      clear g0 g1 hbel hcc
      generalize wr.alloc (.cells #[.int .i64 (partAt l j).1, .int .i64 (partAt l j).2] 90) = w2 at b0 b1 HB2 gp ⊢
      generalize wr.heap.size = B at b0 b1 ⊢
      have hjn : 0 ≤ (j : Int) := by omega
      by_cases a1 : (partAt l j).1 < 0
      · have hbad : rBad l j := .inl a1
        have HE2 := Lib.hid (show dbtE l limit = 2 from by rw [dbtE, if_pos (.inl (fun hp => ((rcheck_at HA.out).1 (hp j (by rw [← HN.out]; exact hlt))) hbad))])
        have dd := decide_eq_true a1
        clear hbad a1
        go_wp2_with fail
        go_big_region
        go_wp2
        go_ret2
        exact ⟨_, by rw [HE2.out]; rfl, by rw [dbtL, HE2.out, if_neg (by decide)]; exact OV.nil _ _, by first | exact below_drewN HB2.out _ | exact below_drew HB2.out | exact HB2.out⟩
      have da1 := decide_eq_false a1
      by_cases a2 : 281474976710656 < (partAt l j).1
      · have hbad : rBad l j := .inr (.inl a2)
        have HE2 := Lib.hid (show dbtE l limit = 2 from by rw [dbtE, if_pos (.inl (fun hp => ((rcheck_at HA.out).1 (hp j (by rw [← HN.out]; exact hlt))) hbad))])
        have dd := decide_eq_true a2
        clear hbad a2
        go_wp2_with fail
        go_big_region
        go_wp2
        go_ret2
        exact ⟨_, by rw [HE2.out]; rfl, by rw [dbtL, HE2.out, if_neg (by decide)]; exact OV.nil _ _, by first | exact below_drewN HB2.out _ | exact below_drew HB2.out | exact HB2.out⟩
      have da2 := decide_eq_false a2
      rcases Nat.eq_zero_or_pos j with hj0 | hj0
      · have hz : decide ((0 : Int) < (j : Int)) = false := by simp; omega
        have hz2 : decide (0 < j) = false := by simp; omega
        have HJ0 := Lib.hid hj0
        clear gp hj0
        by_cases a4 : (partAt l j).2 < 0
        · have hbad : rBad l j := .inr (.inr (.inr (.inl a4)))
          have HE2 := Lib.hid (show dbtE l limit = 2 from by rw [dbtE, if_pos (.inl (fun hp => ((rcheck_at HA.out).1 (hp j (by rw [← HN.out]; exact hlt))) hbad))])
          have dd := decide_eq_true a4
          clear hbad a4
          go_wp2_with fail
          go_big_region
          go_wp2
          go_ret2
          exact ⟨_, by rw [HE2.out]; rfl, by rw [dbtL, HE2.out, if_neg (by decide)]; exact OV.nil _ _, by first | exact below_drewN HB2.out _ | exact below_drew HB2.out | exact HB2.out⟩
        have da4 := decide_eq_false a4
        by_cases a5 : 4294967296 < (partAt l j).2
        · have hbad : rBad l j := .inr (.inr (.inr (.inr a5)))
          have HE2 := Lib.hid (show dbtE l limit = 2 from by rw [dbtE, if_pos (.inl (fun hp => ((rcheck_at HA.out).1 (hp j (by rw [← HN.out]; exact hlt))) hbad))])
          have dd := decide_eq_true a5
          clear hbad a5
          go_wp2_with fail
          go_big_region
          go_wp2
          go_ret2
          exact ⟨_, by rw [HE2.out]; rfl, by rw [dbtL, HE2.out, if_neg (by decide)]; exact OV.nil _ _, by first | exact below_drewN HB2.out _ | exact below_drew HB2.out | exact HB2.out⟩
        have da5 := decide_eq_false a5
        have HP := Lib.hid ((rcheck_at HA.out).2 (show ¬ rBad l j from by have := HJ0.out; unfold rBad; omega))
        go_wp2_with fail
        go_big_region
        go_wp2
        go_roundg (gk - 1)
        case measure => have := HJ.out; omega
        case rel =>
          refine ⟨j + 1, by have := HJ.out; omega, by go_num, fun q hq => ?_, by first | exact below_drewN HB2.out _ | exact below_drew HB2.out | exact HB2.out⟩
          obtain rfl : q = j := by have := HJ0.out; omega
          exact HP.out
      · have hj1 : (0 : Int) < (j : Int) := by omega
        have hj1d := decide_eq_true hj1
        have hj1e : decide (0 < j) = true := by simp; omega
        have hj2 : (0 : Int) ≤ (j : Int) - 1 := by omega
        have hj3 : 1 ≤ j := hj0
        by_cases a3 : (partAt l j).1 ≤ (partAt l (j - 1)).1
        · have hbad : rBad l j := .inr (.inr (.inl ⟨hj0, a3⟩))
          have HE2 := Lib.hid (show dbtE l limit = 2 from by rw [dbtE, if_pos (.inl (fun hp => ((rcheck_at HA.out).1 (hp j (by rw [← HN.out]; exact hlt))) hbad))])
          have dd := decide_eq_true a3
          clear hbad a3
          go_wp2_with fail
          go_big_region
          go_wp2
          go_ret2
          exact ⟨_, by rw [HE2.out]; rfl, by rw [dbtL, HE2.out, if_neg (by decide)]; exact OV.nil _ _, by first | exact below_drewN HB2.out _ | exact below_drew HB2.out | exact HB2.out⟩
        have da3 := decide_eq_false a3
        by_cases a4 : (partAt l j).2 < 0
        · have hbad : rBad l j := .inr (.inr (.inr (.inl a4)))
          have HE2 := Lib.hid (show dbtE l limit = 2 from by rw [dbtE, if_pos (.inl (fun hp => ((rcheck_at HA.out).1 (hp j (by rw [← HN.out]; exact hlt))) hbad))])
          have dd := decide_eq_true a4
          clear hbad a4
          go_wp2_with fail
          go_big_region
          go_wp2
          go_ret2
          exact ⟨_, by rw [HE2.out]; rfl, by rw [dbtL, HE2.out, if_neg (by decide)]; exact OV.nil _ _, by first | exact below_drewN HB2.out _ | exact below_drew HB2.out | exact HB2.out⟩
        have da4 := decide_eq_false a4
        by_cases a5 : 4294967296 < (partAt l j).2
        · have hbad : rBad l j := .inr (.inr (.inr (.inr a5)))
          have HE2 := Lib.hid (show dbtE l limit = 2 from by rw [dbtE, if_pos (.inl (fun hp => ((rcheck_at HA.out).1 (hp j (by rw [← HN.out]; exact hlt))) hbad))])
          have dd := decide_eq_true a5
          clear hbad a5
          go_wp2_with fail
          go_big_region
          go_wp2
          go_ret2
          exact ⟨_, by rw [HE2.out]; rfl, by rw [dbtL, HE2.out, if_neg (by decide)]; exact OV.nil _ _, by first | exact below_drewN HB2.out _ | exact below_drew HB2.out | exact HB2.out⟩
        have da5 := decide_eq_false a5
        have HP := Lib.hid ((rcheck_at HA.out).2 (show ¬ rBad l j from by unfold rBad; omega))
        go_wp2_with fail
        go_big_region
        go_wp2
        go_roundg (gk - 1)
        case measure => have := HJ.out; omega
        case rel =>
          refine ⟨j + 1, by have := HJ.out; omega, by go_num, fun q hq => ?_, by first | exact below_drewN HB2.out _ | exact below_drew HB2.out | exact HB2.out⟩
          rcases Nat.lt_or_ge q j with h | h
          · exact HA.out q h
          · obtain rfl : q = j := by omega
            exact HP.out
    · obtain rfl : n = j := by have := HJ.out; omega
      have HPS := Lib.hid (show PartsOk l from fun q hq => HA.out q (by rw [HN.out]; exact hq))
      by_cases h2 : 65536 < n
      · have h2' : (65536 : Int) < (n : Int) := by omega
        have HE := Lib.hid (show dbtE l limit = 5 from by rw [dbtE, if_neg (by simp [HPS.out, HLM.out]), if_pos (by rw [← HN.out]; exact h2)])
        go_wp2
        go_ret2
        exact ⟨_, by rw [HE.out]; rfl, by rw [dbtL, HE.out, if_neg (by decide)]; exact OV.nil _ _, HB.out⟩
      have h2' : decide ((65536 : Int) < (n : Int)) = false := by simp; omega
      have HE := Lib.hid (show dbtE l limit = 0 from by rw [dbtE, if_neg (by simp [HPS.out, HLM.out]), if_neg (by rw [← HN.out]; exact h2)])
      have HC := Lib.hid (rdebts_in wr (.slice A n c) l limit (by rw [HN.out]; exact HV.out.below HB.out) HPS.out HLM.out (by rw [← HN.out]; omega))
      clear h2
      go_wp2_with fail
      refine HC.out.mono ?_
      rintro e w3 ⟨r, rfl, o, bb⟩
      go_wp2
      go_ret2
      refine ⟨_, by rw [HE.out]; rfl, ?_, HB.out.trans (bb.mono HB.out.size)⟩
      rw [dbtL, HE.out, if_pos rfl]
      exact o.base_le HB.out.size
end Go.Proofs.YtaplangfppohdaaDoor
namespace Go.Proofs.YtaplangfppohdaaDoor
open Go.RowKit Go.Shelf
attribute [local go_sem] Oper.semAt_some

set_option maxHeartbeats 400000 in
theorem clone_part (w : World) (v1 : Value) (xs : List (Int × Int)) (h1 : EV encG 2 w v1 xs) (b1 : xs.length ≤ 1000000000) :
    Calls Tryd.prog 33 #[v1] w fun e w' => ∃ v, e = .returned v ∧ OV encG 2 27 w.heap.size w' v xs ∧ Below w.heap.size w w' := by
  obtain ⟨A, c, rfl⟩ := h1.shape
  have H1 := Lib.hid h1
  clear h1
  have heq : ∀ (w : World) (a : Option Addr) (n c n' c' : Nat), (binOp .eql 25 (.slice a n c) (.slice none n' c')).run Tryd.prog w = .ok (.bool a.isNone) w := fun w a n c n' c' => Lib.run_eql_slice_nil w _ _ a n c n' c' Tryd.underlying25
  cases A with
  | none =>
    obtain rfl : xs = [] := by
      rcases H1.out with ⟨h, _⟩ | ⟨_, b, off, c', h, _⟩
      · exact h
      · cases h
    clear H1 b1
    go_enter Tryd.func33, Tryd.ntmps33
    go_wp2
    go_ret
    exact ⟨_, rfl, OV.nil _ _, Below.refl _ _⟩
  | some ad =>
    go_enter Tryd.func33, Tryd.ntmps33
    go_wp2_with (at_builtin; refine wpList_app elemPt encG_len encG_one rfl _ _ rfl _ _ rfl rfl (OV.made w 0 #[] (Nat.le_refl _) (Nat.zero_le _) rfl) (H1.out.keep fun p u hc => ?qc) ?qn ?qb ?_)
    case qc => exact (World.cell?_alloc_lt w _ p (cell_lt hc)).trans hc
    case qn => simpa using b1
    case qb => simp
    intro v' w1 hown hgrow
    go_wp2
    go_ret
    refine ⟨v', rfl, by simpa using hown, ((Below.refl _ w).alloc (Nat.le_refl _) _).grown hgrow (by simp) (by intro k hk; simp [Value.ownBlock] at hk; omega)⟩

theorem sp_len (t n p : Int) : (spL t n p).length ≤ 65536 := by
  unfold spL
  split
  · rename_i h
    rw [partsL_len]
    unfold spE at h
    split at h
    · cases h
    · split at h
      · cases h
      · omega
  · simp
set_option maxHeartbeats 800000 in
theorem spreads_ok (w : World) (t n p : Int) :
    Calls Tryd.prog 13 #[.int .i64 t, .int .i64 n, .int .i64 p] w fun e w' => e = .returned (.bool true) ∧ Below w.heap.size w w' := by
  obtain ⟨L, hL⟩ : ∃ L, (spL t n p).length = L := ⟨_, rfl⟩
  have HL := Lib.hid hL
  have HSM := Lib.hid (show L ≤ 65536 from hL ▸ sp_len t n p)
  clear hL
  have HS := Lib.hid (spread_ok w t n p)
  have HR := Lib.hid (fun w1 => rspread_ok w1 t n p)
  go_enter Tryd.func13, Tryd.ntmps13
  go_wp2_with fail
  refine HS.out.mono ?_
  rintro e w1 ⟨r, rfl, o1, b1⟩
  obtain ⟨A, c, hs⟩ := (o1.ev encG_len).shape
  subst hs
  have HE1 := Lib.hid (o1.ev encG_len)
  have HB1 := Lib.hid b1
  clear o1 b1 HS
  go_wp2_with fail
  refine (HR.out w1).mono ?_
  rintro e w2 ⟨r, rfl, o2, b2⟩
  obtain ⟨A2, c2, hs⟩ := (o2.ev encG_len).shape
  subst hs
  have HE2 := Lib.hid (o2.ev encG_len)
  have HE1' := Lib.hid (HE1.out.below b2)
  have HB2 := Lib.hid (HB1.out.trans (b2.mono HB1.out.size))
  clear o2 b2 HR HE1 HB1
  rw [HL.out] at HE1' HE2 ⊢
  generalize spE t n p = E
  have hsm := HSM.out
  go_wp2
  go_loopg [38] L (fun k i wr => ∃ j : Nat, j + k = L ∧ i = .int .i64 j ∧ Below w2.heap.size w2 wr)
  case atStart => exact ⟨0, by omega, rfl, Below.refl _ _⟩
  case round =>
    obtain ⟨j, hj, rfl, hb⟩ := hrel
    have HJ := Lib.hid hj
    have HB := Lib.hid hb
    clear hj hb
    by_cases hlt : j < L
    · obtain ⟨x, hx⟩ : ∃ x, (spL t n p)[j]? = some x := ⟨_, List.getElem?_eq_getElem (by rw [HL.out]; exact hlt)⟩
      obtain ⟨b, off, c', hv, hc, r1⟩ := (HE1'.out.below HB.out).row (by rw [HL.out]; omega)
      obtain ⟨b', off', c'', hv', hc', r2⟩ := (HE2.out.below HB.out).row (by rw [HL.out]; omega)
      rw [HL.out] at hv hv' hc hc'
      simp only [Value.slice.injEq, true_and] at hv hv'
      obtain ⟨rfl, rfl⟩ := hv
      obtain ⟨rfl, rfl⟩ := hv'
      obtain ⟨c0, c1⟩ := r1.pt hx
      obtain ⟨d0, d1⟩ := r2.pt hx
      clear hx r1 r2
      go_wp2_with fail
      go_quiet (fail)
      go_wp2
      go_roundg (gk - 1)
      case measure => have := HJ.out; omega
      case rel => exact ⟨j + 1, by have := HJ.out; omega, by go_num, below_drewN HB.out _⟩
    · go_wp2
      go_ret
      exact ⟨rfl, HB2.out.trans (HB.out.mono HB2.out.size)⟩
set_option maxHeartbeats 1600000 in
theorem debts_law (w : World) (v : Value) (l : List (Int × Int)) (limit debt : Int) (hv : EV encG 2 w v l) (hlen : l.length ≤ 100000) (hd : debt ≤ 9223372036854775807) :
    Calls Tryd.prog 14 #[v, .int .i64 limit, .int .i64 debt] w fun e w' => e = .returned (.bool true) ∧ Below w.heap.size w w' := by
  obtain ⟨A, c, rfl⟩ := hv.shape
  have HV := Lib.hid hv
  have HCL := Lib.hid (clone_part w _ l hv (by omega))
  clear hv
  obtain ⟨n, hn⟩ : ∃ n, n = l.length := ⟨_, rfl⟩
  have HN := Lib.hid hn
  rw [← hn] at hlen HCL HV ⊢
  clear hn
  have HLEN := Lib.hid hlen
  have HD := Lib.hid hd
  clear hd
  go_enter Tryd.func14, Tryd.ntmps14
  go_wp2_with fail
  refine HCL.out.mono ?_
  rintro e w1 ⟨vo, rfl, o1, b1⟩
  have HO1 := Lib.hid o1
  have HB1 := Lib.hid b1
  clear o1 b1 HCL
  go_wp2
  go_loopg [8, 23] n (fun k v i wr => ∃ j : Nat, j + k = n ∧ i = .int .i64 j ∧ OV encG 2 90 w1.heap.size wr v (l.take j) ∧ Below w1.heap.size w1 wr)
  case atStart => exact ⟨0, by omega, rfl, OV.nil _ _, Below.refl _ _⟩
  case round =>
    obtain ⟨j, hj, rfl, ho, hb⟩ := hrel
    have HJ := Lib.hid hj
    have HO := Lib.hid ho
    have HB := Lib.hid hb
    have HB2 := Lib.hid (HB1.out.trans (hb.mono HB1.out.size))
    clear hj ho hb
    by_cases hlt : j < n
    · obtain ⟨b, off, c', hsl, hcc, hr⟩ := (HV.out.below HB2.out).row (by have := HN.out; omega)
      simp only [Value.slice.injEq] at hsl
      obtain ⟨rfl, hz, rfl⟩ := hsl
      clear hz
      obtain ⟨x, hx⟩ : ∃ x, l[j]? = some x := ⟨_, List.getElem?_eq_getElem (by rw [← HN.out]; exact hlt)⟩
      obtain ⟨g0, g1⟩ := hr.pt hx
      have HX := Lib.hid hx
      clear hr hx hcc
      go_wp2_with (at_builtin; refine wpList_app elemRPt encG_len encG_one rfl _ _ rfl _ _ rfl rfl ((HO.out.alloc _).alloc _) (new_rpartM (p := x.1) (q := x.2) (by simp)) ?q1 ?q2 ?_)
      case q1 => simp; omega
      case q2 => have := HB.out.size; simp; omega
      intro v' w3 ho3 hg3
      have HO3 := Lib.hid ho3
      have HB3 := Lib.hid (((HB.out.alloc HB.out.size (.cells #[.int .i64 x.1, .int .i64 x.2] 27)).alloc (by have := HB.out.size; simp; omega) (.cells #[.int .i64 x.1, .int .i64 x.2] 90)).grown hg3 (by have := HB.out.size; simp; omega) (fun k hk => (HO.out.block k hk).1))
      clear ho3 hg3
      go_wp2
      go_roundg (gk - 1)
      case measure => have := HJ.out; omega
      case rel => exact ⟨j + 1, by have := HJ.out; omega, by go_num, by rw [List.take_add_one, HX.out]; exact HO3.out, HB3.out⟩
    · obtain rfl : n = j := by have := HJ.out; omega
      have F : Facts wr [sOV encG 2 90 w1.heap.size u8 l, sOV encG 2 27 w.heap.size vo l, sEV encG 2 (.slice A n c) l, sB w] :=
        ⟨by have := HO.out; rwa [List.take_of_length_le (by rw [← HN.out]; omega)] at this, HO1.out.below HB.out, HV.out.below HB2.out, HB2.out, trivial⟩
      clear HO HJ HB HB2 HO1 HB1
      go_wp2_with fail
      refine (debts_ok wr vo l limit (OV.ev (F.get 1) encG_len) (by rw [← HN.out]; omega)).mono ?_
      rintro e w2 ⟨ra, rfl, o, bb⟩
      replace F : Facts w2 (sOV encI 1 3 wr.heap.size ra (dbtL l limit) :: _) := ⟨o, F.below bb⟩
      clear bb o
      go_wp2_with fail
      refine (rDebts_ok w2 u8 l limit (OV.ev (F.get 1) encG_len) (by rw [← HN.out]; omega)).mono ?_
      rintro e w3 ⟨rb, rfl, o, bb⟩
      replace F : Facts w3 (sOV encI 1 3 w2.heap.size rb (dbtL l limit) :: _) := ⟨o, F.below bb⟩
      clear bb o
      have HLD := Lib.hid (show (dbtL l limit).length ≤ 100000 from by
        unfold dbtL
        split
        · rw [debtsL, upto_len, ← HN.out]; exact HLEN.out
        · simp)
      go_wp2_with fail
      refine (until_ok w3 debt limit HD.out).mono ?_
      rintro e w4 ⟨rfl, rfl⟩
      go_wp2_with fail
      refine (runtil_ok w4 debt limit HD.out).mono ?_
      rintro e w5 ⟨rfl, rfl⟩
      generalize dbtE l limit = E
      generalize untN debt limit = U
      generalize untE debt limit = V
      go_wp2_with fail
      refine (eq_int w5 ra rb (dbtL l limit) (OV.ev (F.get 1) encI_len) (OV.ev (F.get 0) encI_len) (by have := HLD.out; omega)).mono ?_
      rintro e w6 ⟨rfl, bb⟩
      replace F := F.below bb
      clear bb
      go_wp2_with fail
      refine (eq_part w6 vo (.slice A n c) l (OV.ev (F.get 3) encG_len) (F.get 4) (by have := HLEN.out; rw [← HN.out]; omega)).mono ?_
      rintro e w7 ⟨rfl, bb⟩
      replace F := F.below bb
      clear bb
      go_wp2
      go_ret
      exact ⟨rfl, F.get 5⟩
end Go.Proofs.YtaplangfppohdaaDoor
