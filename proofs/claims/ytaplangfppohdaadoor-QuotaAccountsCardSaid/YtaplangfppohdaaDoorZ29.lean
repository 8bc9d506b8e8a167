/- How much of each period is used; rules of all groups; plain | QuotaGroups: uses of all groups, their parents' and those of a rule alone; plain | The keys of the law's own maps: arrays of two and three numbers. -/
import Derived.Test.YtaplangfppohdaaDoorZ26
import Derived.Test.YtaplangfppohdaaDoorZ8
set_option linter.unusedVariables false
set_option linter.unusedSimpArgs false
set_option linter.unusedSectionVars false
namespace Go.Proofs.YtaplangfppohdaaDoor
open Go Go.RowKit

/-- How much of a period is in parts. -/
def sumP (l : List (Int × Int)) (k : Int) : Int := (l.map fun q => if q.1 = k then q.2 else 0).sum
theorem sumP_nil (k : Int) : sumP [] k = 0 := rfl
theorem sumP_append (a b : List (Int × Int)) (k : Int) : sumP (a ++ b) k = sumP a k + sumP b k := by simp [sumP]
theorem sumP_one (q : Int × Int) (k : Int) : sumP [q] k = if q.1 = k then q.2 else 0 := by simp [sumP]
theorem sumP_addP (l : List (Int × Int)) (p : Int × Int) (k : Int) : sumP (addP l p) k = sumP l k + sumP [p] k := by
  rcases List.eq_nil_or_concat l with rfl | ⟨r, q, rfl⟩
  · rw [addP_nil, sumP_nil]; omega
  · rw [List.concat_eq_append, addP_snoc]
    split
    · rename_i h
      rw [sumP_append, sumP_append, sumP_one, sumP_one, sumP_one]
      dsimp only
      rw [h]
      split <;> omega
    · rw [sumP_append]
theorem sumP_adds (ps : List (Int × Int)) (k : Int) : ∀ l, sumP (addsP l ps) k = sumP l k + sumP ps k := by
  induction ps with
  | nil => intro l; show sumP l k = _; rw [sumP_nil]; omega
  | cons p r ih =>
    intro l
    show sumP (addsP (addP l p) r) k = _
    rw [ih, sumP_addP, show p :: r = [p] ++ r from rfl, sumP_append]; omega
def useAt (gs : List (Int × Int)) (r : Ru) (c : Int) (o : List Rn) (k : Int) : Int := (o.map fun t => if t.cpu = c ∧ hitB gs r t = true then sumP (tickP r t) k else 0).sum
theorem used_sum (gs : List (Int × Int)) (r : Ru) (c : Int) (k : Int) : ∀ o : List Rn, sumP (usedAt gs r c o) k = useAt gs r c o k := by
  intro o
  refine snoc_ind (p := fun o => sumP (usedAt gs r c o) k = useAt gs r c o k) rfl (fun l t ih => ?_) o
  rw [usedAt_snoc]
  unfold useStep useAt at *
  rw [List.map_append, List.sum_append, ← ih]
  simp only [List.map_cons, List.map_nil, List.sum_cons, List.sum_nil]
  split
  · rw [sumP_adds]; omega
  · omega
theorem sumP_pos {l : List (Int × Int)} (h : ∀ q ∈ l, 0 ≤ q.2) (k : Int) : 0 ≤ sumP l k := by
  induction l with
  | nil => simp [sumP]
  | cons q r ih =>
    have h1 := ih (fun x hx => h x (by simp [hx]))
    have h2 := h q (by simp)
    rw [show q :: r = [q] ++ r from rfl, sumP_append, sumP_one]
    split <;> omega
theorem sumP_none {l : List (Int × Int)} {k : Int} (h : ∀ q ∈ l, q.1 ≠ k) : sumP l k = 0 := by
  induction l with
  | nil => rfl
  | cons q r ih =>
    rw [show q :: r = [q] ++ r from rfl, sumP_append, sumP_one, ih (fun x hx => h x (by simp [hx])), if_neg (h q (by simp))]; rfl
theorem sumP_mem {l : List (Int × Int)} {k : Int} (h : 0 < sumP l k) : ∃ q ∈ l, q.1 = k := by
  apply Classical.byContradiction
  intro hn
  rw [sumP_none (fun q hq e => hn ⟨q, hq, e⟩)] at h
  omega
theorem sumP_get {l : List (Int × Int)} (inc : l.Pairwise fun a b => a.1 < b.1) {q : Int × Int} (hq : q ∈ l) : sumP l q.1 = q.2 := by
  induction l with
  | nil => cases hq
  | cons x r ih =>
    rw [List.pairwise_cons] at inc
    rw [show x :: r = [x] ++ r from rfl, sumP_append, sumP_one]
    rcases List.mem_cons.1 hq with rfl | hq
    · rw [if_pos rfl, sumP_none (fun y hy e => by have := inc.1 y hy; omega)]; omega
    · rw [if_neg (by have := inc.1 q hq; omega), ih inc.2 hq]; omega
/-! ### Debts with whole periods -/
def PartsInc (l : List (Int × Int)) : Prop := ∀ j, j < l.length → lastP l j + 1 ≤ (partAt l j).1
theorem debt_zero {l : List (Int × Int)} {p : Int} (hp : 0 ≤ p) (h : ∀ q ∈ l, q.2 ≤ p) (inc : PartsInc l) : ∀ j, j ≤ l.length → debtAt l p j = 0
  | 0, _ => rfl
  | j + 1, hj => by
    have ih := debt_zero hp h inc j (by omega)
    have hx : l[j]? = some l[j] := List.getElem?_eq_getElem (by omega)
    have h1 := h l[j] (List.getElem_mem _)
    have h2 : partAt l j = l[j] := by unfold partAt; rw [hx]; rfl
    show afterN _ _ _ _ _ = 0
    rw [ih, h2]
    have h3 : 0 ≤ (l[j].1 - lastP l j - 1) * p := Int.mul_nonneg (by have := inc j (by omega); rw [h2] at this; omega) hp
    unfold afterN
    generalize (l[j].1 - lastP l j - 1) * p = X at h3
    omega
/-! ### Groups above -/
theorem path_par {gs : List (Int × Int)} (hg : GOK gs) {g : Nat} : ∀ x, x < gs.length → g ∈ path gs x → (par gs g).toNat ∈ path gs x := by
  intro x
  induction x using Nat.strongRecOn with
  | _ x ih =>
    intro hx hm
    rcases Nat.eq_zero_or_pos x with rfl | h0
    · rw [path_zero] at hm ⊢
      simp only [List.mem_singleton] at hm
      subst hm
      rw [par_get hg.root]; simp
    · have hb := hg.bef x h0 hx
      rw [path_succ hg.bef h0 hx] at hm ⊢
      have hpl : (par gs x).toNat < gs.length := by omega
      rcases List.mem_cons.1 hm with rfl | hm
      · exact List.mem_cons_of_mem _ (List.mem_of_getElem? (path_head hg.bef hpl))
      · exact List.mem_cons_of_mem _ (ih _ (by omega) hpl hm)
theorem par_in {gs : List (Int × Int)} (hg : GOK gs) {g : Nat} (h : g < gs.length) : 0 ≤ par gs g ∧ par gs g < gs.length := by
  rcases Nat.eq_zero_or_pos g with rfl | h0
  · rw [par_get hg.root]; dsimp only; omega
  · have := hg.bef g h0 h; omega
theorem hit_iff {gs : List (Int × Int)} (hg : GOK gs) {t : Rn} (ht : RnOk gs.length t) {r : Ru} {g : Nat} (hr : r.g = g) : hitB gs r t = true ↔ g ∈ path gs t.grp.toNat := by
  obtain ⟨x, hx⟩ : ∃ x : Nat, t.grp = x := ⟨t.grp.toNat, by have := ht.2.2.2; omega⟩
  have hxl : x < gs.length := by have := ht.2.2.2; omega
  unfold hitB
  rw [hx, Int.toNat_natCast, hr]
  have hp : pathL gs (x : Int) = ints (path gs x) := by
    unfold pathL
    rw [if_pos (there_zero.2 ⟨hg, fun z hz => by simp only [List.mem_singleton] at hz; omega⟩), Int.toNat_natCast]
  rw [hp]
  simp [ints]
  exact ⟨fun ⟨a, h1, h2⟩ => by rw [show g = a by omega]; exact h1, fun h => ⟨g, h, rfl⟩⟩
/-- The rules of all groups. -/
def rulesG (G p : Nat) : List Ru := (List.range G).map fun g : Nat => ⟨(g : Int), (p : Int), (p : Int)⟩
theorem rulesG_len (G p : Nat) : (rulesG G p).length = G := by simp [rulesG]
theorem rulesG_succ (G p : Nat) : rulesG (G + 1) p = rulesG G p ++ [⟨(G : Int), (p : Int), (p : Int)⟩] := by simp [rulesG, List.range_succ]
theorem rulesG_at {G p g : Nat} (h : g < G) : (rulesG G p)[g]? = some ⟨(g : Int), (p : Int), (p : Int)⟩ := by simp [rulesG, h]
theorem ruAt_rulesG {G p g : Nat} (h : g < G) : ruAt (rulesG G p) g = ⟨(g : Int), (p : Int), (p : Int)⟩ := by unfold ruAt; rw [rulesG_at h]; rfl
theorem rulesG_ok {G p : Nat} (h1 : 1 ≤ p) (h2 : p ≤ 1000) : ∀ r ∈ rulesG G p, RuOk G r := by
  intro r hr
  unfold rulesG at hr
  obtain ⟨g, hg, rfl⟩ := List.mem_map.1 hr
  have := List.mem_range.1 hg
  unfold RuOk; dsimp only; omega
theorem len_sub {l m : List Nat} (hn : l.Nodup) (h : ∀ x ∈ l, x ∈ m) : l.length ≤ m.length := by
  induction l generalizing m with
  | nil => simp
  | cons x r ih =>
    rw [List.nodup_cons] at hn
    have hx := h x (by simp)
    have h2 := ih (m := m.erase x) hn.2 (fun y hy => (List.mem_erase_of_ne (by rintro rfl; exact hn.1 hy)).2 (h y (by simp [hy])))
    rw [List.length_erase_of_mem hx] at h2
    have := List.length_pos_of_mem hx
    rw [List.length_cons]; omega
theorem hits_le {gs : List (Int × Int)} (hg : GOK gs) {t : Rn} (ht : RnOk gs.length t) (p : Nat) : ((rulesG gs.length p).filter fun r => hitB gs r t).length ≤ 5 := by
  have h1 : ((rulesG gs.length p).filter fun r => hitB gs r t).length = ((List.range gs.length).filter fun g : Nat => hitB gs ⟨(g : Int), (p : Int), (p : Int)⟩ t).length := by
    unfold rulesG
    rw [List.filter_map, List.length_map]; rfl
  rw [h1]
  have hx : t.grp.toNat < gs.length := by have := ht.2.2.2; omega
  have h2 := len_sub (l := (List.range gs.length).filter fun g : Nat => hitB gs ⟨(g : Int), (p : Int), (p : Int)⟩ t) (m := path gs t.grp.toNat) (List.nodup_range.filter _) (fun g hgm => by
    rw [List.mem_filter] at hgm
    exact (hit_iff hg ht (r := ⟨(g : Int), (p : Int), (p : Int)⟩) rfl).1 hgm.2)
  have h3 := dep_le hg hx
  unfold dep at h3
  omega
theorem acc_all {gs : List (Int × Int)} {l : List Sq} {p : Nat} (hg : GOK gs) (h1 : 1 ≤ p) (h2 : p ≤ 1000) (hG : gs.length ≤ 256) (hl : l.length ≤ 60) :
    ∃ o, lookL gs.length (homesG gs.length) (madE gs.length l) = some o ∧ o.length ≤ 60 ∧ (∀ t ∈ o, t.ticks ≤ 200 ∧ RnOk gs.length t) ∧ Apart o ∧
      (accE gs (rulesG gs.length p) (homesG gs.length) (madE gs.length l) = 0 ∧ accL gs (rulesG gs.length p) (homesG gs.length) (madE gs.length l) = usesL gs (rulesG gs.length p) o) ∧
      ∀ g : Nat, g < gs.length → accE gs [⟨(g : Int), (p : Int), (p : Int)⟩] (homesG gs.length) (madE gs.length l) = 0 ∧ accL gs [⟨(g : Int), (p : Int), (p : Int)⟩] (homesG gs.length) (madE gs.length l) = usesL gs [⟨(g : Int), (p : Int), (p : Int)⟩] o := by
  obtain ⟨o, a1, a2, a3, a4, a5⟩ := madE_look (l := l) hg.pos hG (by omega)
  have hc := chk_right (rs := rulesG gs.length p) hg (rulesG_ok h1 h2)
  have ha : allN gs (rulesG gs.length p) o ≤ 1000 * o.length := all_le o fun t ht => by
    have h3 := cnt_le (gs := gs) (a3 t ht).2 (a3 t ht).1 (rulesG gs.length p) (fun r hr => (rulesG_ok h1 h2 r hr).2.1.1)
    have h4 := hits_le hg (a3 t ht).2 p
    omega
  have he : accE gs (rulesG gs.length p) (homesG gs.length) (madE gs.length l) = 0 := by
    unfold accE
    rw [hc, a1, if_neg (by simp)]
    dsimp only
    rw [if_neg (by omega)]
  refine ⟨o, a1, by omega, a3, a4, ⟨he, by unfold accL; rw [if_pos he, a1]⟩, fun g hgl => ?_⟩
  obtain ⟨o', b1, _, _, _, b2, b3⟩ := acc_one (gs := gs) (l := l) (r := ⟨(g : Int), (p : Int), (p : Int)⟩) hg (rulesG_ok h1 h2 _ (List.mem_of_getElem? (rulesG_at hgl))) hG hl
  rw [a1] at b1
  cases b1
  exact ⟨b2, b3⟩
end Go.Proofs.YtaplangfppohdaaDoor
namespace Go.Proofs.YtaplangfppohdaaDoor
open Go Go.RowKit

theorem part_mem {ps : List (Int × Int)} {j : Nat} (h : j < ps.length) : partAt ps j ∈ ps := by
  unfold partAt; rw [List.getElem?_eq_getElem h]; exact List.getElem_mem _
theorem mem_part {ps : List (Int × Int)} {q : Int × Int} (h : q ∈ ps) : ∃ j, j < ps.length ∧ partAt ps j = q := by
  obtain ⟨j, hj, rfl⟩ := List.getElem_of_mem h
  exact ⟨j, hj, by unfold partAt; rw [List.getElem?_eq_getElem hj]; rfl⟩
theorem acc_inc {p : Nat} {t : Int} {l : List (Int × Int)} (h : AccOk p t l) : PartsInc l := by
  intro j hj
  unfold lastP
  split
  · have := h.each _ (part_mem hj); omega
  · have h1 := List.pairwise_iff_getElem.1 h.inc (j - 1) j (by omega) hj (by omega)
    unfold partAt
    rw [List.getElem?_eq_getElem hj, List.getElem?_eq_getElem (show j - 1 < l.length by omega)]
    simp only [Option.getD_some]
    omega
section
variable {gs : List (Int × Int)} {G p : Nat} {o : List Rn}
/-- All ticks are right, and lie one after the other. -/
structure OOk (G : Nat) (o : List Rn) : Prop where
  each : ∀ t ∈ o, RnOk G t
  apart : Apart o
theorem OOk.acc (h : OOk G o) (hp : 1 ≤ p) (i c : Nat) : AccOk p 281474976710656 (usedAt gs ⟨(i : Int), (p : Int), (p : Int)⟩ (c : Int) o) := by
  have := used_acc (gs := gs) (r := ⟨(i : Int), (p : Int), (p : Int)⟩) (c := (c : Int)) (n := G) (by dsimp only; omega) o h.each h.apart 281474976710656 (by omega) (fun t ht _ => (h.each t ht).2.2.1.2)
  simpa using this
theorem uses_in {u : Us} : u ∈ usesL gs (rulesG G p) o ↔ ∃ i c : Nat, i < G ∧ c < 64 ∧ u ∈ usesOf i c (p : Int) (usedAt gs ⟨(i : Int), (p : Int), (p : Int)⟩ (c : Int) o) := by
  unfold usesL
  rw [rulesG_len]
  simp only [List.mem_flatMap, List.mem_range]
  constructor
  · rintro ⟨i, hi, c, hc, hu⟩
    rw [ruAt_rulesG hi] at hu
    exact ⟨i, c, hi, hc, hu⟩
  · rintro ⟨i, c, hi, hc, hu⟩
    refine ⟨i, hi, c, hc, ?_⟩
    rw [ruAt_rulesG hi]
    exact hu
theorem use_facts (h : OOk G o) (hp : 1 ≤ p) {u : Us} (hu : u ∈ usesL gs (rulesG G p) o) : ∃ i c : Nat, i < G ∧ c < 64 ∧ u.r = i ∧ u.c = c ∧ u.d = 0 ∧ (u.p, u.t) ∈ usedAt gs ⟨(i : Int), (p : Int), (p : Int)⟩ (c : Int) o ∧ 0 ≤ u.p ∧ u.p ≤ 281474976710656 ∧ 1 ≤ u.t ∧ u.t ≤ p := by
  obtain ⟨i, c, hi, hc, hu⟩ := uses_in.1 hu
  unfold usesOf at hu
  obtain ⟨j, hj, rfl⟩ := List.mem_map.1 hu
  have hj := List.mem_range.1 hj
  have ha := h.acc (gs := gs) hp i c
  have hm := part_mem hj
  have he := ha.each _ hm
  refine ⟨i, c, hi, hc, rfl, rfl, debt_zero (by omega) (fun q hq => (ha.each q hq).2.2.2) (acc_inc ha) (j + 1) (by omega), hm, he.1, ?_, he.2.1, he.2.2.2⟩
  dsimp only
  have h1 := he.2.2.1
  have h2 : (partAt (usedAt gs ⟨(i : Int), (p : Int), (p : Int)⟩ (c : Int) o) j).1 * 1 ≤ (partAt (usedAt gs ⟨(i : Int), (p : Int), (p : Int)⟩ (c : Int) o) j).1 * (p : Int) := Int.mul_le_mul_of_nonneg_left (by omega) he.1
  omega
theorem useAt_le (hp : 1 ≤ p) (hg : GOK gs) (h : OOk gs.length o) {i : Nat} (hi : i < gs.length) (c k : Int) : useAt gs ⟨(i : Int), (p : Int), (p : Int)⟩ c o k ≤ useAt gs ⟨par gs i, (p : Int), (p : Int)⟩ c o k := by
  obtain ⟨m, hm⟩ : ∃ m : Nat, par gs i = m := ⟨(par gs i).toNat, by have := par_in hg hi; omega⟩
  rw [hm]
  have hall : ∀ l : List Rn, (∀ t ∈ l, RnOk gs.length t) → useAt gs ⟨(i : Int), (p : Int), (p : Int)⟩ c l k ≤ useAt gs ⟨(m : Int), (p : Int), (p : Int)⟩ c l k := by
    intro l
    induction l with
    | nil => intro _; exact Int.le_refl _
    | cons t r ih =>
      intro hl
      have ih := ih (fun x hx => hl x (by simp [hx]))
      have ht := hl t (by simp)
      have hup : hitB gs ⟨(i : Int), (p : Int), (p : Int)⟩ t = true → hitB gs ⟨(m : Int), (p : Int), (p : Int)⟩ t = true := by
        intro hh
        have h1 := (hit_iff hg ht (r := ⟨(i : Int), (p : Int), (p : Int)⟩) rfl).1 hh
        have h2 := path_par hg t.grp.toNat (by have := ht.2.2.2; omega) h1
        rw [hm, Int.toNat_natCast] at h2
        exact (hit_iff hg ht (r := ⟨(m : Int), (p : Int), (p : Int)⟩) rfl).2 h2
      have hpos : 0 ≤ sumP (tickP ⟨(m : Int), (p : Int), (p : Int)⟩ t) k := by
        refine sumP_pos (fun q hq => ?_) k
        unfold tickP partsL at hq
        obtain ⟨j, hj, rfl⟩ := List.mem_map.1 hq
        have hj := List.mem_range.1 hj
        unfold RnOk at ht
        obtain ⟨_, _, f3, _⟩ := part_span (t := t.time.toNat) (n := t.ticks.toNat) (p := (p : Int).toNat) (k := j) (by omega) (by omega) (by omega) hj
        unfold partI; dsimp only at f3 ⊢; omega
      have htp : tickP ⟨(i : Int), (p : Int), (p : Int)⟩ t = tickP ⟨(m : Int), (p : Int), (p : Int)⟩ t := rfl
      unfold useAt at ih ⊢
      simp only [List.map_cons, List.sum_cons]
      rw [htp]
      by_cases h1 : t.cpu = c ∧ hitB gs ⟨(i : Int), (p : Int), (p : Int)⟩ t = true
      · rw [if_pos h1, if_pos ⟨h1.1, hup h1.2⟩]; omega
      · rw [if_neg h1]; split <;> omega
  exact hall o h.each
/-- The parent uses as much, at least. -/
theorem up_use (hg : GOK gs) (h : OOk gs.length o) (hp : 1 ≤ p) {u : Us} (hu : u ∈ usesL gs (rulesG gs.length p) o) : ∃ v ∈ usesL gs (rulesG gs.length p) o, ∃ i : Nat, u.r = i ∧ i < gs.length ∧ v.r = par gs i ∧ v.c = u.c ∧ v.p = u.p ∧ u.t ≤ v.t := by
  obtain ⟨i, c, hi, hc, h1, h2, _, hm, _, _, ht, _⟩ := use_facts h hp hu
  have hpi := par_in hg hi
  obtain ⟨m, hpm⟩ : ∃ m : Nat, par gs i = m := ⟨(par gs i).toNat, by omega⟩
  have ha := h.acc (gs := gs) hp i c
  have hb := h.acc (gs := gs) hp m c
  have e1 := sumP_get ha.inc hm
  rw [used_sum] at e1
  dsimp only at e1
  have e2 := useAt_le (p := p) hp hg h hi (c : Int) u.p
  rw [hpm, ← used_sum gs ⟨(m : Int), (p : Int), (p : Int)⟩] at e2
  obtain ⟨q, hq, hqk⟩ := sumP_mem (l := usedAt gs ⟨(m : Int), (p : Int), (p : Int)⟩ (c : Int) o) (k := u.p) (by omega)
  have e3 := sumP_get hb.inc hq
  rw [hqk] at e3
  obtain ⟨j, hj, hjq⟩ := mem_part hq
  refine ⟨⟨m, c, q.1, q.2, debtAt (usedAt gs ⟨(m : Int), (p : Int), (p : Int)⟩ (c : Int) o) p (j + 1)⟩, uses_in.2 ⟨m, c, by omega, hc, ?_⟩, i, h1, hi, by rw [hpm], by rw [h2], hqk, ?_⟩
  · unfold usesOf
    exact List.mem_map.2 ⟨j, List.mem_range.2 hj, by rw [hjq]⟩
  · dsimp only; omega
/-- A rule alone. -/
theorem alone_eq {g : Nat} (hgl : g < G) : usesL gs [⟨(g : Int), (p : Int), (p : Int)⟩] o = ((usesL gs (rulesG G p) o).filter fun u => decide (u.r = (g : Int))).map fun u => { u with r := 0 } := by
  have hL : ∀ n, n ≤ G → ((List.range n).flatMap fun i => (List.range 64).flatMap fun c : Nat => usesOf i c (ruAt (rulesG G p) i).l (usedAt gs (ruAt (rulesG G p) i) c o)).filter (fun u => decide (u.r = (g : Int))) =
      if g < n then (List.range 64).flatMap fun c : Nat => usesOf g c (p : Int) (usedAt gs ⟨(g : Int), (p : Int), (p : Int)⟩ c o) else [] := by
    intro n
    induction n with
    | zero => intro _; rfl
    | succ n ih =>
      intro hn
      rw [List.range_succ (n := n), List.flatMap_append, List.filter_append, ih (by omega), List.flatMap_singleton, ruAt_rulesG (show n < G by omega)]
      have hf : ((List.range 64).flatMap fun c : Nat => usesOf n c (p : Int) (usedAt gs ⟨(n : Int), (p : Int), (p : Int)⟩ c o)).filter (fun u => decide (u.r = (g : Int))) = if n = g then (List.range 64).flatMap fun c : Nat => usesOf n c (p : Int) (usedAt gs ⟨(n : Int), (p : Int), (p : Int)⟩ c o) else [] := by
        by_cases e : n = g
        · rw [if_pos e, List.filter_eq_self]
          intro u hu
          obtain ⟨c, _, hu⟩ := List.mem_flatMap.1 hu
          simp [(usesOf_mem hu).1, e]
        · rw [if_neg e, List.filter_eq_nil_iff]
          intro u hu
          obtain ⟨c, _, hu⟩ := List.mem_flatMap.1 hu
          simp [(usesOf_mem hu).1]
          omega
      rw [hf]
      by_cases e : n = g
      · subst e
        rw [if_neg (by omega), if_pos rfl, if_pos (by omega), List.nil_append]
      · rw [if_neg e, List.append_nil]
        by_cases e2 : g < n
        · rw [if_pos e2, if_pos (by omega)]
        · rw [if_neg e2, if_neg (by omega)]
  have h1 := hL G (Nat.le_refl _)
  rw [if_pos hgl] at h1
  have h2 : (usesL gs (rulesG G p) o).filter (fun u => decide (u.r = (g : Int))) = (List.range 64).flatMap fun c : Nat => usesOf g c (p : Int) (usedAt gs ⟨(g : Int), (p : Int), (p : Int)⟩ c o) := by
    unfold usesL
    rw [rulesG_len]
    exact h1
  rw [h2, List.map_flatMap]
  unfold usesL
  simp only [List.length_cons, List.length_nil, Nat.zero_add, List.range_one, List.flatMap_cons, List.flatMap_nil, List.append_nil]
  congr 1
  funext c
  show usesOf 0 c _ _ = _
  unfold usesOf
  rw [List.map_map]
  rfl
/-- How many uses of a rule there are so far. -/
def cntG (us : List Us) (g : Int) (j : Nat) : Nat := ((us.take j).filter fun u => decide (u.r = g)).length
theorem cntG_succ {us : List Us} {g : Int} {j : Nat} {u : Us} (h : us[j]? = some u) : cntG us g (j + 1) = cntG us g j + if u.r = g then 1 else 0 := by
  unfold cntG
  rw [List.take_add_one, h, List.filter_append, List.length_append]
  by_cases hd : u.r = g <;> simp [hd]
theorem cntG_get {us : List Us} {g : Int} {j : Nat} {u : Us} (h : us[j]? = some u) (hd : u.r = g) : ((us.filter fun u => decide (u.r = g)).map fun u => { u with r := 0 })[cntG us g j]? = some { u with r := 0 } := by
  have hj := (List.getElem?_eq_some_iff.1 h).1
  have hsp : us.filter (fun u => decide (u.r = g)) = (us.take j).filter (fun u => decide (u.r = g)) ++ (us.drop j).filter (fun u => decide (u.r = g)) := by rw [← List.filter_append, List.take_append_drop]
  unfold cntG
  rw [List.getElem?_map, hsp, List.getElem?_append_right (Nat.le_refl _), Nat.sub_self, List.drop_eq_getElem_cons hj]
  have : us[j] = u := by rw [List.getElem?_eq_getElem hj] at h; exact Option.some.inj h
  rw [this, List.filter_cons, if_pos (by simpa using hd)]
  rfl
theorem cntG_all {us : List Us} {g : Int} : cntG us g us.length = ((us.filter fun u => decide (u.r = g)).map fun u => ({ u with r := 0 } : Us)).length := by
  unfold cntG; rw [List.take_of_length_le (Nat.le_refl _), List.length_map]
theorem cntG_le (us : List Us) (g : Int) (j : Nat) : cntG us g j ≤ j := Nat.le_trans (List.length_filter_le _ _) (by simp; exact Nat.min_le_left _ _)
end
end Go.Proofs.YtaplangfppohdaaDoor
namespace Go.Proofs.YtaplangfppohdaaDoor
open Go.RowKit Go.Shelf Go.Maps

theorem rowKey3 : (51 : TypeId) < Tryd.prog.types.size := of_decide_eq_true (by kernel_rfl)
theorem wideKey3 : (match Tryd.prog.underlying 51 with | some (.array _ _) | some (.struct _) => true | _ => false) = true := by rw [Tryd.underlying51]
set_option maxRecDepth 100000 in
theorem lawKk3 : WideMaps.KeyLaw Tryd.prog 51 := deep_law_laid laidOutQ (m := 2) (by omega) rowKey3 (by kernel_rfl) wideKey3
theorem lawK3 : Keyed Tryd.prog 51 := Keyed.of_law lawKk3
theorem deepKey3 : Tryd.prog.keyType 51 = true := by kernel_rfl
theorem cellsKey3 : Tryd.prog.cellsOf 51 = 3 := by kernel_rfl
def kA3 (a b c : Int) : Lit := .string (keyBytes [.int .i64 a, .int .i64 b, .int .i64 c])
theorem keyK3 {a b c : Int} (ha : I64 a) (hb : I64 b) (hc : I64 c) : keyOf Tryd.prog 51 (.agg #[.int .i64 a, .int .i64 b, .int .i64 c]) = some (kA3 a b c) := by
  have h2 : Tryd.prog.keyLits (Tryd.prog.types.size + 1) 51 [.int .i64 a, .int .i64 b, .int .i64 c] = some [.int .i64 a, .int .i64 b, .int .i64 c] := by
    obtain ⟨n, hn⟩ : ∃ n, Tryd.prog.types.size = n + 1 := by
      cases h : Tryd.prog.types.size with
      | zero => have := rowKey3; rw [h] at this; exact absurd this (Nat.not_lt_zero _)
      | succ n => exact ⟨n, rfl⟩
    rw [hn]
    unfold Program.keyLits
    rw [Tryd.underlying51]
    simp [cellsKey3, litsInt ha, litsInt hb, litsInt hc, show Tryd.prog.cellsOf 3 = 1 from by kernel_rfl, List.range_succ]
  unfold keyOf
  rw [Tryd.underlying51]
  have hf : (Value.agg #[.int .i64 a, .int .i64 b, .int .i64 c]).formed Tryd.prog 51 = true := by simp [Value.formed, Tryd.underlying51, cellsKey3]
  show (if (Tryd.prog.keyType 51 && (Value.agg #[.int .i64 a, .int .i64 b, .int .i64 c]).formed Tryd.prog 51) = true then (Tryd.prog.keyLits (Tryd.prog.types.size + 1) 51 [.int .i64 a, .int .i64 b, .int .i64 c]).map (fun ls => Lit.string (keyBytes ls)) else none) = _
  rw [if_pos (by rw [deepKey3, hf]; rfl), h2]
  rfl
theorem rowKey2 : (77 : TypeId) < Tryd.prog.types.size := of_decide_eq_true (by kernel_rfl)
theorem wideKey2 : (match Tryd.prog.underlying 77 with | some (.array _ _) | some (.struct _) => true | _ => false) = true := by rw [Tryd.underlying77]
set_option maxRecDepth 100000 in
theorem lawKk2 : WideMaps.KeyLaw Tryd.prog 77 := deep_law_laid laidOutQ (m := 2) (by omega) rowKey2 (by kernel_rfl) wideKey2
theorem lawK2 : Keyed Tryd.prog 77 := Keyed.of_law lawKk2
theorem deepKey2 : Tryd.prog.keyType 77 = true := by kernel_rfl
theorem cellsKey2 : Tryd.prog.cellsOf 77 = 2 := by kernel_rfl
def kA2 (a b : Int) : Lit := .string (keyBytes [.int .i64 a, .int .i64 b])
theorem keyK2 {a b : Int} (ha : I64 a) (hb : I64 b) : keyOf Tryd.prog 77 (.agg #[.int .i64 a, .int .i64 b]) = some (kA2 a b) := by
  have h2 : Tryd.prog.keyLits (Tryd.prog.types.size + 1) 77 [.int .i64 a, .int .i64 b] = some [.int .i64 a, .int .i64 b] := by
    obtain ⟨n, hn⟩ : ∃ n, Tryd.prog.types.size = n + 1 := by
      cases h : Tryd.prog.types.size with
      | zero => have := rowKey2; rw [h] at this; exact absurd this (Nat.not_lt_zero _)
      | succ n => exact ⟨n, rfl⟩
    rw [hn]
    unfold Program.keyLits
    rw [Tryd.underlying77]
    simp [cellsKey2, litsInt ha, litsInt hb, show Tryd.prog.cellsOf 3 = 1 from by kernel_rfl, List.range_succ]
  unfold keyOf
  rw [Tryd.underlying77]
  have hf : (Value.agg #[.int .i64 a, .int .i64 b]).formed Tryd.prog 77 = true := by simp [Value.formed, Tryd.underlying77, cellsKey2]
  show (if (Tryd.prog.keyType 77 && (Value.agg #[.int .i64 a, .int .i64 b]).formed Tryd.prog 77) = true then (Tryd.prog.keyLits (Tryd.prog.types.size + 1) 77 [.int .i64 a, .int .i64 b]).map (fun ls => Lit.string (keyBytes ls)) else none) = _
  rw [if_pos (by rw [deepKey2, hf]; rfl), h2]
  rfl
theorem kA3_inj {a b c a' b' c' : Int} (ha : I64 a) (hb : I64 b) (hc : I64 c) (ha' : I64 a') (hb' : I64 b') (hc' : I64 c') (h : kA3 a b c = kA3 a' b' c') : a = a' ∧ b = b' ∧ c = c' := by
  have := lawKk3.inj (keyK3 ha hb hc) (by rw [h]; exact keyK3 ha' hb' hc')
  simpa using this
theorem kA2_inj {a b a' b' : Int} (ha : I64 a) (hb : I64 b) (ha' : I64 a') (hb' : I64 b') (h : kA2 a b = kA2 a' b') : a = a' ∧ b = b' := by
  have := lawKk2.inj (keyK2 ha hb) (by rw [h]; exact keyK2 ha' hb')
  simpa using this
end Go.Proofs.YtaplangfppohdaaDoor
