/- Plain laws for SeqOf: how often numbers stand in a list, as a map; how many different ones there are. -/
import Derived.Test.YtofjgcbjpmgkdaaSq
import Derived.Maps.RangeWalk
import Derived.Maps.OwnOps
import Derived.Maps.OwnSet
set_option linter.unusedVariables false
set_option linter.unusedSimpArgs false
set_option linter.unusedSectionVars false
namespace Go.Proofs.Ytofjgcbjpmgkdaa
open Go Go.RowKit Go.Shelf

def ded (ns : List Int) : List Int := ns.foldl (fun a n => if n ∈ a then a else a ++ [n]) []
theorem ded_snoc (ns : List Int) (n : Int) : ded (ns ++ [n]) = if n ∈ ded ns then ded ns else ded ns ++ [n] := by unfold ded; rw [List.foldl_append]; rfl
theorem ded_mem : ∀ (k : Nat) (ns : List Int), ns.length = k → ∀ n, n ∈ ded ns ↔ n ∈ ns
  | 0, ns, h, n => by obtain rfl := List.eq_nil_of_length_eq_zero h; simp [ded]
  | k + 1, ns, h, n => by
    rcases List.eq_nil_or_concat ns with rfl | ⟨l, m, rfl⟩
    · simp at h
    · rw [List.concat_eq_append] at *
      have ih := ded_mem k l (by simpa using h)
      rw [ded_snoc]
      split
      · rename_i hm
        rw [ih m] at hm
        rw [ih n, List.mem_append, List.mem_singleton]
        exact ⟨.inl, fun h => h.elim id (fun h => h ▸ hm)⟩
      · rw [List.mem_append, ih n, List.mem_append]
theorem ded_in (ns : List Int) (n : Int) : n ∈ ded ns ↔ n ∈ ns := ded_mem _ ns rfl n
theorem ded_nodup : ∀ (k : Nat) (ns : List Int), ns.length = k → (ded ns).Nodup
  | 0, ns, h => by obtain rfl := List.eq_nil_of_length_eq_zero h; simp [ded]
  | k + 1, ns, h => by
    rcases List.eq_nil_or_concat ns with rfl | ⟨l, m, rfl⟩
    · simp at h
    · rw [List.concat_eq_append] at *
      have ih := ded_nodup k l (by simpa using h)
      rw [ded_snoc]
      split
      · exact ih
      · rename_i hm
        rw [List.nodup_append]
        exact ⟨ih, by simp, fun a ha b hb => by simp at hb; subst hb; exact fun e => hm (e ▸ ha)⟩
theorem ded_nd (ns : List Int) : (ded ns).Nodup := ded_nodup _ ns rfl
theorem ded_le (ns : List Int) : (ded ns).length ≤ ns.length := (ded_nd ns).length_le_of_subset fun n h => (ded_in ns n).1 h
theorem len_same {a b : List Int} (ha : a.Nodup) (hb : b.Nodup) (h : ∀ x, x ∈ a ↔ x ∈ b) : a.length = b.length := ((List.perm_ext_iff_of_nodup ha hb).2 h).length_eq
theorem pw_nodup {a : List Int} (h : a.Pairwise (· < ·)) : a.Nodup := h.imp (fun h => by omega)
theorem cnt_addR (s : List (Int × Int)) (n c : Int) : cntR (addR s (n, c)) = cntR s + c := by
  rcases List.eq_nil_or_concat s with rfl | ⟨l, r, rfl⟩
  · simp [addR, cntR]
  · rw [List.concat_eq_append, addR_snoc]
    split
    · rw [cntR_append, cntR_append]; simp [cntR]; omega
    · rw [cntR_append]; simp [cntR]
theorem ofS_cnt (pre : List Int) (hp : pre.Pairwise (· ≤ ·)) (hk : ∀ n ∈ pre, okN n = true) : cntR (ofS pre).set = (ded pre).length := by
  rcases List.eq_nil_or_concat pre with rfl | ⟨l, n, rfl⟩
  · rfl
  · rw [List.concat_eq_append] at *
    rw [ofS_snoc, ded_snoc]
    have hp' := List.pairwise_append.1 hp
    have hk' : ∀ m ∈ l, okN m = true := fun m hm => hk m (List.mem_append_left _ hm)
    have ih := ofS_cnt l hp'.1 hk'
    have h := ofS_ok l hp'.1 hk'
    have hn := hk n (by simp)
    unfold okN at hn
    rw [decide_eq_true_eq] at hn
    have hs : (ofS l).last ≤ n := by
      by_cases h0 : (ofS l).last = 0
      · omega
      · exact hp'.2.2 _ (h.lastM h0) n (by simp)
    rw [show ((ofS l).st n).set = if n = (ofS l).last then (ofS l).set else addR (ofS l).set (n, 1) from rfl]
    by_cases he : n = (ofS l).last
    · have hin : n ∈ l := by rw [he]; exact h.lastM (by omega)
      rw [if_pos he, if_pos ((ded_in l n).2 hin), ih]
    · have hni : n ∉ l := fun hm => by have := h.le n hm; omega
      rw [if_neg he, if_neg (fun x => hni ((ded_in l n).1 x)), cnt_addR, ih, List.length_append]
      simp
termination_by pre.length
decreasing_by all_goals (simp_all <;> omega)
theorem ofL_cnt {ns : List Int} (h : ofE ns = 0) (hk : ns.all okN = true) : cntR (ofL ns) = (ded ns).length := by
  unfold ofL
  rw [if_pos h, ofS_cnt _ (srt_pw ns) (fun n hn => List.all_eq_true.1 hk n ((srt_mem ns n).1 hn))]
  exact congrArg Int.ofNat (len_same (ded_nd _) (ded_nd _) (fun x => by rw [ded_in, ded_in, srt_mem]))

/-- The map D has the numbers of ns, each with how often it is there. -/
structure Cnt (D : DataW Unit) (ns : List Int) : Prop where
  tidy : Maps.Tidy D
  at_ : ∀ n, D.atKey (.int .i64 n) (.lit (.int .i64 0)) = .lit (.int .i64 (ns.count n))
  has : ∀ n, Maps.has D (.int .i64 n) = decide (n ∈ ns)
  size : Maps.size D = (ded ns).length
theorem Cnt.nil : Cnt (.map []) [] := ⟨Maps.tidy_empty, fun n => rfl, fun n => rfl, rfl⟩
theorem Cnt.put {D : DataW Unit} {ns : List Int} (h : Cnt D ns) (n : Int) : Cnt (D.put (.int .i64 n) (.lit (.int .i64 ((ns.count n : Nat) + 1)))) (ns ++ [n]) := by
  have hk : ∀ m, WideAt.IsKeyLit (.int .i64 m) := fun m => trivial
  refine ⟨h.tidy.put (hk n) _, fun m => ?_, fun m => ?_, ?_⟩
  · by_cases e : m = n
    · subst e
      rw [Maps.atKey_put_same h.tidy.isMap (hk m), List.count_append, List.count_singleton]
      simp
    · rw [Maps.atKey_put_other (by intro x; cases x; exact e rfl), h.at_ m, List.count_append, List.count_singleton, if_neg (by simpa using fun x => e x.symm)]
      rfl
  · by_cases e : m = n
    · subst e
      rw [Maps.has_put_same h.tidy.isMap (hk m)]; simp
    · rw [Maps.has_put_other (by intro x; cases x; exact e rfl), h.has m]
      simp [e]
  · rw [Maps.size_put h.tidy, h.has n, h.size, ded_snoc]
    by_cases e : n ∈ ns
    · rw [if_pos (by simpa using e), if_pos ((ded_in ns n).2 e)]
    · rw [if_neg (by simpa using e), if_neg (fun x => e ((ded_in ns n).1 x)), List.length_append]; rfl
/-- What is met in a walk through the map. -/
structure Met (ns : List Int) (left : Lit → Bool) (vs : List Int) : Prop where
  nd : vs.Nodup
  sub : ∀ n ∈ vs, n ∈ ns
  left : ∀ n, left (.int .i64 n) = (decide (n ∈ ns) && !decide (n ∈ vs))
theorem Met.start {D : DataW Unit} {ns : List Int} (h : Cnt D ns) : Met ns (Maps.has D) [] := ⟨by simp, by simp, fun n => by rw [h.has n]; simp⟩
theorem Met.step {ns vs : List Int} {left : Lit → Bool} (h : Met ns left vs) {x : Int} (hx : left (.int .i64 x) = true) : Met ns (fun z => left z && !z.sameKey (.int .i64 x)) (vs ++ [x]) := by
  rw [h.left x, Bool.and_eq_true, Bool.not_eq_true', decide_eq_true_eq, decide_eq_false_iff_not] at hx
  refine ⟨?_, fun n hn => ?_, fun n => ?_⟩
  · rw [List.nodup_append]
    exact ⟨h.nd, by simp, fun a ha b hb => by simp at hb; subst hb; exact fun e => hx.2 (e ▸ ha)⟩
  · rcases List.mem_append.1 hn with hn | hn
    · exact h.sub n hn
    · simp at hn; subst hn; exact hx.1
  · show (left (.int .i64 n) && _) = _
    rw [h.left n]
    by_cases e : n = x
    · subst e
      rw [show Lit.sameKey (.int .i64 n) (.int .i64 n) = true from WideAt.sameKey_self trivial]; simp
    · rw [Maps.sameKey_ne (by intro y; cases y; exact e rfl)]
      simp [e]
def moreN (ns vs : List Int) : Nat := (vs.filter (fun n => decide (2 ≤ ns.count n))).length
theorem moreN_snoc (ns vs : List Int) (x : Int) : moreN ns (vs ++ [x]) = moreN ns vs + if 2 ≤ ns.count x then 1 else 0 := by
  unfold moreN
  rw [List.filter_append, List.length_append]
  by_cases h : 2 ≤ ns.count x <;> simp [h]
theorem moreN_le (ns vs : List Int) : moreN ns vs ≤ vs.length := List.length_filter_le _ _
theorem Met.len {ns vs : List Int} {left : Lit → Bool} (h : Met ns left vs) : vs.length ≤ ns.length := h.nd.length_le_of_subset h.sub
theorem Met.done {ns vs : List Int} {left : Lit → Bool} (h : Met ns left vs) (h0 : ∀ kl, left kl = false) (he : ofE ns = 0) (hk : ns.all okN = true) : moreN ns vs = (ofT ns).length := by
  have ho := ofS_ok (srtI ns) (srt_pw ns) (fun n hn => List.all_eq_true.1 hk n ((srt_mem ns n).1 hn))
  unfold ofT
  rw [if_pos he]
  refine len_same (h.nd.filter _) (pw_nodup ho.pw) fun n => ?_
  rw [List.mem_filter, ho.tm n, srt_count, decide_eq_true_eq]
  refine ⟨fun x => x.2, fun x => ⟨?_, x⟩⟩
  have := h.left n
  rw [h0] at this
  have hn : n ∈ ns := List.count_pos_iff.1 (by omega)
  simpa [hn] using this.symm
/-- Numbers in another order make the same set. -/
theorem of_perm {a b : List Int} (h : a.Perm b) : ofE a = ofE b ∧ ofL a = ofL b ∧ ofT a = ofT b := by
  have hl := h.length_eq
  have hs : srtI a = srtI b := by
    refine List.Perm.eq_of_pairwise (le := fun x y : Int => x ≤ y) (fun x y _ _ h1 h2 => by omega) (srt_pw a) (srt_pw b) ?_
    unfold srtI
    exact ((List.mergeSort_perm _ _).trans h).trans (List.mergeSort_perm _ _).symm
  have ha : a.all okN = b.all okN := by rw [← srt_all a, ← srt_all b, hs]
  have he : ofE a = ofE b := by unfold ofE; rw [hl, ha]
  exact ⟨he, by unfold ofL; rw [he, hs], by unfold ofT; rw [he, hs]⟩
end Go.Proofs.Ytofjgcbjpmgkdaa
