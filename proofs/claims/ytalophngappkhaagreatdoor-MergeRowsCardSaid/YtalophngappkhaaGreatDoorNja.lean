/- quantumref12.join in plain words: the events by selection of the next number. -/
import Derived.Test.YtalophngappkhaaGreatDoorZ5
set_option linter.unusedVariables false
set_option linter.unusedSimpArgs false
set_option linter.unusedSectionVars false
namespace Go.Proofs.YtalophngappkhaaGreatDoor
open Go.RowKit

/-- How many events have a number above a. -/
def leftS (l : List Ev) (a : Int) : Nat := l.countP (fun e => decide (a < e.seq))
/-- What is known when all numbers up to a are done. -/
structure SelP (l R : List Ev) (T : List Int) (a : Int) : Prop where
  nc : ∀ x ∈ l, ∀ y ∈ l, x.seq = y.seq → x.seq ≤ a → x = y
  srt : R.Pairwise (fun a b => a.seq < b.seq)
  mem : ∀ e, e ∈ R ↔ e ∈ l ∧ e.seq ≤ a
  tsrt : T.Pairwise (fun a b => a < b)
  tmem : ∀ n, n ∈ T ↔ n ≤ a ∧ 2 ≤ cntS l n
  len : R.length + leftS l a ≤ l.length ∧ T.length ≤ R.length
theorem cnt_pos_mem {l : List Ev} {n : Int} (h : 0 < cntS l n) : ∃ e ∈ l, e.seq = n := by
  obtain ⟨e, he, h2⟩ := List.countP_pos_iff.1 h
  exact ⟨e, he, by simpa using h2⟩
theorem SelP.nil {l : List Ev} (h : ∀ e ∈ l, 1 ≤ e.seq) : SelP l [] [] 0 where
  nc := fun x hx y _ _ h0 => by have := h x hx; omega
  srt := List.Pairwise.nil
  mem := fun e => ⟨fun h => (by cases h), fun ⟨h1, h2⟩ => (by have := h e h1; omega)⟩
  tsrt := List.Pairwise.nil
  tmem := fun n => ⟨fun h => (by cases h), fun ⟨h1, h2⟩ => (by
    obtain ⟨e, he, hn⟩ := cnt_pos_mem (show 0 < cntS l n by omega)
    have := h e he
    omega)⟩
  len := ⟨by simp [leftS]; exact List.countP_le_length, by simp⟩
theorem left_step {a : Int} {e : Ev} (h : a < e.seq) : ∀ {l : List Ev}, (∀ x ∈ l, a < x.seq → e.seq ≤ x.seq) → leftS l e.seq + cntS l e.seq = leftS l a
  | [], _ => rfl
  | x :: l, hx => by
    have ih := left_step h (l := l) (fun y hy => hx y (List.mem_cons_of_mem _ hy))
    have h0 := hx x (List.mem_cons_self ..)
    unfold leftS cntS at ih ⊢
    simp only [List.countP_cons]
    by_cases h1 : a < x.seq
    · have h2 := h0 h1
      by_cases h3 : x.seq = e.seq
      · have h4 : ¬ e.seq < x.seq := by omega
        simp [h1, h3, h]; omega
      · have h4 : e.seq < x.seq := by omega
        simp [h1, h3, h4]; omega
    · have h3 : ¬ x.seq = e.seq := by omega
      have h4 : ¬ e.seq < x.seq := by omega
      simp [h1, h3, h4]; omega
theorem SelP.step {l R : List Ev} {T : List Int} {a : Int} {e : Ev} (h : SelP l R T a) (he : e ∈ l) (h1 : a < e.seq) (h2 : ∀ x ∈ l, a < x.seq → e.seq ≤ x.seq) (h3 : ∀ x ∈ l, x.seq = e.seq → x = e) :
    SelP l (R ++ [e]) (if 1 < cntS l e.seq then T ++ [e.seq] else T) e.seq ∧ leftS l e.seq < leftS l a := by
  have hls := left_step h1 h2
  have hc := cnt_pos he
  refine ⟨⟨?_, ?_, ?_, ?_, ?_, ?_⟩, by omega⟩
  · intro x hx y hy hs hle
    by_cases hxa : x.seq ≤ a
    · exact h.nc x hx y hy hs hxa
    · have := h2 x hx (by omega)
      rw [h3 x hx (by omega), h3 y hy (by omega)]
  · rw [List.pairwise_append]
    refine ⟨h.srt, by simp, fun x hx y hy => ?_⟩
    rw [List.mem_singleton.1 hy]
    have := ((h.mem x).1 hx).2
    omega
  · intro x
    rw [List.mem_append, h.mem x, List.mem_singleton]
    refine ⟨?_, fun ⟨hx, hle⟩ => ?_⟩
    · rintro (⟨hx, hle⟩ | rfl)
      · exact ⟨hx, by omega⟩
      · exact ⟨he, Int.le_refl _⟩
    · by_cases hxa : x.seq ≤ a
      · exact .inl ⟨hx, hxa⟩
      · have := h2 x hx (by omega)
        exact .inr (h3 x hx (by omega))
  · split
    · rw [List.pairwise_append]
      refine ⟨h.tsrt, by simp, fun x hx y hy => ?_⟩
      rw [List.mem_singleton.1 hy]
      have := ((h.tmem x).1 hx).1
      omega
    · exact h.tsrt
  · intro n
    have key : 2 ≤ cntS l n → n ≤ e.seq → a < n → n = e.seq := fun hn hle ha => by
      obtain ⟨x, hx, hxn⟩ := cnt_pos_mem (show 0 < cntS l n by omega)
      have := h2 x hx (by omega)
      omega
    split
    next hgt =>
      rw [List.mem_append, h.tmem n, List.mem_singleton]
      refine ⟨?_, fun ⟨hle, hn⟩ => ?_⟩
      · rintro (⟨hx, hle⟩ | rfl)
        · exact ⟨by omega, hle⟩
        · exact ⟨Int.le_refl _, by omega⟩
      · by_cases ha : n ≤ a
        · exact .inl ⟨ha, hn⟩
        · exact .inr (key hn hle (by omega))
    next hgt =>
      rw [h.tmem n]
      refine ⟨fun ⟨hx, hle⟩ => ⟨by omega, hle⟩, fun ⟨hle, hn⟩ => ⟨?_, hn⟩⟩
      refine Classical.byContradiction fun ha => ?_
      have := key hn hle (by omega)
      rw [this] at hn
      omega
  · have := h.len
    refine ⟨by simp; omega, ?_⟩
    split <;> simp <;> omega
theorem SelP.done {l R : List Ev} {T : List Int} {a : Int} (h : SelP l R T a) (hl : l.length ≤ 65535) (ha : ∀ x ∈ l, x.seq ≤ a) : JoinRes l R T 0 :=
  .inr (.inr ⟨hl, fun ⟨x, hx, y, hy, hs, hne⟩ => hne (h.nc x hx y hy hs (ha x hx)), rfl, h.srt, fun e => (h.mem e).trans ⟨fun q => q.1, fun q => ⟨q, ha e q⟩⟩, h.tsrt,
    fun n => (h.tmem n).trans ⟨fun q => q.2, fun q => ⟨by obtain ⟨x, hx, hn⟩ := cnt_pos_mem (show 0 < cntS l n by omega); have := ha x hx; omega, q⟩⟩, by have := h.len; omega, by have := h.len; omega⟩)
theorem sel_conf {l : List Ev} {e x : Ev} (hl : l.length ≤ 65535) (he : e ∈ l) (hx : x ∈ l) (hs : x.seq = e.seq) (hne : x ≠ e) : JoinRes l [] [] 120 :=
  .inr (.inl ⟨hl, ⟨x, hx, e, he, hs, hne⟩, rfl, rfl, rfl⟩)

/-- The search for the next number: the place of its first event (from 1; 0 where there is none) and how often it is there, among the events p. -/
inductive SelI (p : List Ev) (a : Int) : Nat → Nat → Prop where
  | zip (h : ∀ e ∈ p, e.seq ≤ a) : SelI p a 0 0
  | one (q : Nat) (e : Ev) (n : Nat) (hq : p[q]? = some e) (ha : a < e.seq) (hm : ∀ x ∈ p, a < x.seq → e.seq ≤ x.seq) (hn : n = cntS p e.seq) : SelI p a (q + 1) n
theorem SelI.nil (a : Int) : SelI [] a 0 0 := .zip fun e h => by cases h
theorem get_app {p : List Ev} {q : Nat} {e x : Ev} (h : p[q]? = some e) : (p ++ [x])[q]? = some e := by
  rw [List.getElem?_append_left (List.getElem?_eq_some_iff.1 h).1]; exact h
theorem SelI.low {p : List Ev} {a : Int} {n o : Nat} {x : Ev} (h : SelI p a n o) (hx : x.seq ≤ a) : SelI (p ++ [x]) a n o := by
  cases h with
  | zip h =>
    refine .zip fun e he => ?_
    rcases List.mem_append.1 he with he | he
    · exact h e he
    · rw [List.mem_singleton.1 he]; exact hx
  | one q e n hq ha hm hn => 
    refine .one q e o (get_app hq) ha (fun y hy hay => ?_) ?_
    · rcases List.mem_append.1 hy with hy | hy
      · exact hm y hy hay
      · rw [List.mem_singleton.1 hy] at hay; omega
    · rw [cnt_app, if_neg (by omega)]; simpa using hn
theorem SelI.first {p : List Ev} {a : Int} {o : Nat} {x : Ev} (h : SelI p a 0 o) (hx : a < x.seq) : SelI (p ++ [x]) a (p.length + 1) 1 := by
  cases h with
  | zip h =>
    refine .one p.length x 1 (by simp) hx (fun y hy hay => ?_) ?_
    · rcases List.mem_append.1 hy with hy | hy
      · have := h y hy; omega
      · rw [List.mem_singleton.1 hy]; exact Int.le_refl _
    · rw [cnt_app, if_pos rfl, cnt_zero (fun y hy => by have := h y hy; omega)]
theorem SelI.less {p : List Ev} {a : Int} {q o : Nat} {e x : Ev} (h : SelI p a (q + 1) o) (hq : p[q]? = some e) (hx : a < x.seq) (hlt : x.seq < e.seq) : SelI (p ++ [x]) a (p.length + 1) 1 := by
  cases h with
  | one _ e' _ hq' ha hm hn =>
    rw [hq] at hq'
    cases hq'
    refine .one p.length x 1 (by simp) hx (fun y hy hay => ?_) ?_
    · rcases List.mem_append.1 hy with hy | hy
      · have := hm y hy hay; omega
      · rw [List.mem_singleton.1 hy]; exact Int.le_refl _
    · rw [cnt_app, if_pos rfl, cnt_zero (fun y hy he => by have := hm y hy (by omega); omega)]
theorem SelI.same {p : List Ev} {a : Int} {q o : Nat} {e x : Ev} (h : SelI p a (q + 1) o) (hq : p[q]? = some e) (hs : x.seq = e.seq) : SelI (p ++ [x]) a (q + 1) (o + 1) := by
  cases h with
  | one _ e' _ hq' ha hm hn =>
    rw [hq] at hq'
    cases hq'
    refine .one q e _ (get_app hq) ha (fun y hy hay => ?_) ?_
    · rcases List.mem_append.1 hy with hy | hy
      · exact hm y hy hay
      · rw [List.mem_singleton.1 hy]; omega
    · rw [cnt_app, if_pos hs, hn]
theorem SelI.more {p : List Ev} {a : Int} {q o : Nat} {e x : Ev} (h : SelI p a (q + 1) o) (hq : p[q]? = some e) (hlt : e.seq < x.seq) : SelI (p ++ [x]) a (q + 1) o := by
  cases h with
  | one _ e' _ hq' ha hm hn =>
    rw [hq] at hq'
    cases hq'
    refine .one q e _ (get_app hq) ha (fun y hy hay => ?_) ?_
    · rcases List.mem_append.1 hy with hy | hy
      · exact hm y hy hay
      · rw [List.mem_singleton.1 hy]; omega
    · rw [cnt_app, if_neg (by omega)]; simpa using hn
theorem SelI.cur {p : List Ev} {a : Int} {q o : Nat} (h : SelI p a (q + 1) o) : ∃ e, p[q]? = some e ∧ a < e.seq ∧ (∀ x ∈ p, a < x.seq → e.seq ≤ x.seq) ∧ o = cntS p e.seq ∧ q < p.length := by
  cases h with
  | one _ e _ hq ha hm hn => exact ⟨e, hq, ha, hm, hn, (List.getElem?_eq_some_iff.1 hq).1⟩
theorem SelI.zero {p : List Ev} {a : Int} {o : Nat} (h : SelI p a 0 o) : ∀ e ∈ p, e.seq ≤ a := by
  cases h with
  | zip h => exact h
end Go.Proofs.YtalophngappkhaaGreatDoor
