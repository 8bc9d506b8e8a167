/- MergeLost, in plain words. -/
import Derived.Test.YtalophngappkhaaGreatDoorZ29
set_option linter.unusedVariables false
set_option linter.unusedSimpArgs false
set_option linter.unusedSectionVars false
namespace Go.Proofs.YtalophngappkhaaGreatDoor
open Go Go.RowKit Go.Shelf

/-- The end is missing. -/
theorem lost_end {tr : List Ev} {bs : List Bck} {nx : Int} (ht : Tr tr) (h : CutR tr bs nx) : ∃ M, MgW tr (lostB bs) (lastS tr + 1) true M ∧ ∀ m c, MrgRes bs m c → c = 0 ∧ m = M := by
  have hle := lastS_le ht
  have hlen := h.len
  have htl := ht.len
  have hnx := ht.srt'.next
  have he : endB bs = 0 := endB_zero fun b hb => (h.blk b hb).next
  obtain ⟨M, hM, hr⟩ := good_mrg (l := bs) (R := tr) (by omega) (fun b hb => (h.all ht (l := bs) (fun b hb => .inl hb) b hb).2.1) h.perm ht.srt' (by omega) (by omega)
  have hmax : max (nxtS tr) (endB bs) = lastS tr + 1 := by omega
  rw [hmax, show decide (endB bs ≠ lastS tr + 1) = true by rw [he]; simp; omega] at hM
  exact ⟨M, hM, hr⟩
theorem frs_open {G : List (Int × Int)} {next : Int} (hr : rightB G = true) (hc : Can 0 G) (h1 : 1 ≤ next) (h3 : next ≤ 1000) : frsE G next true next = (0, 123) := by
  obtain ⟨s1, s2⟩ := frsG_spec (next := next) (fr := next) hc
  unfold frsE
  rw [hr, if_neg (by simp), if_neg (by omega)]
  cases hf : frsG G next next with
  | none => rfl
  | some n => have := s1 n hf; omega
/-- The events that are not in a block; its numbers. -/
def leftL (tr : List Ev) (b : Bck) : List Ev := tr.filter (fun e => decide (e ∉ b.evs))
def goneL (tr : List Ev) (b : Bck) : List Ev := tr.filter (fun e => decide (e ∈ b.evs))
theorem left_take {tr : List Ev} {j : Nat} {e : Ev} (b : Bck) (h : tr[j]? = some e) :
    leftL (tr.take (j + 1)) b = leftL (tr.take j) b ++ (if e ∈ b.evs then [] else [e]) ∧ seqsL (goneL (tr.take (j + 1)) b) = seqsL (goneL (tr.take j) b) ++ (if e ∈ b.evs then [e.seq] else []) := by
  unfold leftL goneL seqsL
  rw [List.take_add_one, h, List.filter_append, List.filter_append, List.map_append]
  by_cases he : e ∈ b.evs <;> simp [he]
theorem srt_nodup {R : List Ev} (hs : R.Pairwise (fun a b => a.seq < b.seq)) : R.Nodup := hs.imp fun {a b} h e => by subst e; omega
theorem left_perm {tr : List Ev} (hs : tr.Pairwise (fun a b => a.seq < b.seq)) {b : Bck} {l : List Bck} (hp : (b.evs ++ l.flatMap Bck.evs).Perm tr) : (l.flatMap Bck.evs).Perm (leftL tr b) := by
  have hn : (b.evs ++ l.flatMap Bck.evs).Nodup := hp.nodup_iff.2 (srt_nodup hs)
  have h1 := hp.filter (fun e => decide (e ∉ b.evs))
  rw [List.filter_append] at h1
  have e1 : b.evs.filter (fun e => decide (e ∉ b.evs)) = [] := by
    rw [List.filter_eq_nil_iff]; intro e he; simp [he]
  have e2 : (l.flatMap Bck.evs).filter (fun e => decide (e ∉ b.evs)) = l.flatMap Bck.evs := by
    rw [List.filter_eq_self]
    intro e he
    rw [decide_eq_true_eq]
    exact fun hb => (List.nodup_append.1 hn).2.2 e hb e he rfl
  rw [e1, e2, List.nil_append] at h1
  exact h1
theorem mem_seqs_left {tr : List Ev} {b : Bck} (hs : tr.Pairwise (fun a b => a.seq < b.seq)) (n : Int) : n ∈ seqsL tr ↔ n ∈ seqsL (leftL tr b) ∨ n ∈ seqsL (goneL tr b) := by
  unfold seqsL leftL goneL
  simp only [List.mem_map, List.mem_filter, decide_eq_true_eq]
  constructor
  · rintro ⟨e, he, rfl⟩
    by_cases h : e ∈ b.evs
    · exact .inr ⟨e, ⟨he, h⟩, rfl⟩
    · exact .inl ⟨e, ⟨he, h⟩, rfl⟩
  · rintro (⟨e, ⟨he, _⟩, rfl⟩ | ⟨e, ⟨he, _⟩, rfl⟩) <;> exact ⟨e, he, rfl⟩
theorem seqs_disj {tr : List Ev} {b : Bck} (hs : tr.Pairwise (fun a b => a.seq < b.seq)) {n : Int} (h1 : n ∈ seqsL (leftL tr b)) (h2 : n ∈ seqsL (goneL tr b)) : False := by
  unfold seqsL leftL goneL at *
  obtain ⟨e, he, rfl⟩ := List.mem_map.1 h1
  obtain ⟨x, hx, hxe⟩ := List.mem_map.1 h2
  obtain ⟨a1, a2⟩ := List.mem_filter.1 he
  obtain ⟨b1, b2⟩ := List.mem_filter.1 hx
  have := seq_inj hs x b1 e a1 hxe
  subst this
  simp only [decide_eq_true_eq] at a2 b2
  exact a2 b2
/-- A block is missing. -/
theorem lost_mid {tr : List Ev} {bs : List Bck} {nx : Int} (ht : Tr tr) (h : CutR tr bs nx) {k : Nat} {b : Bck} (hk : bs[k]? = some b) :
    ∃ M, MgW (leftL tr b) (lostB (bs ++ [bkE nx]) - b.lost) nx false M ∧ (∀ m c, MrgRes ((bs ++ [bkE nx]).take k ++ (bs ++ [bkE nx]).drop (k + 1)) m c → c = 0 ∧ m = M) := by
  have hx := h.nx
  have hle := lastS_le ht
  have hlen := h.len
  have htl := ht.len
  obtain ⟨hkl, hkb⟩ := List.getElem?_eq_some_iff.1 hk
  have e0 : (bs ++ [bkE nx]).take k ++ (bs ++ [bkE nx]).drop (k + 1) = (bs.take k ++ bs.drop (k + 1)) ++ [bkE nx] := by
    rw [List.take_append_of_le_length (by omega), List.drop_append_of_le_length (by omega), List.append_assoc]
  have e1 : bs = bs.take k ++ b :: bs.drop (k + 1) := by
    conv => lhs; rw [← List.take_append_drop k bs, List.drop_eq_getElem_cons hkl, hkb]
  rw [e0]
  obtain ⟨l, hl⟩ : ∃ l, bs.take k ++ bs.drop (k + 1) = l := ⟨_, rfl⟩
  have hpb : bs.Perm (b :: l) := by rw [← hl]; conv => lhs; rw [e1]
                                    exact List.perm_middle
  rw [hl]
  have hsub : ∀ x ∈ l, x ∈ bs := fun x hx => hpb.mem_iff.2 (by simp [hx])
  have hlost : lostB (l ++ [bkE nx]) = lostB (bs ++ [bkE nx]) - b.lost := by
    rw [lostB_app, lostB_app, lostB_perm hpb]; have := lostB_cons b l; omega
  have hs := ht.srt'.srt
  have hsl : Srt (leftL tr b) 900 := ⟨hs.sublist List.filter_sublist, fun e he => ht.srt'.rng e (List.mem_filter.1 he).1⟩
  have hperm : ((l ++ [bkE nx]).flatMap Bck.evs).Perm (leftL tr b) := by
    rw [List.flatMap_append, show [bkE nx].flatMap Bck.evs = [] from rfl, List.append_nil]
    refine left_perm hs ?_
    have := (hpb.flatMap_right Bck.evs).symm.trans h.perm
    rwa [List.flatMap_cons] at this
  have hll : (leftL tr b).length ≤ tr.length := List.length_filter_le _ _
  have he : endB (l ++ [bkE nx]) = nx := by
    rw [endB_snoc, endB_zero fun x hx => (h.blk x (hsub x hx)).next]
    show max 0 nx = nx
    omega
  have hlb : l.length ≤ bs.length := by have := hpb.length_eq; simp at this; omega
  obtain ⟨M, hM, hr⟩ := good_mrg (l := l ++ [bkE nx]) (R := leftL tr b) (by rw [List.length_append]; simp; omega) (fun x hx => (h.all ht (l := l ++ [bkE nx]) (fun y hy => by
    rcases List.mem_append.1 hy with hy | hy
    · exact .inl (hsub y hy)
    · exact .inr (by simpa using hy)) x hx).2.1) hperm hsl (by omega) (by omega)
  have hnl : nxtS (leftL tr b) ≤ nx := by
    have h1 := hsl.next
    rcases List.eq_nil_or_concat (leftL tr b) with h0 | ⟨p, x, h0⟩
    · rw [h0] at h1 ⊢; rw [h1.1]; show (0 : Int) + 1 ≤ nx; omega
    · rw [List.concat_eq_append] at h0
      have h2 : lastS (leftL tr b) = x.seq := by rw [h0]; unfold lastS; simp
      have h3 : x ∈ leftL tr b := by rw [h0]; simp
      have := hle.2.2 x (List.mem_filter.1 h3).1
      omega
  have hmax : max (nxtS (leftL tr b)) (endB (l ++ [bkE nx])) = nx := by omega
  rw [hmax, hlost, show decide (endB (l ++ [bkE nx]) ≠ nx) = false by simp [he]] at hM
  exact ⟨M, hM, hr⟩
/-- The gaps, where a block is missing: its numbers, and those that were missing before. -/
theorem lost_union {tr : List Ev} {b : Bck} {G G2 : List (Int × Int)} {nx : Int} (hs : Srt tr 900) (hl : tr.length ≤ 1000) (hn : ∀ e ∈ tr, e.seq < nx) (hG : Can 0 G) (rG : rightB G = true) (h1 : ∀ n, hasR G n = decide (1 ≤ n ∧ n < nx ∧ n ∉ seqsL tr))
    (hG2 : Can 0 G2) (h2 : ∀ n, hasR G2 n = decide (1 ≤ n ∧ n < nx ∧ n ∉ seqsL (leftL tr b))) :
    ofE (seqsL (goneL tr b)) = 0 ∧ rerr [ofL (seqsL (goneL tr b)), G] = 0 ∧ bothL tkU (ofL (seqsL (goneL tr b))) G = G2 ∧ (ofL (seqsL (goneL tr b))).length ≤ 65536 := by
  have hsg : (goneL tr b).Pairwise (fun a b => a.seq < b.seq) := hs.srt.sublist List.filter_sublist
  obtain ⟨s1, s2, s3, s4⟩ := seqs_ok hsg (fun e he => by have := hs.rng e (List.mem_filter.1 he).1; omega) (Nat.le_trans (List.length_filter_le _ _) (by omega))
  have hr : rightB (ofL (seqsL (goneL tr b))) = true := right_iff.2 ⟨by omega, s2⟩
  refine ⟨s1, rerr_two.2 ⟨hr, rG⟩, ?_, by omega⟩
  obtain ⟨b1, b2⟩ := both_spec (take := tkU) rfl s2 hG
  refine can_unique b1 hG2 fun n => ?_
  rw [b2 n, s3 n, h1 n, h2 n]
  unfold tkU
  rw [Bool.eq_iff_iff]
  simp only [Bool.or_eq_true, decide_eq_true_eq]
  have hm := mem_seqs_left (b := b) hs.srt n
  constructor
  · rintro (h | ⟨a1, a2, a3⟩)
    · obtain ⟨e, he, rfl⟩ := List.mem_map.1 (hm.2 (.inr h))
      exact ⟨(hs.rng e he).1, hn e he, fun h' => seqs_disj hs.srt h' h⟩
    · exact ⟨a1, a2, fun h => a3 (hm.2 (.inl h))⟩
  · rintro ⟨a1, a2, a3⟩
    by_cases h : n ∈ seqsL (goneL tr b)
    · exact .inl h
    · exact .inr ⟨a1, a2, fun h' => (hm.1 h').elim a3 h⟩
end Go.Proofs.YtalophngappkhaaGreatDoor
