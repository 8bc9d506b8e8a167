/- Plain laws on the order from above, as GroupOrder asks. -/
import Derived.Test.YtkkmmbmjpfecdaaGtm
import Derived.Test.YtkkmmbmjpfecdaaGre
namespace Go.Proofs.Ytkkmmbmjpfecdaa
section
variable {gs : List (Int × Int)}
theorem order_eq (h : GOK gs) : orderL gs = ints (ordF gs gs.length 0) := by
  unfold orderL
  rw [if_pos (there_zero.2 ⟨h, by simp⟩)]
theorem bef_root (h : Bef gs gs.length) : ∀ x, x < gs.length → 0 ∈ path gs x := by
  intro x
  induction x using Nat.strongRecOn with
  | _ x ih =>
    intro hx
    rcases Nat.eq_zero_or_pos x with rfl | h0
    · simp [path_zero]
    · obtain ⟨h1, h2⟩ := h x h0 hx
      rw [path_succ h h0 hx]
      exact List.mem_cons_of_mem _ (ih _ (by omega) (by omega))
theorem unds_root (h : Bef gs gs.length) : unds gs 0 = List.range gs.length := by
  unfold unds
  rw [List.filter_eq_self]
  intro x hx
  simp [underB, bef_root h x (List.mem_range.1 hx)]
theorem order_all (h : GOK gs) : (orderL gs).length = gs.length ∧ srtI (orderL gs) = ints (List.range gs.length) := by
  have hp := ordF_perm h.bef (m := gs.length) (g := 0) (by omega) h.pos
  rw [unds_root h.bef] at hp
  rw [order_eq h]
  refine ⟨?_, srtI_of_perm (ints_perm hp) (ints_sorted List.pairwise_lt_range)⟩
  have := hp.length_eq
  simpa [ints] using this
/-- A group and all under it stand together; its parent stands before. -/
theorem ordF_seg (h : Bef gs gs.length) : ∀ g, g < gs.length → ∃ m A B, gs.length - g ≤ m + 1 ∧ ordF gs gs.length 0 = A ++ (ordF gs (m + 1) g ++ B) ∧ (0 < g → (par gs g).toNat ∈ A) := by
  intro g
  induction g using Nat.strongRecOn with
  | _ g ih =>
    intro hg
    rcases Nat.eq_zero_or_pos g with rfl | h0
    · refine ⟨gs.length - 1, [], [], by omega, ?_, by omega⟩
      rw [show gs.length - 1 + 1 = gs.length by omega]; simp
    · obtain ⟨h1, h2⟩ := h g h0 hg
      obtain ⟨m, A, B, hm, he, _⟩ := ih (par gs g).toNat (by omega) (by omega)
      have hk : g ∈ kidsTo gs (par gs g).toNat gs.length := mem_kids.2 ⟨hg, by omega, by omega⟩
      obtain ⟨K1, K2, hK⟩ := List.append_of_mem hk
      obtain ⟨m', rfl⟩ : ∃ m', m = m' + 1 := ⟨m - 1, by omega⟩
      refine ⟨m', A ++ (par gs g).toNat :: K1.flatMap (ordF gs (m' + 1)), K2.flatMap (ordF gs (m' + 1)) ++ B, by omega, ?_, fun _ => by simp⟩
      rw [he]
      show A ++ (((par gs g).toNat :: (kidsTo gs (par gs g).toNat gs.length).flatMap (ordF gs (m' + 1))) ++ B) = _
      rw [hK]
      simp
def posF (gs : List (Int × Int)) (m P a : Nat) : Nat → Nat
  | 0 => a
  | t + 1 => a + 1 + (((kidsTo gs P gs.length).take t).flatMap (ordF gs m)).length
theorem posF_succ (m P a t : Nat) : posF gs m P a (t + 1) = a + 1 + (((kidsTo gs P gs.length).take t).flatMap (ordF gs m)).length := rfl
theorem order_facts (h : GOK gs) {P : Nat} (hP : P < gs.length) : ∃ (I : Nat) (f : Nat → Nat), idxZ (orderL gs) P = I ∧ I + (underL gs P).length ≤ gs.length ∧ I < gs.length ∧ srtI (((orderL gs).drop I).take (underL gs P).length) = underL gs P ∧
    (0 < P → ∃ J : Nat, idxZ (orderL gs) (par gs P) = J ∧ J ≤ I) ∧ f 0 = I ∧ ∀ t k, (kidsTo gs P gs.length)[t]? = some k → idxZ (orderL gs) (k : Nat) = f (t + 1) ∧ f t < f (t + 1) ∧ f (t + 1) ≤ gs.length := by
  have hb := h.bef
  obtain ⟨m, A, B, hm, he, hpar⟩ := ordF_seg hb P hP
  have hnd := ordF_nodup hb (m := gs.length) (g := 0) (by omega) h.pos
  have hlen := (order_all h).1
  have ho := order_eq h
  have hlo : (ordF gs gs.length 0).length = gs.length := by rw [ho] at hlen; simpa [ints] using hlen
  have hpm := ordF_perm hb (m := m + 1) hm hP
  have hul : (underL gs P).length = (ordF gs (m + 1) P).length := by rw [under_eq h hP, hpm.length_eq]; simp [ints]
  have hcons : ordF gs (m + 1) P = P :: (kidsTo gs P gs.length).flatMap (ordF gs m) := rfl
  rw [he] at hnd hlo
  have hnA : ∀ x ∈ A, x ∉ ordF gs (m + 1) P ++ B := fun x hx hy => (List.nodup_append.1 hnd).2.2 x hx x hy rfl
  have hPA : P ∉ A := fun hx => hnA P hx (by rw [hcons]; simp)
  have hi : idxZ (orderL gs) P = (A.length : Nat) := by rw [ho, he, hcons]; exact idxZ_ints A P _ hPA
  rw [List.length_append, List.length_append] at hlo
  have hc1 : 0 < (ordF gs (m + 1) P).length := by rw [hcons]; simp
  refine ⟨A.length, posF gs m P A.length, hi, by omega, by omega, ?_, ?_, rfl, ?_⟩
  · rw [hul, ho, he]
    have : ((ints (A ++ (ordF gs (m + 1) P ++ B))).drop A.length).take (ordF gs (m + 1) P).length = ints (ordF gs (m + 1) P) := by
      unfold ints
      rw [← List.map_drop, ← List.map_take, List.drop_left, List.take_left]
    rw [this, under_eq h hP]
    exact srtI_of_perm (ints_perm hpm) (ints_sorted (unds_sorted P))
  · intro h0
    have hpA := hpar h0
    obtain ⟨h1, h2⟩ := hb P h0 hP
    obtain ⟨A1, A2, hA⟩ := List.append_of_mem hpA
    have hnd2 := hnd
    rw [hA] at hnd2
    have hn1 : (par gs P).toNat ∉ A1 := fun hx => by
      have := List.nodup_append.1 (List.nodup_append.1 hnd2).1
      exact this.2.2 _ hx _ List.mem_cons_self rfl
    refine ⟨A1.length, ?_, by rw [hA]; simp⟩
    have := idxZ_ints A1 (par gs P).toNat (A2 ++ (ordF gs (m + 1) P ++ B)) hn1
    rw [ho, he, hA]
    rw [show ((par gs P).toNat : Int) = par gs P by omega] at this
    simpa using this
  · intro t k hk
    have hkm := List.mem_of_getElem? hk
    obtain ⟨k1, k2, k3⟩ := mem_kids.1 hkm
    have ht := (List.getElem?_eq_some_iff.1 hk).1
    have hsp : kidsTo gs P gs.length = (kidsTo gs P gs.length).take t ++ k :: (kidsTo gs P gs.length).drop (t + 1) := by
      have e1 : (kidsTo gs P gs.length).drop t = k :: (kidsTo gs P gs.length).drop (t + 1) := by
        rw [List.drop_eq_getElem_cons ht]
        congr 1
        rw [List.getElem?_eq_getElem ht] at hk
        exact Option.some.inj hk
      rw [← e1, List.take_append_drop]
    obtain ⟨m', rfl⟩ : ∃ m', m = m' + 1 := ⟨m - 1, by omega⟩
    have hF : ordF gs (m' + 1) k = k :: (kidsTo gs k gs.length).flatMap (ordF gs m') := rfl
    generalize hK1 : (kidsTo gs P gs.length).take t = K1 at hsp
    generalize hK2 : (kidsTo gs P gs.length).drop (t + 1) = K2 at hsp
    have hfull : ordF gs gs.length 0 = (A ++ P :: K1.flatMap (ordF gs (m' + 1))) ++ k :: ((kidsTo gs k gs.length).flatMap (ordF gs m') ++ (K2.flatMap (ordF gs (m' + 1)) ++ B)) := by
      rw [he, hcons, hsp]; simp [hF]
    have hnd3 := ordF_nodup hb (m := gs.length) (g := 0) (by omega) h.pos
    have hl3 : (ordF gs gs.length 0).length = gs.length := by rw [he]; simp; omega
    rw [hfull] at hnd3 hl3
    have hnk : k ∉ A ++ P :: K1.flatMap (ordF gs (m' + 1)) := fun hx => (List.nodup_append.1 hnd3).2.2 k hx k List.mem_cons_self rfl
    have hlt2 : (A ++ P :: K1.flatMap (ordF gs (m' + 1))).length = A.length + 1 + (K1.flatMap (ordF gs (m' + 1))).length := by simp; omega
    rw [List.length_append, hlt2] at hl3
    have ep : posF gs (m' + 1) P A.length (t + 1) = A.length + 1 + (K1.flatMap (ordF gs (m' + 1))).length := by rw [posF_succ, hK1]
    rw [ep]
    refine ⟨?_, ?_, ?_⟩
    · rw [ho, hfull, idxZ_ints _ _ _ hnk, hlt2]
    · rcases Nat.eq_zero_or_pos t with rfl | ht0
      · show A.length < _; omega
      · obtain ⟨t', rfl⟩ : ∃ t', t = t' + 1 := ⟨t - 1, by omega⟩
        rw [posF_succ, ← hK1]
        obtain ⟨k', hk'⟩ : ∃ k', (kidsTo gs P gs.length)[t']? = some k' := ⟨_, List.getElem?_eq_getElem (by omega)⟩
        have hkl := (mem_kids.1 (List.mem_of_getElem? hk'))
        rw [List.take_add_one, hk', List.flatMap_append, List.length_append]
        have : 0 < ([k'].flatMap (ordF gs (m' + 1))).length := by
          simp [ordF]
        simp only [Option.toList_some]
        omega
    · rw [List.length_cons] at hl3; omega
end
end Go.Proofs.Ytkkmmbmjpfecdaa
