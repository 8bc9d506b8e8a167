/- Plain laws for the reference's Meet and Order. -/
import Derived.Test.YtkkmmbmjpfecdaaGto
import Derived.Test.YtkkmmbmjpfecdaaGrf
namespace Go.Proofs.Ytkkmmbmjpfecdaa
section
variable {gs : List (Int × Int)}
/-- A group is in the path of all of some. -/
def comB (gs : List (Int × Int)) (zs : List Int) (x : Nat) : Prop := zs ≠ [] ∧ ∀ z ∈ zs, x ∈ path gs z.toNat
theorem path_trans (h : Bef gs gs.length) {a b c : Nat} (ha : a < gs.length) (hb : b ∈ path gs a) (hc : c ∈ path gs b) : c ∈ path gs a := by
  obtain ⟨pre, he, _⟩ := path_suffix h a ha b hb
  rw [he]; exact List.mem_append_right _ hc
theorem path_dep (h : Bef gs gs.length) {m x : Nat} (hm : m < gs.length) (hx : x ∈ path gs m) : dep gs x ≤ dep gs m ∧ (dep gs x = dep gs m → x = m) := by
  obtain ⟨pre, he, _⟩ := path_suffix h m hm x hx
  have hxl : x < gs.length := by have := path_mem_le h m hm x hx; omega
  have hp := path_len_pos h hxl
  have hl : (path gs m).length = pre.length + (path gs x).length := by rw [← List.length_append, ← he]
  unfold dep
  refine ⟨by omega, fun hd => ?_⟩
  have : pre = [] := List.eq_nil_of_length_eq_zero (by omega)
  subst this
  have h1 := path_head h hm
  have h2 := path_head h hxl
  rw [he, List.nil_append, h2] at h1
  exact Option.some.inj h1
theorem meet_fold (h : Bef gs gs.length) : ∀ (r : List Int) (a : Nat), a < gs.length → (∀ z ∈ r, 0 ≤ z ∧ z < gs.length) →
    r.foldl (fun a z => meet2 gs a z.toNat) a < gs.length ∧ r.foldl (fun a z => meet2 gs a z.toNat) a ∈ path gs a ∧ (∀ z ∈ r, r.foldl (fun a z => meet2 gs a z.toNat) a ∈ path gs z.toNat) ∧
    ∀ x ∈ path gs a, (∀ z ∈ r, x ∈ path gs z.toNat) → x ∈ path gs (r.foldl (fun a z => meet2 gs a z.toNat) a) := by
  intro r
  induction r with
  | nil => intro a ha _; exact ⟨ha, path_self h ha, by simp, fun x hx _ => hx⟩
  | cons z r ih =>
    intro a ha hz
    obtain ⟨z1, z2⟩ := hz z List.mem_cons_self
    have hzl : z.toNat < gs.length := by omega
    obtain ⟨m1, m2⟩ := meet2_mem h _ a z.toNat (Nat.le_refl _) ha hzl
    have hml := meet2_lt h ha hzl
    obtain ⟨i1, i2, i3, i4⟩ := ih (meet2 gs a z.toNat) hml (fun y hy => hz y (List.mem_cons_of_mem _ hy))
    simp only [List.foldl_cons]
    refine ⟨i1, path_trans h ha m1 i2, fun y hy => ?_, fun x hx hy => ?_⟩
    · rcases List.mem_cons.1 hy with rfl | hy
      · exact path_trans h hzl m2 i2
      · exact i3 y hy
    · exact i4 x (meet2_max h _ a z.toNat (Nat.le_refl _) ha hzl x hx (hy z List.mem_cons_self)) (fun y hy' => hy y (List.mem_cons_of_mem _ hy'))
theorem meetL_com (h : Bef gs gs.length) {zs : List Int} (hz : ∀ z ∈ zs, 0 ≤ z ∧ z < gs.length) (hne : zs ≠ []) : meetL gs zs < gs.length ∧ comB gs zs (meetL gs zs) ∧ ∀ x, comB gs zs x → x ∈ path gs (meetL gs zs) := by
  cases zs with
  | nil => exact absurd rfl hne
  | cons z r =>
    obtain ⟨z1, z2⟩ := hz z List.mem_cons_self
    obtain ⟨i1, i2, i3, i4⟩ := meet_fold h r z.toNat (by omega) (fun y hy => hz y (List.mem_cons_of_mem _ hy))
    refine ⟨i1, ⟨by simp, fun y hy => ?_⟩, fun x hx => i4 x (hx.2 z List.mem_cons_self) (fun y hy => hx.2 y (List.mem_cons_of_mem _ hy))⟩
    rcases List.mem_cons.1 hy with rfl | hy
    · exact i2
    · exact i3 y hy
/-- The deepest group that is in all paths. -/
theorem meet_best (h : Bef gs gs.length) (hp : 0 < gs.length) {zs : List Int} (hz : ∀ z ∈ zs, 0 ≤ z ∧ z < gs.length) {best : Nat} (hb : best = 0 ∨ comB gs zs best) (hm : ∀ x, x < gs.length → comB gs zs x → dep gs x ≤ dep gs best) : best = meetL gs zs := by
  by_cases hne : zs = []
  · subst hne
    rcases hb with rfl | hb
    · rfl
    · exact absurd rfl hb.1
  · obtain ⟨m1, m2, m3⟩ := meetL_com h hz hne
    have hd := hm _ m1 m2
    rcases hb with rfl | hb
    · rw [dep_zero] at hd
      have h0 := bef_root h _ m1
      exact (path_dep h m1 h0).2 (by rw [dep_zero]; omega)
    · have := path_dep h m1 (m3 _ hb)
      exact this.2 (by omega)
end

/-- One behind the last of those that q takes. -/
def lastQ (q : Nat → Bool) (l : List Nat) : Nat := l.length - (l.reverse.takeWhile (fun x => !q x)).length
theorem lastQ_nil (q : Nat → Bool) : lastQ q [] = 0 := rfl
theorem lastQ_snoc (q : Nat → Bool) (l : List Nat) (x : Nat) : lastQ q (l ++ [x]) = if q x then l.length + 1 else lastQ q l := by
  unfold lastQ
  rw [List.reverse_append, List.reverse_singleton, List.singleton_append, List.takeWhile_cons, List.length_append]
  cases q x <;> simp
theorem lastQ_le (q : Nat → Bool) (l : List Nat) : lastQ q l ≤ l.length := by unfold lastQ; omega
theorem lastQ_mid (q : Nat → Bool) (A : List Nat) (a : Nat) (B : List Nat) (ha : q a = true) (hB : ∀ y ∈ B, q y = false) : lastQ q ((A ++ [a]) ++ B) = A.length + 1 := by
  unfold lastQ
  rw [List.reverse_append, List.takeWhile_append_of_pos (by intro y hy; simp at hy; simp [hB y hy])]
  simp [List.takeWhile_cons, ha]
  omega

section
variable {gs : List (Int × Int)}
theorem kidsTo_app (p : Nat) (w : Int) (g : Nat) (hg : g < gs.length) : kidsTo (gs ++ [((p : Int), w)]) g (gs ++ [((p : Int), w)]).length = kidsTo gs g gs.length ++ if p = g then [gs.length] else [] := by
  rw [List.length_append, List.length_singleton, kidsTo_succ]
  congr 1
  · unfold kidsTo
    apply List.filter_congr
    intro x hx
    unfold kidB
    rw [par_append _ (by simpa using hx)]
  · have : par (gs ++ [((p : Int), w)]) gs.length = p := by simp [par]
    unfold kidB
    rw [this]
    by_cases e : p = g
    · simp [e, hg]
    · have : ((p : Int) == (g : Int)) = false := by simp; omega
      simp [e, this]
theorem ordF_leaf (p : Nat) (w : Int) (hp : p < gs.length) (m : Nat) : ordF (gs ++ [((p : Int), w)]) (m + 1) gs.length = [gs.length] := by
  unfold ordF
  have : kidsTo (gs ++ [((p : Int), w)]) gs.length (gs ++ [((p : Int), w)]).length = [] := by
    rw [List.length_append, List.length_singleton]; exact kidsTo_start _
  rw [this]; rfl
theorem par_in_path (h : Bef gs gs.length) {k g : Nat} (hk : k < gs.length) (hg : g < k) (hp : par gs k = (g : Int)) : g ∈ path gs k := by
  rw [path_succ h (by omega) hk, hp, Int.toNat_natCast]
  exact List.mem_cons_of_mem _ (path_self h (by omega))
theorem ord_ins (h : Bef gs gs.length) (p : Nat) (w : Int) (hp : p < gs.length) : ∀ m g, gs.length - g ≤ m → g < gs.length →
    (g ∉ path gs p → ordF (gs ++ [((p : Int), w)]) (m + 1) g = ordF gs m g) ∧
    (g ∈ path gs p → ∃ A a B, ordF gs m g = (A ++ [a]) ++ B ∧ ordF (gs ++ [((p : Int), w)]) (m + 1) g = (A ++ [a]) ++ gs.length :: B ∧ p ∈ path gs a ∧ ∀ y ∈ B, y < gs.length ∧ p ∉ path gs y) := by
  intro m
  induction m with
  | zero => intro g hm hg; omega
  | succ m ih =>
    intro g hm hg
    have e1 : ordF (gs ++ [((p : Int), w)]) (m + 1 + 1) g = g :: (kidsTo (gs ++ [((p : Int), w)]) g (gs ++ [((p : Int), w)]).length).flatMap (ordF (gs ++ [((p : Int), w)]) (m + 1)) := rfl
    have e2 : ordF gs (m + 1) g = g :: (kidsTo gs g gs.length).flatMap (ordF gs m) := rfl
    have same : ∀ K : List Nat, (∀ k ∈ K, k ∈ kidsTo gs g gs.length ∧ k ∉ path gs p) → K.flatMap (ordF (gs ++ [((p : Int), w)]) (m + 1)) = K.flatMap (ordF gs m) := fun K hK => by
      rw [List.flatMap_def, List.flatMap_def]
      congr 1
      apply List.map_congr_left
      intro k hk
      obtain ⟨h1, h2⟩ := hK k hk
      obtain ⟨a, b, _⟩ := mem_kids.1 h1
      exact (ih k (by omega) a).1 h2
    refine ⟨fun hn => ?_, fun hin => ?_⟩
    · have hne : p ≠ g := fun e => hn (by rw [← e]; exact path_self h hp)
      rw [e1, e2, kidsTo_app p w g hg, if_neg hne, List.append_nil, same _ (fun k hk => ⟨hk, fun hk2 => hn ?_⟩)]
      obtain ⟨a, b, c⟩ := mem_kids.1 hk
      exact path_trans h hp hk2 (par_in_path h a b c)
    · by_cases hgp : p = g
      · subst hgp
        have hs := same _ (fun k hk => ⟨hk, fun hk2 => by
          obtain ⟨a, b, c⟩ := mem_kids.1 hk
          have := path_mem_le h p hp k hk2; omega⟩)
        have hne : ordF gs (m + 1) p ≠ [] := by rw [e2]; simp
        refine ⟨(ordF gs (m + 1) p).dropLast, (ordF gs (m + 1) p).getLast hne, [], ?_, ?_, ?_, by simp⟩
        · rw [List.dropLast_concat_getLast, List.append_nil]
        · rw [List.dropLast_concat_getLast, e1, e2, kidsTo_app p w p hg, if_pos rfl, List.flatMap_append, hs, List.flatMap_singleton, ordF_leaf p w hp]
          simp
        · exact ((ordF_mem h (by omega) hg).1 (List.getLast_mem hne)).2
      · have hc := kids_in_path h hg p hp
        rw [if_pos ⟨hin, hgp⟩] at hc
        have hpos : 0 < ((kidsTo gs g gs.length).filter (fun k => decide (k ∈ path gs p))).length := by omega
        obtain ⟨k, hk⟩ := List.exists_mem_of_length_pos hpos
        obtain ⟨hk1, hk2⟩ := List.mem_filter.1 hk
        have hk2 : k ∈ path gs p := by simpa using hk2
        obtain ⟨K1, K2, hK⟩ := List.append_of_mem hk1
        have hmem : ∀ y, y ∈ K1 ∨ y ∈ K2 → y ∈ kidsTo gs g gs.length := fun y hy => by rw [hK]; simp; rcases hy with hy | hy <;> simp [hy]
        have hone : ∀ x, x < gs.length → k ∈ path gs x → ∀ y, y ∈ K1 ∨ y ∈ K2 → y ∉ path gs x := fun x hx hkx y hy hyx => by
          have hcx := kids_in_path h hg x hx
          rw [hK, List.filter_append, List.filter_cons, if_pos (by simpa using hkx), List.length_append, List.length_cons] at hcx
          have hle : (if g ∈ path gs x ∧ x ≠ g then 1 else 0) ≤ 1 := by split <;> omega
          rcases hy with hy | hy
          · have := List.length_pos_of_mem (List.mem_filter (p := fun k => decide (k ∈ path gs x)).2 ⟨hy, by simpa using hyx⟩)
            omega
          · have := List.length_pos_of_mem (List.mem_filter (p := fun k => decide (k ∈ path gs x)).2 ⟨hy, by simpa using hyx⟩)
            omega
        obtain ⟨a, b, c⟩ := mem_kids.1 hk1
        obtain ⟨A, a1, B, i1, i2, i3, i4⟩ := (ih k (by omega) a).2 hk2
        have s1 := same K1 (fun y hy => ⟨hmem y (.inl hy), hone p hp hk2 y (.inl hy)⟩)
        have s2 := same K2 (fun y hy => ⟨hmem y (.inr hy), hone p hp hk2 y (.inr hy)⟩)
        refine ⟨g :: (K1.flatMap (ordF gs m) ++ A), a1, B ++ K2.flatMap (ordF gs m), ?_, ?_, i3, fun y hy => ?_⟩
        · rw [e2, hK, List.flatMap_append, List.flatMap_cons, i1]; simp
        · rw [e1, kidsTo_app p w g hg, if_neg hgp, List.append_nil, hK, List.flatMap_append, List.flatMap_cons, i2, s1, s2]; simp
        · rcases List.mem_append.1 hy with hy | hy
          · exact i4 y hy
          · obtain ⟨k2, hk2m, hy2⟩ := List.mem_flatMap.1 hy
            obtain ⟨a2, b2, _⟩ := mem_kids.1 (hmem k2 (.inr hk2m))
            obtain ⟨y1, y2⟩ := (ordF_mem h (by omega) a2).1 hy2
            exact ⟨y1, fun hpy => hone y y1 (path_trans h y1 hpy hk2) k2 (.inr hk2m) y2⟩

/-- The order from above of the first j groups. -/
def ordX (gs : List (Int × Int)) (j : Nat) : List Nat := ordF (gs.take j) j 0
def inPath (gs : List (Int × Int)) (p x : Nat) : Bool := (path gs x).contains p
theorem ordX_all : ordX gs gs.length = ordF gs gs.length 0 := by unfold ordX; rw [List.take_length]
theorem ordX_lt (h : GOK gs) {j : Nat} (hj : j ≤ gs.length) : (ordX gs j).length = j ∧ ∀ x ∈ ordX gs j, x < j := by
  rcases Nat.eq_zero_or_pos j with rfl | h0
  · exact ⟨rfl, by simp [ordX, ordF]⟩
  · have ho := gok_take h h0 hj
    have hl : (gs.take j).length = j := by simp; omega
    have hp := ordF_perm ho.bef (m := (gs.take j).length) (g := 0) (by omega) ho.pos
    rw [unds_root ho.bef, hl] at hp
    unfold ordX
    exact ⟨by have := hp.length_eq; simpa using this, fun x hx => by simpa using hp.mem_iff.1 hx⟩
theorem ordX_step (h : GOK gs) {j : Nat} (hj : j < gs.length) : ordX gs (j + 1) = (ordX gs j).take (lastQ (inPath gs (par gs j).toNat) (ordX gs j)) ++ j :: (ordX gs j).drop (lastQ (inPath gs (par gs j).toNat) (ordX gs j)) := by
  rcases Nat.eq_zero_or_pos j with rfl | h0
  · have h1 : 0 < gs.length := hj
    have e0 : ordX gs 0 = [] := rfl
    have hl : (gs.take 1).length = 1 := by simp; omega
    rw [e0]
    unfold ordX
    unfold ordF
    rw [hl, kidsTo_start]; rfl
  · have ho := gok_take h h0 (by omega : j ≤ gs.length)
    have hl : (gs.take j).length = j := by simp; omega
    obtain ⟨r1, r2, _⟩ := h.each j h0 hj
    obtain ⟨p, hp⟩ := Int.eq_ofNat_of_zero_le r1
    have hpj : p < j := by omega
    have hg : gs[j]? = some ((p : Int), wgt gs j) := by
      rw [List.getElem?_eq_getElem hj]
      have := par_get (List.getElem?_eq_getElem hj)
      have h2 := wgt_get (List.getElem?_eq_getElem hj)
      rw [hp] at this
      rw [h2, this]
    have ht : gs.take (j + 1) = gs.take j ++ [((p : Int), wgt gs j)] := by rw [List.take_add_one, hg]; rfl
    have hbp : ∀ x, x < j → path (gs.take j) x = path gs x := fun x hx => path_take h.bef (by omega) hx
    obtain ⟨A, a, B, i1, i2, i3, i4⟩ := (ord_ins ho.bef p (wgt gs j) (by omega) j 0 (by omega) (by omega)).2 (bef_root ho.bef p (by omega))
    rw [hl] at i2 i4
    have hm := (ordX_lt h (j := j) (by omega)).2
    have ex : ordX gs j = (A ++ [a]) ++ B := i1
    have haj : a < j := hm a (by rw [ex]; simp)
    have hq : lastQ (inPath gs (par gs j).toNat) (ordX gs j) = A.length + 1 := by
      rw [ex, hp, Int.toNat_natCast]
      refine lastQ_mid _ A a B ?_ (fun y hy => ?_)
      · rw [hbp a haj] at i3; simpa [inPath] using i3
      · obtain ⟨y1, y2⟩ := i4 y hy
        rw [hbp y y1] at y2; simpa [inPath] using y2
    rw [hq, ex]
    have : ordX gs (j + 1) = (A ++ [a]) ++ j :: B := by unfold ordX; rw [ht]; exact i2
    rw [this, List.take_append_of_le_length (by simp), List.drop_append_of_le_length (by simp), List.take_of_length_le (by simp), List.drop_of_length_le (by simp), List.nil_append]
end
end Go.Proofs.Ytkkmmbmjpfecdaa
