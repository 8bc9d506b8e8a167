/- quota.Account: collecting the uses, key by key; their order | quota.Account, behind the trace: the uses, collected and sorted | Contract of quota.Account. -/
import Derived.Test.YtaplangfppohdaaDoorZ12
import Derived.Test.YtaplangfppohdaaDoorZ10
import Derived.Deep.CutBlock
import Derived.Test.YtaplangfppohdaaDoorZ8
set_option linter.unusedVariables false
set_option linter.unusedSimpArgs false
set_option linter.unusedSectionVars false
namespace Go.Proofs.YtaplangfppohdaaDoor
open Go.RowKit Go.Shelf Go.Maps
attribute [local go_sem] Oper.semAt_some

section
variable {P : Program} {k e t : TypeId} {w w' : World} {b r n cnt : Nat} {F : Lit → Option Value} {left : Lit → Bool} {ops : Array Oper} {rest : List Oper} {o : Oper} {a : Act} {Q : Exit → Act → World → Prop}
theorem wpList_nextL {α β : Type} (hg : o.guard = none) (it : Operand) (hop : o.op = Op.next it false) (K : Keyed P k) (mkK : α → Value) (mkV : β → Value)
    (invK : ∀ key kl, left kl = true → keyOf P k key = some kl → ∃ x, key = mkK x) (hit : a.eval it = .pointer (some ⟨r, 0, none⟩)) (h : RgV P k w b r n F left cnt) (hleft : ∀ kl, left kl = true → ∃ c, F kl = some (mkV c))
    (hDone : cnt = 0 → (∀ kl, left kl = false) → wpList P ops Q rest (a.put o.dst (.tuple #[.bool false])) w)
    (hMore : ∀ (x : α) (c : β) (kl : Lit) (w' : World) (cnt' : Nat), keyOf P k (mkK x) = some kl → left kl = true → F kl = some (mkV c) → RgV P k w' b r n F (fun z => left z && !z.sameKey kl) cnt' → cnt' < cnt →
      w.grownBy w' (some r) → w'.heap.size = w.heap.size → (Instr.entry (.pointer (some ⟨r, 0, none⟩))).run P w' = .ok (.tuple #[mkK x, mkV c]) w' → wpList P ops Q rest (a.put o.dst (.tuple #[.bool true, mkK x, mkV c])) w') :
    wpList P ops Q (o :: rest) a w := by
  obtain ⟨D, h, q⟩ := h
  refine wpList_plain hg fun K' hK' => ?_
  unfold Oper.wp
  rcases h.next K o.type with ⟨h0, hl, hrun⟩ | ⟨key, v, kl, y, w', cnt', hkey, hlk, hv, hat, hrun, hrg, hlt, hgr, hsz, hen⟩
  · simp [execOp, hop, hit, hrun, Result.andThen]
    exact hK' _ _ (hDone h0 hl)
  · obtain ⟨x, rfl⟩ := invK key kl hlk hkey
    obtain ⟨c, hc⟩ := hleft kl hlk
    have h1 := (q kl).1 _ hc .nil
    rw [hat] at h1
    have h2 := tokR_inv (show tokR v = some (y.1, y.2) from hv)
    rw [h1] at h2
    cases h2
    simp [execOp, hop, hit, hrun, Result.andThen]
    exact hK' _ _ (hMore x c kl w' cnt' hkey hlk hc ⟨D, hrg, q⟩ hlt hgr hsz hen)
end
/-- The iterator steps on. -/
theorem OutW.next {B0 S rl c2 : Nat} {A2 : Option Addr} {R0 Mb rr N cnt cnt' : Nat} {left left' : Lit → Bool} {M : Int → Int → List (Int × Int)} {F : Lit → Option Value} {ov : Value} {outs : List Us} {W0' w w' : World}
    (h : OutW B0 S rl c2 A2 R0 Mb rr N cnt left M F ov outs W0' w) (hrr : B0 ≤ rr) (hB : W0'.heap.size = B0) (hrg : RgV Tryd.prog 102 w' Mb rr N F left' cnt') (hg : w.grownBy w' (some rr)) : OutW B0 S rl c2 A2 R0 Mb rr N cnt' left' M F ov outs W0' w' := by
  obtain ⟨o, ho, hne, _⟩ := h.rg.iter
  have hk : ∀ (g : Nat) (cs : Array Value) (t : TypeId) (fz : Nat × Nat), w.heap[g]? = some (.cells cs t fz) → w'.heap[g]? = some (.cells cs t fz) := fun g cs t fz hh => (hg.block g (Array.getElem?_eq_some_iff.1 hh).1 (fun e => by
    have e' : g = rr := by simpa using e
    subst e'
    rw [ho] at hh; exact hne _ _ _ (Option.some.inj hh))).trans hh
  refine ⟨h.low.grown hg (by have := h.low.size; omega) (fun k hk => by cases hk; exact hrr), ⟨h.hS.1, Nat.le_trans h.hS.2 hg.size⟩, hk _ _ _ _ h.r0, hrg, h.fam.same fun g cs hh => hk g cs _ _ hh, h.out.keep hg ?_⟩
  cases hv : ov.ownBlock with
  | none => exact .inl rfl
  | some g => exact .inr (fun e => h.rg.ne_row h.out (by rw [hv, e]))
/-- Which keys have come. -/
structure Came (gs : List (Int × Int)) (rs : List Ru) (o : List Rn) (F : Lit → Option Value) (ks : List (Int × Int)) (left : Lit → Bool) : Prop where
  nd : ks.Nodup
  ne : ∀ p ∈ ks, Mf gs rs o p.1 p.2 ≠ [] ∧ left (kL p.1 p.2) = false
  all : ∀ kl v, F kl = some v → left kl = false → ∃ p ∈ ks, kl = kL p.1 p.2
  lf : ∀ kl, left kl = true → (F kl).isSome = true
section
variable {gs : List (Int × Int)} {rs : List Ru} {o : List Rn} {F : Lit → Option Value} {ks : List (Int × Int)} {left : Lit → Bool}
theorem Came.start : Came gs rs o F [] (fun kl => (F kl).isSome) := ⟨List.nodup_nil, fun _ h => (by cases h), fun kl v h1 h2 => (by rw [h1] at h2; cases h2), fun _ h => h⟩
theorem I64_of {i : Int} {n : Nat} (h0 : 0 ≤ i) (h1 : i < n) (hn : n ≤ 1000000) : I64 i := by unfold I64; omega
theorem Came.step (h : Came gs rs o F ks left) (hl : rs.length ≤ 1000000) {p : Int × Int} (hp : Mf gs rs o p.1 p.2 ≠ []) (hlt : left (kL p.1 p.2) = true) : Came gs rs o F (ks ++ [p]) (fun z => left z && !z.sameKey (kL p.1 p.2)) := by
  have hin := Mf_in hp
  have hsk : ∀ z : Lit, z.sameKey (kL p.1 p.2) = true → z = kL p.1 p.2 := fun z hz => by
    unfold kL at *
    cases z <;> simp [Lit.sameKey] at hz ⊢ <;> exact hz
  have hself : (kL p.1 p.2).sameKey (kL p.1 p.2) = true := by simp [kL, Lit.sameKey]
  refine ⟨?_, fun q hq => ?_, fun kl v h1 h2 => ?_, fun kl hk => h.lf kl (by simp at hk; exact hk.1)⟩
  · rw [List.nodup_append]
    refine ⟨h.nd, by simp, fun a ha b hb e => ?_⟩
    simp only [List.mem_singleton] at hb
    subst hb
    subst e
    have := (h.ne _ ha).2
    rw [hlt] at this; cases this
  · rcases List.mem_append.1 hq with hq | hq
    · exact ⟨(h.ne q hq).1, by rw [(h.ne q hq).2]; rfl⟩
    · simp only [List.mem_singleton] at hq
      subst hq
      exact ⟨hp, by rw [hself]; simp⟩
  · cases hlk : left kl with
    | false =>
      obtain ⟨q, hq, e⟩ := h.all kl v h1 hlk
      exact ⟨q, List.mem_append_left _ hq, e⟩
    | true =>
      rw [hlk] at h2
      have : kl.sameKey (kL p.1 p.2) = true := by simpa using h2
      exact ⟨p, by simp, hsk kl this⟩
theorem keys_len {n : Nat} (hn : ks.Nodup) (h : ∀ p ∈ ks, p ∈ keysA n) : ks.length ≤ n * 64 := by
  have h1 : ks.Perm ((keysA n).filter fun p => decide (p ∈ ks)) := (List.perm_ext_iff_of_nodup hn ((nodup_keysA _).filter _)).2 (fun p => by
    rw [List.mem_filter, decide_eq_true_eq]; exact ⟨fun hp => ⟨h p hp, hp⟩, fun hp => hp.2⟩)
  rw [h1.length_eq]
  refine Nat.le_trans (List.length_filter_le _ _) ?_
  unfold keysA
  rw [List.length_flatMap]
  have := sum_le_mul (fun a : Nat => ((List.range 64).map fun c : Nat => ((a : Int), (c : Int))).length) 64 (List.range n) (fun x _ => by simp)
  rwa [List.length_range] at this
theorem came_len (h : Came gs rs o F ks left) (hr : rs.length ≤ 100) (ha : allN gs rs o ≤ 65536) : (ks.flatMap (ukF gs rs o)).length ≤ 500000000 := by
  have h1 : ks.length ≤ rs.length * 64 := keys_len h.nd (fun p hp => mem_keysA.2 (Mf_in (h.ne p hp).1))
  rw [List.length_flatMap]
  have h2 := sum_le_mul (fun p => (ukF gs rs o p).length) 65536 ks (fun p hp => by
    unfold ukF usesOf
    rw [List.length_map, List.length_range]
    have hin := Mf_in (h.ne p hp).1
    unfold Mf
    rw [if_pos hin]
    have := used_len (gs := gs) (rs := rs) (i := p.1.toNat) (by omega) p.2 o
    omega)
  have h3 : ks.length * 65536 ≤ (100 * 64) * 65536 := Nat.mul_le_mul_right _ (by omega)
  omega
end
theorem acc_parts {p : Nat} {t : Int} {l : List (Int × Int)} (h : AccOk p t l) (hp : 1 ≤ p ∧ p ≤ 4294967296) (ht : t ≤ 281474976710656) : PartsOk l := by
  intro j hj
  have hg : partAt l j = l[j] := by simp [partAt, List.getElem?_eq_getElem hj]
  have h1 := h.each l[j] (List.getElem_mem hj)
  have h2 : l[j].1 ≤ l[j].1 * p := by
    have := Int.mul_le_mul_of_nonneg_left (show (1 : Int) ≤ (p : Int) by omega) h1.1
    omega
  unfold PartOk
  rw [hg]
  refine ⟨⟨?_, by omega⟩, by omega, by omega⟩
  cases j with
  | zero => simp [lastP]; omega
  | succ j =>
    rw [lastP_succ]
    have h3 := List.pairwise_iff_getElem.1 h.inc j (j + 1) (by omega) hj (by omega)
    have hg2 : partAt l j = l[j] := by simp [partAt, List.getElem?_eq_getElem (show j < l.length by omega)]
    rw [hg2]; omega
theorem usesOf_take {i : Nat} {c lim : Int} {ps : List (Int × Int)} {j : Nat} (hj : j < ps.length) : (usesOf i c lim ps).take (j + 1) = (usesOf i c lim ps).take j ++ [⟨i, c, (partAt ps j).1, (partAt ps j).2, debtAt ps lim (j + 1)⟩] := by
  have hl : (usesOf i c lim ps).length = ps.length := by unfold usesOf; simp
  rw [List.take_add_one]
  congr 1
  unfold usesOf
  simp [hj]
end Go.Proofs.YtaplangfppohdaaDoor
namespace Go.Proofs.YtaplangfppohdaaDoor
open Go.RowKit Go.Shelf Go.Maps
attribute [local go_sem] Oper.semAt_some

set_option maxRecDepth 100000 in
set_option maxHeartbeats 3200000 in
theorem acct_tail (W0' w1 : World) (B0 gl c1 c2 G0 R0 A0 U0 Mb N : Nat) (A1 A2 : Option Addr) (gs : List (Int × Int)) (rs : List Ru) (o : List Rn) (F : Lit → Option Value) (Post : Ending → World → Prop) {u0 u1 u2 u3 u4 u6 u7 u8 u9 u10 u11 u12 u14 u15 u16 u17 u18 u19 u20 u21 u22 u23 u24 u25 u26 u27 u28 u29 u30 u31 u32 u33 u34 u35 u36 u37 u38 u39 u40 u41 u42 u43 u44 u45 u46 u47 u48 u49 u50 u51 u52 u53 u54 u55 u56 u57 u58 u59 u60 u61 u62 u63 u64 u65 u66 u67 u68 u69 u70 u71 u72 u73 u74 u75 u76 u77 u78 u79 u80 u81 u82 : Value}
    (HB : Hid (W0'.heap.size = B0)) (HRS : Hid (EV encRu 3 W0' (.slice A2 rs.length c2) rs)) (HLR : Hid (rs.length ≤ 100)) (HRO : Hid (∀ i, i < rs.length → RuOk gs.length (ruAt rs i))) (HT : Hid (∀ x ∈ o, RnOk gs.length x)) (HAP : Hid (Apart o)) (HAL : Hid (allN gs rs o ≤ 65536))
    (HA : Hid (AccW B0 W0' gl rs.length c1 c2 A1 A2 G0 R0 A0 U0 Mb (allN gs rs o) N (Mf gs rs o) F w1))
    (FIN : Hid (∀ v w', OV encUs 5 50 B0 w' v (usesL gs rs o) → Below B0 W0' w' → Post (.returned (.tuple #[v, .int .i64 0])) w')) :
    Code.wp Tryd.prog (tailR Tryd.f16 11) (bodyPost Tryd.prog Tryd.f16 Post) ⟨#[u0, u1, u2, u3, u4, .pointer (some ⟨R0, 0, none⟩), u6, u7, u8, u9, u10, u11, u12, .pointer (some ⟨U0, 0, none⟩), u14, u15, u16, u17, u18, u19, u20, u21, u22, u23, u24, u25, u26, u27, u28, u29, u30, u31, u32, u33, u34, u35, u36, u37, u38, u39, u40, u41, u42, u43, u44, u45, u46, u47, u48, u49, u50, u51, u52, u53, u54, u55, u56, u57, u58, u59, u60, u61, u62, u63, u64, u65, u66, u67, u68, u69, u70, u71, u72, u73, u74, u75, u76, u77, u78, u79, u80, u81, u82], []⟩ w1 := by
  conv => arg 2; whnf
  conv => arg 4; dsimp only
  have u0 := HA.out.u0.cell
  obtain ⟨rr, hrr⟩ : ∃ rr, rr = w1.heap.size := ⟨_, rfl⟩
  have HRR := Lib.hid (show B0 ≤ rr from by have := HA.out.low.size; have := HB.out; omega)
  go_wp2_with (at_range; refine wpList_rangeV (k := 102) (e := 25) rfl _ (by rfl) lawK Tryd.underlying98 (by rfl) HA.out.mp ?_; intro w2 cnt rg g1 s1 cn1)
  rw [← hrr] at rg ⊢
  have HO0 := Lib.hid (show OutW B0 B0 rs.length c2 A2 R0 Mb rr N cnt (fun kl => (F kl).isSome) (Mf gs rs o) F (.slice none 0 0) [] W0' w2 from by
    have hl1 := HA.out.low.size
    have hty : ∀ (g : Nat) (cs : Array Value) (t : TypeId) (fz : Nat × Nat), w1.heap[g]? = some (.cells cs t fz) → w2.heap[g]? = some (.cells cs t fz) := fun g cs t fz hh => (g1.block g (Array.getElem?_eq_some_iff.1 hh).1 (fun e => by cases e)).trans hh
    refine ⟨HA.out.low.grown g1 (by have := HB.out; omega) (fun k hk => by cases hk), ⟨Nat.le_refl _, by have := HB.out; omega⟩, hty _ _ _ _ HA.out.r0, rg, (HA.out.fam HAL.out).same fun g cs hg => hty g cs _ _ hg, OV.nil _ _⟩)
  clear u0 rg g1 s1 hrr cn1
  go_frame
  go_loopg [15] cnt (fun k v wr => ∃ (left : Lit → Bool) (ks : List (Int × Int)), OutW B0 B0 rs.length c2 A2 R0 Mb rr N k left (Mf gs rs o) F v (ks.flatMap (ukF gs rs o)) W0' wr ∧ Came gs rs o F ks left)
  case atStart => exact ⟨_, [], HO0.out, Came.start⟩
  case round =>
    clear HO0
    obtain ⟨left, ks, ho, hc⟩ := hrel
    have HO := Lib.hid ho
    have HC := Lib.hid hc
    clear ho hc
    have HFM := Lib.hid (fun kl (h : left kl = true) => (show ∃ i c v, I64 i ∧ I64 c ∧ kl = kL i c ∧ Mf gs rs o i c ≠ [] ∧ F kl = some v from by
      obtain ⟨v, hv⟩ := Option.isSome_iff_exists.1 (HC.out.lf kl h)
      obtain ⟨i, c, h1, h2, h3, h4, _⟩ := HO.out.fam.own kl v hv
      exact ⟨i, c, v, h1, h2, h3, h4, hv⟩))
    go_wp2_with (at_next; refine wpList_nextL (k := 102) rfl _ (by rfl) lawK (fun p : Int × Int => .agg #[.int .i64 p.1, .int .i64 p.2]) (fun v : Value => v) (fun key kl hl hk => ?inv) (by rfl) HO.out.rg (fun kl hl => ?lft) ?stop ?more)
    case inv =>
      obtain ⟨i, c, v, h1, h2, rfl, _, _⟩ := HFM.out kl hl
      exact ⟨(i, c), lawKk.inj hk (keyK h1 h2)⟩
    case lft =>
      obtain ⟨i, c, v, _, _, _, _, hv⟩ := HFM.out kl hl
      exact ⟨v, hv⟩
    case stop =>
      intro _ hl0
      have HPM := Lib.hid (uses_perm (gs := gs) (rs := rs) (o := o) HC.out.nd (fun p hp => (HC.out.ne p hp).1) (fun p hp => by
        obtain ⟨h1, h2, v, hv⟩ := HO.out.fam.all p.1 p.2 hp
        obtain ⟨q, hq, e⟩ := HC.out.all _ v hv (hl0 _)
        have hin := Mf_in (HC.out.ne q hq).1
        have h3 := kL_inj h1 h2 (I64_of hin.1 hin.2.1 (by have := HLR.out; omega)) (I64_of (n := 64) hin.2.2.1 (by omega) (by omega)) e
        have : p = q := Prod.ext h3.1 h3.2
        rw [this]; exact hq))
      have HLE := Lib.hid (came_len HC.out HLR.out HAL.out)
      have HSO := Lib.hid (sort_us wr u15 (ks.flatMap (ukF gs rs o)) B0 HO.out.out (by have := HLE.out; omega))
      have HUS := Lib.hid (uses_sorted (gs := gs) HRO.out HT.out HAP.out)
      clear hl0
      try go_frame
      go_wp2_with fail
      refine HSO.out.mono ?_
      rintro r w4 ⟨rfl, ys, hperm, hsort, oy, gy⟩
      have he := sorted_eq HUS.out (hperm.trans HPM.out) hsort
      subst he
      have HF := Lib.hid (FIN.out _ _ oy (HO.out.low.grown gy (by have := HO.out.low.size; have := HB.out; omega) (fun k hk => (HO.out.out.block k hk).1)))
      clear hperm hsort oy gy HSO
      go_wp2
      try go_ret2
      exact HF.out
    case more =>
      intro pi pc v kl w3 cnt' hkey hlk hF hrg hlt hgr hsz hen
      obtain ⟨i', c', v', hi1, hc1, rfl, hne, hv'⟩ := HFM.out kl hlk
      have hp := lawKk.inj hkey (keyK hi1 hc1)
      simp only [Value.agg.injEq, Array.mk.injEq, List.cons.injEq, Value.int.injEq, true_and, and_true] at hp
      obtain ⟨rfl, rfl⟩ := hp
      rw [hv'] at hF
      cases hF
      have hin := Mf_in hne
      obtain ⟨i, rfl⟩ := Int.eq_ofNat_of_zero_le hin.1
      obtain ⟨c, rfl⟩ := Int.eq_ofNat_of_zero_le hin.2.2.1
      have HIR := Lib.hid (show i < rs.length ∧ c < 64 from ⟨by omega, by omega⟩)
      obtain ⟨ps, hps⟩ : ∃ ps, Mf gs rs o (i : Int) (c : Int) = ps := ⟨_, rfl⟩
      have HPS := Lib.hid hps
      have HPU := Lib.hid (show ps = usedAt gs (ruAt rs i) (c : Int) o from by rw [← hps]; unfold Mf; rw [if_pos hin, Int.toNat_natCast])
      have HNP := Lib.hid (show ps ≠ [] from by rw [← hps]; exact hne)
      have HC2 := Lib.hid (HC.out.step (by have := HLR.out; omega) (p := ((i : Int), (c : Int))) hne hlk)
      have HO3 := Lib.hid (HO.out.next HRR.out HB.out hrg hgr)
      have HVV := Lib.hid (show (F (kL (i : Int) (c : Int))).getD (.slice none 0 0) = v from by rw [hv']; rfl)
      have HI6 := Lib.hid (And.intro hi1 hc1)
      have HCN := Lib.hid hlt
      have hov := HO3.out.fam.at hi1 hc1
      rw [HVV.out, hps] at hov
      obtain ⟨m, hm⟩ : ∃ m, ps.length = m := ⟨_, rfl⟩
      have HM := Lib.hid hm
      obtain ⟨g, cap, hvs, _, _, _⟩ := hov.row_form encG_len hm (by rw [← hm]; exact List.length_pos_iff.2 HNP.out)
      subst hvs
      clear hkey hlk hrg hgr hsz hlt hne hv' hin hps hov hm hi1 hc1 HFM
      obtain ⟨ws, hws⟩ : ∃ ws, ws = wr := ⟨_, rfl⟩
      subst hws
      obtain ⟨u, hu⟩ : ∃ u, ruAt rs i = u := ⟨_, rfl⟩
      have HU := Lib.hid hu
      have HUO := Lib.hid (show RuOk gs.length u from by rw [← hu]; exact HRO.out i HIR.out.1)
      have HACC := Lib.hid (show AccOk u.p.toNat 281474976710656 ps from by
        have h1 := HUO.out
        unfold RuOk at h1
        rw [HPU.out, hu]
        exact used_acc (gs := gs) (r := u) (c := (c : Int)) h1.2.1.1 o HT.out HAP.out 281474976710656 (by omega) (fun t ht _ => (HT.out t ht).2.2.1.2))
      have HPK := Lib.hid (show PartsOk ps from acc_parts HACC.out (by have h1 := HUO.out; unfold RuOk at h1; omega) (by omega))
      have HLM := Lib.hid (show 0 ≤ u.l ∧ u.l ≤ 4294967296 from by have h1 := HUO.out; unfold RuOk at h1; omega)
      have HLEN := Lib.hid (show ((ks ++ [((i : Int), (c : Int))]).flatMap (ukF gs rs o)).length ≤ 500000000 from came_len HC2.out HLR.out HAL.out)
      have HUK := Lib.hid (show ukF gs rs o ((i : Int), (c : Int)) = usesOf i c u.l ps from by unfold ukF; dsimp only; rw [HPS.out, Int.toNat_natCast, hu])
      have HML := Lib.hid (show m ≤ 65536 from by
        rw [← HM.out, HPU.out]
        have := used_len (gs := gs) (rs := rs) (i := i) HIR.out.1 (c : Int) o
        have := HAL.out
        omega)
      clear hu
      try go_frame
      go_wp2
      obtain ⟨KB, hKB⟩ : ∃ k, k = w3.heap.size := ⟨_, rfl⟩
      obtain ⟨D, hD⟩ : ∃ k, k = KB + 1 := ⟨_, rfl⟩
      rw [← hKB, ← hD]
      obtain ⟨left', hleft'⟩ : ∃ f : Lit → Bool, f = fun z => left z && !z.sameKey (kL (i : Int) (c : Int)) := ⟨_, rfl⟩
      rw [← hleft'] at HO3 HC2
      obtain ⟨OS, hOS⟩ : ∃ l, l = ks.flatMap (ukF gs rs o) := ⟨_, rfl⟩
      rw [← hOS] at HO3
      obtain ⟨wi, hwi⟩ : ∃ x : World, x = (w3.alloc (.cells #[.int .i64 (i : Nat), .int .i64 (c : Nat)] 102)).alloc (.cells #[.int .i64 (-1), .int .i64 0] 85) := ⟨_, rfl⟩
      have HI := Lib.hid (show OutW B0 B0 rs.length c2 A2 R0 Mb rr N cnt' left' (Mf gs rs o) F u15 OS W0' wi ∧ wi.heap[KB]? = some (.cells #[.int .i64 (i : Nat), .int .i64 (c : Nat)] 102 (0, 0)) ∧ wi.cell? ⟨D, 0, none⟩ = some (.int .i64 (-1)) ∧ wi.cell? ⟨D, 1, none⟩ = some (.int .i64 0) ∧ wi.frozen? ⟨D, 0, none⟩ = false ∧ wi.frozen? ⟨D, 1, none⟩ = false ∧ Typ wi D 85 from by
        subst hD
        subst hKB
        refine ⟨?_, ?_, ?_, ?_, ?_, ?_, ?_⟩
        · rw [hwi]
          have h1 := HO3.out.below HB.out (bel_alloc w3 (.cells #[.int .i64 (i : Nat), .int .i64 (c : Nat)] 102))
          exact h1.below HB.out (bel_alloc _ (.cells #[.int .i64 (-1), .int .i64 0] 85))
        · rw [hwi, Below.heap_alloc _ _ _ (by simp)]
          exact World.alloc_heap_new w3 _
        · rw [hwi]; go_simp
        · rw [hwi]; go_simp
        · rw [hwi]; go_simp
        · rw [hwi]; go_simp
        · rw [hwi]
          rw [show w3.heap.size + 1 = (w3.alloc (.cells #[.int .i64 (i : Nat), .int .i64 (c : Nat)] 102)).heap.size from by simp]
          exact ⟨_, _, World.alloc_heap_new _ _⟩)
      have HKD := Lib.hid (show B0 ≤ KB ∧ KB < D from by have := HO3.out.hS.2; omega)
      rw [← hwi]
      clear hKB hD hwi HO3
      go_loopg [15, 52] m (fun k v ix wr => ∃ j, j + k = m ∧ ix = .int .i64 (j : Nat) ∧ OutW B0 B0 rs.length c2 A2 R0 Mb rr N cnt' left' (Mf gs rs o) F v (OS ++ (usesOf i c u.l ps).take j) W0' wr ∧ wr.heap[KB]? = some (.cells #[.int .i64 (i : Nat), .int .i64 (c : Nat)] 102 (0, 0)) ∧
        wr.cell? ⟨D, 0, none⟩ = some (.int .i64 (lastP ps j)) ∧ wr.cell? ⟨D, 1, none⟩ = some (.int .i64 (debtAt ps u.l j)) ∧ wr.frozen? ⟨D, 0, none⟩ = false ∧ wr.frozen? ⟨D, 1, none⟩ = false ∧ Typ wr D 85)
      case atStart => exact ⟨0, by omega, rfl, by rw [List.take_zero, List.append_nil]; exact HI.out.1, HI.out.2⟩
      case round =>
        clear HI
        obtain ⟨j, hj, rfl, ho, hkb, c0, c1, f0, f1, hty⟩ := hrel
        have HJ := Lib.hid hj
        have HOJ := Lib.hid ho
        have HKB := Lib.hid hkb
        have HTY := Lib.hid hty
        have HDC := Lib.hid (And.intro c0 (And.intro c1 (And.intro f0 f1)))
        clear hj ho hkb c0 c1 f0 f1 hty
        by_cases hlt : j < m
        · have HJM := Lib.hid (show j < ps.length from by rw [HM.out]; exact hlt)
          have hrow := (HOJ.out.fam.at HI6.out.1 HI6.out.2).ev encG_len
          rw [HVV.out, HPS.out] at hrow
          obtain ⟨b, off, c', hsl, hcc, hr⟩ := hrow.row (by have := HM.out; omega)
          cases hsl
          obtain ⟨g0, g1⟩ := grp_at hr (j := j) HJM.out
          simp only [Nat.zero_add] at g0 g1
          clear hrow hr
          have HRW := Lib.hid (HRS.out)
          obtain ⟨bb, off, c3, hsl3, _, hr3⟩ := HRW.out.row (by have := HIR.out; omega)
          simp only [Value.slice.injEq] at hsl3
          obtain ⟨hA2, _, _⟩ := hsl3
          subst hA2
          have hbw := Lib.hid (HOJ.out.low)
          have hru : wr.cell? ⟨bb, off + i * 3 + 2, none⟩ = some (.int .i64 u.l) := by
            have h1 := (ER.ru hr3 HIR.out.1).2.2
            rw [HU.out] at h1
            exact (below_cell (HB.out ▸ HOJ.out.low) h1)
          have HRU := Lib.hid hru
          clear hr3 hru
          go_upto_region 18 with fail
          go_cut [20] from 53 to 55 (fun v wx => v = .pointer (some ⟨wr.heap.size, 0, none⟩) ∧ wx = wr.alloc (.cells #[.int .i64 (partAt ps j).1, .int .i64 (partAt ps j).2] 27))
          case first =>
            go_wp2
            go_meet
            exact ⟨rfl, rfl⟩
          case rest =>
          obtain ⟨rfl, rfl⟩ := hcut
          refine (‹∀ (a : Act) (w : World), Code.wp _ _ _ a w → _› : ∀ (a : Act) (w : World), _ → _) _ _ (acct_step W0' _ B0 B0 rs.length c2 R0 Mb rr N cnt' KB D wr.heap.size bb off i c left' (Mf gs rs o) F u15 (OS ++ (usesOf i c u.l ps).take j) (lastP ps j) (debtAt ps u.l j) (partAt ps j).1 (partAt ps j).2 u.l _ HB (Lib.hid (HOJ.out.below HB.out (bel_alloc wr _))) (Lib.hid HIR.out.1) (Lib.hid ?_) (Lib.hid ?_) (Lib.hid ?_) (Lib.hid ?_) (Lib.hid ?_) ?_)
          · have hb := bel_alloc wr (.cells #[.int .i64 (partAt ps j).1, .int .i64 (partAt ps j).2] 27)
            obtain ⟨c0, c1, f0, f1⟩ := HDC.out
            refine ⟨below_cell hb c0, below_cell hb c1, ?_, ?_, below_cell hb HOJ.out.r0.cell, ?_, ?_, below_cell hb HRU.out, (hb.frozen (cell_lt c0)).trans f0, (hb.frozen (cell_lt c1)).trans f1⟩
            · go_simp
            · go_simp
            · exact below_cell hb (by rw [World.cell?, HKB.out]; rfl)
            · exact below_cell hb (by rw [World.cell?, HKB.out]; rfl)
          · exact ⟨HTY.out.same ((bel_alloc wr _).block D (cell_lt HDC.out.1)), by have := HKD.out; omega⟩
          · have h1 := HLEN.out
            rw [List.flatMap_append, List.length_append, ← hOS] at h1
            rw [List.length_append, List.length_take]
            have : (usesOf (i : Nat) (c : Int) u.l ps).length = ps.length := by unfold usesOf; simp
            have := HML.out
            omega
          · have hlb := last_bound (l := ps) (j := j) (fun q hq => HPK.out q (by omega))
            have hdb := debt_bound (l := ps) HLM.out (j := j) (fun q hq => HPK.out q (by omega))
            have hpo := HPK.out j hlt
            have := HML.out
            unfold PartOk at hpo
            exact ⟨⟨hdb.1, by omega⟩, HLM.out, hpo.2, hlb.1, by omega, hpo.1.2⟩
          · have h1 := HKD.out
            have h2 := cell_lt HDC.out.1
            exact ⟨by omega, by dsimp only at h2; omega⟩
          · intro y56 y57 y58 y59 y60 y61 y62 y63 y64 y65 y66 y67 y68 y69 y70 y71 y72 y73 y74 y75 y76 y77 y78 v' w' hO hd0 hd1 hf0 hf1 htD hK
            have HR := Lib.hid (show OutW B0 B0 rs.length c2 (some ⟨bb, off, none⟩) R0 Mb rr N cnt' left' (Mf gs rs o) F v' (OS ++ (usesOf i c u.l ps).take (j + 1)) W0' w' from by
              rw [usesOf_take hlt, ← List.append_assoc]; exact hO)
            have HR2 := Lib.hid (show w'.heap[KB]? = some (.cells #[.int .i64 (i : Nat), .int .i64 (c : Nat)] 102 (0, 0)) from
              hK KB _ _ _ (((bel_alloc wr _).block KB (Array.getElem?_eq_some_iff.1 HKB.out).1).trans HKB.out) (by have := HKD.out; omega) (by decide))
            have HR3 := Lib.hid (And.intro hd0 (And.intro hd1 (And.intro hf0 (And.intro hf1 htD))))
            clear hO hd0 hd1 hf0 hf1 htD hK g0 g1
            go_wp2
            go_roundg (gk - 1)
            case measure => have := HJ.out; omega
            case rel =>
              obtain ⟨a0, a1, a2, a3, a4⟩ := HR3.out
              exact ⟨j + 1, by have := HJ.out; omega, congrArg (Value.int .i64) ((IntWalk.wrap64_in _ (by have := HML.out; omega)).trans (by omega)), HR.out, HR2.out, by rw [lastP_succ]; exact a0, a1, a2, a3, a4⟩
        · obtain rfl : m = j := by have := HJ.out; omega
          go_wp2
          go_roundg cnt'
          case measure => exact HCN.out
          case rel =>
            refine ⟨left', ks ++ [((i : Int), (c : Int))], ?_, HC2.out⟩
            rw [List.flatMap_append, ← hOS]
            have h1 := HOJ.out
            rw [List.take_of_length_le (by unfold usesOf; simp; have := HM.out; omega)] at h1
            have h2 : [((i : Int), (c : Int))].flatMap (ukF gs rs o) = usesOf i c u.l ps := by simp [HUK.out]
            rw [h2]
            exact h1
end Go.Proofs.YtaplangfppohdaaDoor
namespace Go.Proofs.YtaplangfppohdaaDoor
open Go.RowKit Go.Shelf Go.Maps
attribute [local go_sem] Oper.semAt_some

theorem acc_ran {W0' : World} {B0 c1 c2 G0 R0 A0 U0 Mb : Nat} {A1 A2 : Option Addr} {gs : List (Int × Int)} {rs : List Ru}
    (hB : W0'.heap.size = B0) (hg : EV encG 2 W0' (.slice A1 gs.length c1) gs) (hr : EV encRu 3 W0' (.slice A2 rs.length c2) rs) (lg : gs.length ≤ 100000) (lr : rs.length ≤ 1000) (hro : ∀ i, i < rs.length → RuOk gs.length (ruAt rs i)) (hok : GOK gs) :
    RanC B0 gs.length W0' (AccJ B0 W0' gs.length c1 c2 A1 A2 G0 R0 A0 U0 Mb gs rs) 39 #[.pointer (some ⟨G0, 0, none⟩), .pointer (some ⟨R0, 0, none⟩), .pointer (some ⟨A0, 0, none⟩), .pointer (some ⟨U0, 0, none⟩)] where
  eg := enters_of Tryd.func39 (by kernel_rfl) rfl
  low := by rintro X o w ⟨F, N, _, _, ha, _⟩; exact ha.low
  blk := by rintro X o w ⟨F, N, _, _, ha, hX⟩ k hk; exact ha.blk k ((hX k).1 hk)
  stay := by
    rintro X o w w' T ⟨F, N, n1, n2, ha, hX⟩ hm hT
    exact ⟨F, N, n1, n2, ha.mod hB hm (fun k hk => ⟨(hT k hk).1, fun hx => (hT k hk).2 ((hX k).2 hx)⟩), hX⟩
  call := fun X o w e gr hj he hol ht hap => acc1_ok W0' w B0 c1 c2 G0 R0 A0 U0 Mb A1 A2 gs rs X o e gr hB hg hr lg lr hro hok hj he hol ht hap
theorem rules_ok {n : Nat} {rs : List Ru} (h : ¬ badR n rs < rs.length) : ∀ i, i < rs.length → RuOk n (ruAt rs i) := by
  intro i hi
  unfold badR at h
  have h1 := List.findIdx_eq_length.1 (Nat.le_antisymm List.findIdx_le_length (Nat.le_of_not_lt h)) (rs[i]) (List.getElem_mem hi)
  have h2 : rs[i] = ruAt rs i := by have := ru_get hi; rw [List.getElem?_eq_getElem hi] at this; exact Option.some.inj this
  rw [← h2]
  simpa using h1

set_option maxRecDepth 100000 in
set_option maxHeartbeats 3200000 in
theorem account_ok (w : World) (v1 v2 vh vl : Value) (gs : List (Int × Int)) (rs : List Ru) (hs : List (Int × Int)) (l : List Ev) (h1 : EV encG 2 w v1 gs) (h2 : EV encRu 3 w v2 rs) (hh : EV encG 2 w vh hs) (hl : EV encE 11 w vl l) (hU : UsesAt w)
    (lg : gs.length ≤ 100000) (lr : rs.length ≤ 100) (lh : hs.length ≤ 1000000) (ll : l.length ≤ 1000000)
    (ho : ∀ e ∈ l, EvOk e) (hho : ∀ h ∈ hs, (-9223372036854775808 ≤ h.1 ∧ h.1 ≤ 9223372036854775807) ∧ (-9223372036854775808 ≤ h.2 ∧ h.2 ≤ 9223372036854775807)) :
    Calls Tryd.prog 16 #[v1, v2, vh, vl] w fun r w' => ∃ v, r = .returned (.tuple #[v, .int .i64 (accE gs rs hs l)]) ∧ OV encUs 5 50 w.heap.size w' v (accL gs rs hs l) ∧ Below w.heap.size w w' := by
  obtain ⟨A1, c1, rfl⟩ := h1.shape
  obtain ⟨A2, c2, rfl⟩ := h2.shape
  have HG := Lib.hid h1
  have HR := Lib.hid h2
  have HH := Lib.hid hh
  have HL := Lib.hid hl
  have HUA := Lib.hid hU
  have HLG := Lib.hid lg
  have HLR := Lib.hid lr
  have HLH := Lib.hid lh
  have HLL := Lib.hid ll
  have HEO := Lib.hid ho
  have HHO := Lib.hid hho
  have HCK := Lib.hid (fun (wx : World) (hb : Below w.heap.size w wx) => qcheck_ok wx _ _ gs rs (h1.below hb) (h2.below hb) lg (by omega))
  clear h1 h2 hh hl hU lg lr lh ll ho hho
  obtain ⟨B0, hB0⟩ : ∃ b, w.heap.size = b := ⟨_, rfl⟩
  have HB := Lib.hid hB0
  rw [hB0] at HCK ⊢
  obtain ⟨Post, hPost⟩ : ∃ P : Ending → World → Prop, P = (fun (r : Ending) (w' : World) => ∃ v, r = .returned (.tuple #[v, .int .i64 (accE gs rs hs l)]) ∧ OV encUs 5 50 B0 w' v (accL gs rs hs l) ∧ Below B0 w w') := ⟨_, rfl⟩
  have HE1 := Lib.hid (fun (E : Int) (w' : World) (h : accE gs rs hs l = E) (hE : E ≠ 0) (hb : Below B0 w w') => (show Post (.returned (.tuple #[.slice none 0 0, .int .i64 E])) w' from by
    rw [hPost]
    exact ⟨_, by rw [h], by unfold accL; rw [if_neg (by rw [h]; exact hE)]; exact OV.nil _ _, hb⟩))
  have HPO := Lib.hid (fun (v : Value) (w' : World) (h : accE gs rs hs l = 0) (ho : OV encUs 5 50 B0 w' v (accL gs rs hs l)) (hb : Below B0 w w') => (show Post (.returned (.tuple #[v, .int .i64 0])) w' from by
    rw [hPost]; exact ⟨v, by rw [h], ho, hb⟩))
  rw [← hPost]
  clear hPost
  obtain ⟨gl, hgl⟩ : ∃ n, n = gs.length := ⟨_, rfl⟩
  have HGL := Lib.hid hgl
  obtain ⟨rl, hrl⟩ : ∃ n, n = rs.length := ⟨_, rfl⟩
  have HRL := Lib.hid hrl
  rw [← hgl, ← hrl] at HCK ⊢
  clear hgl hrl hB0
  have hmm := @run_makeMap Tryd.prog
  go_enter Tryd.func16, Tryd.ntmps16
  go_wp2_with fail
  obtain ⟨wb, hwb⟩ : ∃ x : World, x = (w.alloc (.cells #[.slice A1 gl c1] 37)).alloc (.cells #[.slice A2 rl c2] 42) := ⟨_, rfl⟩
  have HWB := Lib.hid (show Below B0 w wb ∧ B0 + 2 ≤ wb.heap.size ∧ Boxed wb B0 37 (.slice A1 gl c1) ∧ Boxed wb (B0 + 1) 42 (.slice A2 rl c2) from by
    have h0 := HB.out
    subst h0
    rw [hwb]
    refine ⟨(bel_alloc w _).trans ((bel_alloc _ _).mono (by simp)), by simp, ?_, ?_⟩
    · exact (Below.heap_alloc _ _ _ (by simp)).trans (World.alloc_heap_new w _)
    · have := World.alloc_heap_new (w.alloc (.cells #[.slice A1 gl c1] 37)) (.cells #[.slice A2 rl c2] 42)
      rw [show (w.alloc (.cells #[.slice A1 gl c1] 37)).heap.size = w.heap.size + 1 from by simp] at this
      exact this)
  have hB0 := HB.out
  rw [← hwb, hB0]
  clear hwb hB0
  refine (HCK.out wb HWB.out.1).mono ?_
  rintro e w1 ⟨rfl, hb1⟩
  have HB1 := Lib.hid hb1
  clear hb1 HCK
  by_cases hce : (chkR gs rs).2 = 0
  · have HRB := Lib.hid (show rightB gs = true ∧ ¬ badR gs.length rs < rs.length from by
      unfold chkR at hce
      cases hr : rightB gs with
      | false => rw [hr] at hce; simp at hce
      | true =>
        refine ⟨rfl, fun h => ?_⟩
        rw [if_neg (by simp [hr]), if_pos h] at hce
        simp at hce)
    have HCE := Lib.hid hce
    have HRO := Lib.hid (rules_ok HRB.out.2)
    rw [hce]
    clear hce
    generalize (chkR gs rs).1 = z1
    go_upto_region 6 with fail
    obtain ⟨A0, hA0⟩ : ∃ k, k = w1.heap.size := ⟨_, rfl⟩
    obtain ⟨w2, hw2⟩ : ∃ x : World, x = ((w1.alloc (.cells #[.int .i64 0] 3)).alloc (.map #[] 0)).alloc (.cells #[.map (some (w1.heap.size + 1))] 98) := ⟨_, rfl⟩
    have h01 : Below B0 w w1 := HWB.out.1.trans (HB1.out.mono (by have := HWB.out.2.1; omega))
    have HAW := Lib.hid (show AccW B0 w gl rl c1 c2 A1 A2 B0 (B0 + 1) A0 (A0 + 2) (A0 + 1) 0 0 (Mf gs rs []) (fun _ => none) w2 from by
      subst hA0
      have hs := HWB.out.2.1
      have hs2 := HB1.out.size
      have hb2 : Below w1.heap.size w1 w2 := by
        rw [hw2]
        exact ((bel_alloc w1 _).trans ((bel_alloc _ _).mono (by simp))).trans ((bel_alloc _ _).mono (by simp; omega))
      refine ⟨h01.trans (hb2.mono (by omega)), ⟨Nat.le_refl _, by omega, by omega, by omega, by omega⟩, ?_, ?_, ?_, ?_, ?_, fun _ => ?_⟩
      · exact (hb2.block B0 (by omega)).trans ((HB1.out.block B0 (by omega)).trans HWB.out.2.2.1)
      · exact (hb2.block (B0 + 1) (by omega)).trans ((HB1.out.block (B0 + 1) (by omega)).trans HWB.out.2.2.2)
      · rw [hw2]
        exact (Below.heap_alloc _ _ _ (by simp; omega)).trans ((Below.heap_alloc _ _ _ (by simp)).trans (World.alloc_heap_new w1 _))
      · rw [hw2]
        have := World.alloc_heap_new ((w1.alloc (.cells #[.int .i64 0] 3)).alloc (.map #[] 0)) (.cells #[.map (some (w1.heap.size + 1))] 98)
        rw [show ((w1.alloc (.cells #[.int .i64 0] 3)).alloc (.map #[] 0)).heap.size = w1.heap.size + 2 from by simp] at this
        exact this
      · rw [hw2]
        have h5 := MpV.made Tryd.prog 102 (w1.alloc (.cells #[.int .i64 0] 3))
        rw [show (w1.alloc (.cells #[.int .i64 0] 3)).heap.size = w1.heap.size + 1 from by simp] at h5
        exact h5.same (Below.heap_alloc _ _ _ (by simp))
      · have : Mf gs rs [] = fun _ _ => [] := by funext i c; unfold Mf; split <;> rfl
        rw [this]
        exact Fam.empty _ _)
    rw [show w1.heap.size + 1 + 1 = w1.heap.size + 2 from rfl, ← hw2, ← hA0]
    clear hw2 hmm h01 hA0
    have HRW := Lib.hid (acc_ran (R0 := B0 + 1) (G0 := B0) (A0 := A0) (U0 := A0 + 2) (Mb := A0 + 1) HB.out HG.out HR.out HLG.out (by have := HLR.out; omega) HRO.out (right_iff.1 HRB.out.1))
    have HJ0 := Lib.hid (show AccJ B0 w gl c1 c2 A1 A2 B0 (B0 + 1) A0 (A0 + 2) (A0 + 1) gs rs (XS B0 (B0 + 1) A0 (A0 + 2) (A0 + 1) 0 (fun _ => none)) [] w2 from ⟨fun _ => none, 0, by omega, fun _ => by omega, by rw [← HRL.out]; exact HAW.out, fun k => Iff.rfl⟩)
    have HLK := Lib.hid (look_ok' w w2 B0 gl c1 39 A1 _ vh vl hs l _ _ HB.out (by rw [HGL.out]; exact HRW.out) HH.out HL.out HUA.out (by rw [HGL.out] at HJ0; exact HJ0.out) HLH.out HLL.out (by rw [HGL.out]; exact HLG.out) HEO.out HHO.out)
    have c4 := HAW.out.g0.cell
    clear HJ0
    go_wp2_with fail
    refine HLK.out.mono ?_
    rintro r w3 ⟨rfl, hbl, hjo⟩
    have HBL := Lib.hid hbl
    clear hbl c4 HAW HLK HB1 HWB
    cases hlk : lookL gl hs l with
    | none =>
      have HX := Lib.hid (HE1.out 281 w3 (by unfold accE; rw [if_neg (by rw [HCE.out]; simp), ← HGL.out, hlk]) (by omega) HBL.out)
      clear hjo
      simp only [Option.isSome_none]
      go_wp2
      try go_ret2
      exact HX.out
    | some o =>
      obtain ⟨X, F, N, n1, n2, ha, hX⟩ := hjo o hlk
      have HA := Lib.hid ha
      have HOK := Lib.hid (look_ok HEO.out hlk)
      clear hjo n1 n2 ha hX
      have HAE := Lib.hid (show accE gs rs hs l = (if 65536 < allN gs rs o then 5 else 0) from by unfold accE; rw [if_neg (by rw [HCE.out]; simp), ← HGL.out, hlk])
      have HAL := Lib.hid (show accE gs rs hs l = 0 → accL gs rs hs l = usesL gs rs o from fun h => by unfold accL; rw [if_pos h, ← HGL.out, hlk])
      simp only [Option.isSome_some]
      have c12 := HA.out.a0.cell
      have HHK := Lib.hid hlk
      clear hlk
      by_cases hbig : 65536 < allN gs rs o
      · have HX := Lib.hid (HE1.out 5 w3 (by rw [HAE.out, if_pos hbig]) (by omega) HBL.out)
        have hb2 : (65536 : Int) < (allN gs rs o : Nat) := by omega
        clear HA HAE HAL
        generalize allN gs rs o = a at *
        go_wp2
        try go_ret2
        exact HX.out
      · have hb2 : ¬ (65536 : Int) < (allN gs rs o : Nat) := by omega
        have HZ := Lib.hid (show accE gs rs hs l = 0 from by rw [HAE.out, if_neg hbig])
        have HN := Lib.hid (show allN gs rs o ≤ 65536 from by omega)
        obtain ⟨a, haa⟩ : ∃ a, a = allN gs rs o := ⟨_, rfl⟩
        have HAA := Lib.hid haa
        rw [← haa] at c12 hbig hb2
        clear haa
        go_upto_block 0 with fail
        go_cut [] (fun wx => wx = w3)
        case first =>
          go_wp2_with fail
          go_meet
          rfl
        case rest =>
          subst hcut
          refine (‹∀ (a : Act) (w : World), Code.wp _ _ _ a w → _› : ∀ (a : Act) (w : World), _ → _) _ _ (acct_tail w _ B0 gl c1 c2 B0 (B0 + 1) A0 (A0 + 2) (A0 + 1) N A1 A2 gs rs o F Post HB HR HLR HRO ?_ (Lib.hid HOK.out.2) HN (by rw [HGL.out]; exact HA) ?_)
          · rw [← HGL.out]; exact Lib.hid HOK.out.1
          · exact Lib.hid (fun v w' ho hb => HPO.out v w' HZ.out (by rw [HAL.out HZ.out]; exact ho) hb)
  · have HX := Lib.hid (HE1.out _ w1 (show accE gs rs hs l = (chkR gs rs).2 from if_pos hce) hce (HWB.out.1.trans (HB1.out.mono (by have := HWB.out.2.1; omega))))
    obtain ⟨z2, hz2⟩ : ∃ z, z = (chkR gs rs).2 := ⟨_, rfl⟩
    rw [← hz2] at hce HX ⊢
    clear hz2
    generalize (chkR gs rs).1 = z1
    go_wp2
    try go_ret2
    exact HX.out
end Go.Proofs.YtaplangfppohdaaDoor
