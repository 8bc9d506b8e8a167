/- varint.WriteAll | event.Values: the numbers of the fields of an event's kind | codec: of, right, behind | Records, rows and blocks, in plain words: their bytes, their checksum, what is right | Merging, in plain words: what the events of some rows are joined to | slices.SortFunc at events, by merge's comparison; slices.Compact at numbers | slices.Compact at sorted numbers; what join returns when all events have been seen. -/
import Derived.Test.YtalophngappkhaaGreatDoorV4
import Derived.Test.YtalophngappkhaaGreatDoorV2
import Derived.Test.YtalophngappkhaaGreatDoorV3
import Derived.Shelf.SlSortCmp.NoneTotal
set_option linter.unusedVariables false
set_option linter.unusedSimpArgs false
set_option linter.unusedSectionVars false
namespace Go.Proofs.YtalophngappkhaaGreatDoor
open Go.RowKit Go.Shelf
attribute [local go_sem] Oper.semAt_some
def encN (z : Nat) : List Value := [.int .u64 (z : Nat)]
theorem encN_len (z : Nat) : (encN z).length = 1 := rfl
theorem encN_one (z : Nat) : ∀ u ∈ encN z, u.oneCell' = true := by intro u hu; simp [encN] at hu; subst hu; rfl
theorem elemN : ElemT Tryz.prog 173 26 1 8 := ⟨Tryz.underlying173, by
 have h : (Tryz.prog.info? 26).map (fun i => (i.zero, i.size, i.bytes)) = some (some (.int .u64 0), 1, 8) := by kernel_rfl
 obtain ⟨i, h1, h2, h3, h4⟩ := info_parts h
 exact ⟨i, _, h1, h2, h3, h4, rfl⟩, by omega, by omega⟩
theorem ER.n1 {w : World} {b off i : Nat} {xs : List Nat} (h : ER encN 1 w b off xs) {x : Nat} (hx : xs[i]? = some x) : w.cell? ⟨b, off + i, none⟩ = some (.int .u64 (x : Nat)) := by
 have := h i x hx 0 (.int .u64 (x : Nat)) rfl
 simpa using this
theorem ER.b1 {w : World} {b off i : Nat} {xs : List Nat} (h : ER encB 1 w b off xs) {x : Nat} (hx : xs[i]? = some x) : w.cell? ⟨b, off + i, none⟩ = some (.int .u8 (x : Nat)) := by
 have := h i x hx 0 (.int .u8 (x : Nat)) rfl
 simpa using this
/-- The bytes of some numbers. -/
def vall (l : List Nat) : List Nat := l.flatMap vbytes
theorem vall_take {l : List Nat} {j x : Nat} (h : l[j]? = some x) : vall (l.take (j + 1)) = vall (l.take j) ++ vbytes x := by
 rw [List.take_add_one, h]
 simp [vall]
theorem vall_len (l : List Nat) (h : ∀ x ∈ l, x < 18446744073709551616) : (vall l).length ≤ 10 * l.length := by
 induction l with
 | nil => simp [vall]
 | cons a l ih =>
  have h1 := (vbytes_len a (h a (by simp))).2
  have h2 := ih fun x hx => h x (by simp [hx])
  unfold vall at h2 ⊢
  rw [List.flatMap_cons, List.length_append, List.length_cons]
  omega

set_option maxHeartbeats 400000 in
theorem writeAll_ok (w : World) (v : Value) (l : List Nat) (hv : EV encN 1 w v l) (hx : ∀ x ∈ l, x < 18446744073709551616) (hlen : l.length ≤ 10000) :
  Calls Tryz.prog 107 #[v] w fun e w' => ∃ v', e = .returned v' ∧ OV encB 1 5 w.heap.size w' v' (vall l) ∧ Below w.heap.size w w' := by
 obtain ⟨A, c, rfl⟩ := hv.shape
 have HV := Lib.hid hv
 have HX := Lib.hid hx
 clear hv hx
 obtain ⟨n, hn⟩ : ∃ n, n = l.length := ⟨_, rfl⟩
 have HN := Lib.hid hn
 rw [← hn] at hlen ⊢
 clear hn
 go_enter Tryz.func107, Tryz.ntmps107
 go_wp2
 go_loopg [3, 8] n (fun k o i wr => ∃ j : Nat, j + k = n ∧ i = .int .i64 j ∧ OV encB 1 5 w.heap.size wr o (vall (l.take j)) ∧ Below w.heap.size w wr)
 case atStart => exact ⟨0, by omega, rfl, OV.nil _ _, Below.refl _ _⟩
 case round =>
  obtain ⟨j, hj, rfl, ho, hb⟩ := hrel
  have HJ := Lib.hid hj
  have HO := Lib.hid ho
  have HB := Lib.hid hb
  clear hj hb
  by_cases hlt : j < n
  ·have hev := HV.out.below HB.out
   obtain ⟨b, off, c', hsl, hcc, hr⟩ := hev.row (by have := HN.out; omega)
   cases hsl
   obtain ⟨x, hx⟩ : ∃ x, l[j]? = some x := ⟨_, List.getElem?_eq_getElem (by rw [← HN.out]; exact hlt)⟩
   have g0 := hr.n1 hx
   have HT := Lib.hid (vall_take hx)
   have HC := Lib.hid (put_ok wr _ _ x w.heap.size HO.out (HX.out x (List.mem_of_getElem? hx)) (by
    have h1 := vall_len (l.take j) fun x hx => HX.out x (List.mem_of_mem_take hx)
    rw [List.length_take] at h1
    omega) HB.out.size)
   clear hev hr hx ho
   go_wp2_with fail
   refine HC.out.mono ?_
   rintro e w1 ⟨v', rfl, o1, b1⟩
   rw [← HT.out] at o1
   have HO1 := Lib.hid o1
   have HB1 := Lib.hid (HB.out.trans b1)
   clear o1 b1 HC
   go_wp2
   go_roundg (n - (j + 1))
   case measure => have := HJ.out; omega
   case rel => exact ⟨j + 1, by have := HJ.out; omega, rfl, HO1.out, HB1.out⟩
  ·obtain rfl : n = j := by have := HJ.out; omega
   have ho2 := HO.out
   rw [List.take_of_length_le (by rw [HN.out]; exact Nat.le_refl _)] at ho2
   clear ho HO
   obtain ⟨A', c', rfl⟩ := (ho2.ev encB_len).shape
   have HO := Lib.hid ho2
   clear ho2
   go_wp2
   go_ret
   exact ⟨_, rfl, HO.out, HB.out⟩
end Go.Proofs.YtalophngappkhaaGreatDoor
namespace Go.Proofs.YtalophngappkhaaGreatDoor
open Go.RowKit Go.Shelf
attribute [local go_sem] Oper.semAt_some
/-- Block b is of type t. -/
def Typ (w : World) (b : Nat) (t : TypeId) : Prop := ∃ cs fz, w.heap[b]? = some (.cells cs t fz)
theorem Typ.same {w w' : World} {b : Nat} {t : TypeId} (h : Typ w b t) (he : w'.heap[b]? = w.heap[b]?) : Typ w' b t := by
 obtain ⟨cs, fz, h⟩ := h
 exact ⟨cs, fz, he.trans h⟩
theorem OV.not_typ {α : Type} {enc : α → List Value} {k : Nat} {e t : TypeId} {base b : Nat} {w : World} {v : Value} {xs : List α} (h : OV enc k e base w v xs) (hb : Typ w b t) (hte : t ≠ e) : v.ownBlock ≠ some b := by
 obtain ⟨cs, fz, hb⟩ := hb
 rcases h.2 with ⟨rfl, h0⟩ | ⟨g, cap, cur, hv, _, hg, _⟩
 ·simp [Value.ownBlock]
 ·subst hv
  intro e1
  have : g = b := by simpa [Value.ownBlock] using e1
  subst this
  rw [hb] at hg
  simp at hg
  exact hte hg.2.1

theorem new_one64 {w : World} {x : Int} {z m : Nat} (hm : w.heap.size = m) (hz : x = (z : Nat)) : EV encN 1 (w.alloc (.cells #[.int .u64 x] 26)) (.slice (some ⟨m, 0, none⟩) 1 1) [z] := by subst hm; subst hz; exact EV.new1 rfl (Nat.le_refl _)
/-- The fields of the kind of an event. -/
def valsE (e : Ev) : List Nat := (usesK e.kind.toNat).map fun i => (valV e i).toNat
theorem valV_le (e : Ev) (i : Nat) : 0 ≤ valV e i ∧ valV e i < 18446744073709551616 := by
 unfold valV
 exact ⟨Int.emod_nonneg _ (by omega), Int.emod_lt_of_pos _ (by omega)⟩
theorem valsE_lt (e : Ev) : ∀ x ∈ valsE e, x < 18446744073709551616 := by
 intro x hx
 obtain ⟨i, _, rfl⟩ := List.mem_map.1 hx
 have := valV_le e i
 omega
theorem valsE_len (e : Ev) : (valsE e).length ≤ 4 := by
 unfold valsE
 rw [List.length_map]
 unfold usesK
 split <;> simp
set_option maxHeartbeats 800000 in
theorem evvals_ok (w : World) (e : Ev) (ho : EvOk e) (hU : UsesAt w) :
  Calls Tryz.prog 163 #[evA e] w fun r w' => ∃ v, r = .returned (.tuple #[v, .int .i64 (chkEv e)]) ∧ OV encN 1 26 w.heap.size w' v (if chkEv e = 0 then valsE e else []) ∧ Below w.heap.size w w' := by
 have HO := Lib.hid ho
 have HU := Lib.hid hU
 have hko := ho.kind
 have HA := Lib.hid (fun o => (Below.refl w.heap.size w).alloc (Nat.le_refl _) o)
 have HP := Lib.hid (evp_new w e)
 have HT := Lib.hid (show Typ (w.alloc (.cells #[.int .i64 e.seq, .int .i64 e.time, .int .u8 e.cpu, .int .u8 e.kind, .int .i64 e.task, .int .i64 e.grp, .int .i64 e.to, .int .i64 e.wt, .int .i64 e.ticks, .int .u64 e.mask, .int .i64 e.got] 28)) w.heap.size 28 from ⟨_, _, World.alloc_heap_new w _⟩)
 have HC := Lib.hid (fun (W : World) (h : UsesAt W) => echeck_ok W e HO.out h)
 have HK := Lib.hid (fun o => hU.below (HA.out o))
 clear ho hU
 obtain ⟨X, hX⟩ : ∃ X, X = (if chkEv e = 0 then valsE e else []) := ⟨_, rfl⟩
 rw [← hX]
 have HXX := Lib.hid hX
 obtain ⟨E, hE⟩ : ∃ E, chkEv e = E := ⟨_, rfl⟩
 rw [hE] at HC ⊢
 have HE := Lib.hid hE
 clear hX hE
 unfold evA at HC ⊢
 go_enter Tryz.func163, Tryz.ntmps163
 go_wp2_with fail
 refine (HC.out _ (HK.out _)).mono ?_
 rintro r w1 ⟨rfl, hb1⟩
 have HB1 := Lib.hid ((HA.out _).trans (hb1.mono (by simp)))
 have HP1 := Lib.hid (HP.out.below hb1 (by simp))
 have HT1 := Lib.hid (HT.out.same (hb1.block w.heap.size (by simp)))
 have hs1 : w.heap.size < w1.heap.size := by have := hb1.size; simp at this; omega
 clear hb1 HT HP HC HK
 by_cases h0 : E = 0
 ·subst h0
  have HXV := Lib.hid (show X = valsE e by rw [HXX.out, if_pos HE.out])
  have hk : 1 ≤ e.kind ∧ e.kind ≤ 10 := by
   have h0 := HE.out
   unfold chkEv at h0
   by_cases hk : e.kind = 0 ∨ 10 < e.kind
   ·rw [if_pos hk] at h0; omega
   ·omega
  have hn1 : 1 ≤ e.kind.toNat := by omega
  have hn2 : e.kind.toNat ≤ 10 := by omega
  obtain ⟨v, hc, hv⟩ := HU.out e.kind.toNat (by omega)
  have hpos := usesZ_pos hn1 hn2
  obtain ⟨b, off, c, rfl, hlc, hr⟩ := hv.row hpos.1
  have hc2 := below_cell HB1.out hc
  have hc3 := HP1.out.c3
  have HV := Lib.hid (fun (w1 : World) (i : Nat) (h : EvP w1 w.heap.size e) (hi : i < 7) => value_ok w1 w.heap.size i e h HO.out hi)
  have HR := Lib.hid hr
  obtain ⟨L, hL⟩ : ∃ L, L = (usesZ e.kind.toNat).length := ⟨_, rfl⟩
  have HZ := Lib.hid hL
  rw [← hL] at hc2 hpos hlc
  clear hL hr hv hc HU HXX
  go_wp2
  clear hc2 hc3
  go_loopg [5, 20] L (fun k o i wr => ∃ j : Nat, j + k = L ∧ i = .int .i64 j ∧ OV encN 1 26 w.heap.size wr o ((valsE e).take j) ∧ Below w.heap.size w wr ∧ EvP wr w.heap.size e ∧ Typ wr w.heap.size 28)
  case atStart => exact ⟨0, by omega, rfl, OV.nil _ _, HB1.out, HP1.out, HT1.out⟩
  case round =>
   obtain ⟨j, hj, rfl, ho, hb, hp, ht⟩ := hrel
   have HJ := Lib.hid hj
   have HOV := Lib.hid ho
   have HBW := Lib.hid hb
   have HPW := Lib.hid hp
   have HTW := Lib.hid ht
   have hsw : w.heap.size < wr.heap.size := hp.lt
   clear hj ho hb hp ht HB1 HP1 HT1
   by_cases hlt : j < L
   ·obtain ⟨z, hz, hcz⟩ := (HR.out.below HBW.out).get1 (i := j) (by rw [← HZ.out]; exact hlt)
    obtain ⟨x, hx, rfl⟩ : ∃ x, (usesK e.kind.toNat)[j]? = some x ∧ (x : Int) = z := by
     unfold usesZ at hz
     rw [List.getElem?_map] at hz
     obtain ⟨x, hx, rfl⟩ := Option.map_eq_some_iff.1 hz
     exact ⟨x, hx, rfl⟩
    have HX := Lib.hid hx
    have HTK := Lib.hid (show (valsE e).take (j + 1) = (valsE e).take j ++ [(valV e x).toNat] by
     rw [List.take_add_one]; unfold valsE; rw [List.getElem?_map, HX.out]; rfl)
    clear hz hx
    go_wp2_with fail
    refine (HV.out wr x HPW.out (usesK_lt HX.out)).mono ?_
    rintro r w2 ⟨rfl, hb2⟩
    have HB2 := Lib.hid (HBW.out.trans (hb2.mono (Nat.le_of_lt hsw)))
    have HP2 := Lib.hid (HPW.out.below hb2 hsw)
    have HT2 := Lib.hid (HTW.out.same (hb2.block w.heap.size hsw))
    have HO2 := Lib.hid (HOV.out.below hb2)
    have hs2 : w.heap.size < w2.heap.size := Nat.lt_of_lt_of_le hsw hb2.size
    have hvl := valV_le e x
    clear hb2 hcz HBW HPW HTW HOV
    generalize hZ : valV e x = Z at *
    have HZZ := Lib.hid (show Z = (Z.toNat : Nat) by omega)
    clear hvl
    go_wp2_with (at_builtin; refine wpList_app elemN encN_len encN_one rfl _ _ rfl _ _ rfl rfl (HO2.out.alloc _) (new_one64 (by simp) HZZ.out) ?q1 ?q2 ?_)
    case q1 => have := valsE_len e; rw [List.length_take]; simp; omega
    case q2 => simp; omega
    intro v' w4 ho4 hg4
    obtain ⟨W3, hW3⟩ : ∃ W3, w2.alloc (.cells #[.int .u64 Z] 26) = W3 := ⟨_, rfl⟩
    have r4 : w.heap.size < W3.heap.size := by rw [← hW3]; simp; omega
    have r5 : Below w.heap.size w W3 := by rw [← hW3]; exact HB2.out.alloc HB2.out.size _
    have r6 : ∀ k, u5.ownBlock = some k → w.heap.size ≤ k := fun k hk => (HO2.out.block k hk).1
    have hne := HO2.out.not_typ HT2.out (by decide)
    have hty3 : Typ W3 w.heap.size 28 := by
     rw [← hW3]
     exact HT2.out.same (Below.heap_alloc _ _ _ hs2)
    have hp3 : EvP W3 w.heap.size e := by rw [← hW3]; exact HP2.out.below (bel_alloc _ _) hs2
    rw [hW3] at hg4
    have hk := hg4.block w.heap.size r4 (fun e => hne e.symm)
    have HT4 := Lib.hid (hty3.same hk)
    have HP4 := Lib.hid (show EvP w4 w.heap.size e from fun q u hu => (World.cell?_of_block (a := ⟨w.heap.size, q, none⟩) hk).trans (hp3 q u hu))
    have HB4 := Lib.hid (r5.grown hg4 r5.size r6)
    have HO4 := Lib.hid ho4
    clear ho4 hg4 hW3 r4 r5 r6 hne hty3 hp3 hk HB2 HP2 HT2 HO2 HZZ
    go_wp2
    go_roundg (gk - 1)
    case measure => have := HJ.out; omega
    case rel => exact ⟨j + 1, by have := HJ.out; omega, by go_num, by rw [HTK.out]; exact HO4.out, HB4.out, HP4.out, HT4.out⟩
   ·obtain rfl : L = j := by have := HJ.out; omega
    go_wp2
    go_ret2
    have := HOV.out
    rw [List.take_of_length_le (by rw [HZ.out]; simp [valsE, usesZ])] at this
    exact ⟨_, rfl, by rw [HXV.out]; exact this, HBW.out⟩
 ·have h0' : (E != 0) = true := by simpa using h0
  go_wp2
  go_ret2
  exact ⟨_, rfl, by rw [HXX.out, if_neg (by rw [HE.out]; exact h0)]; exact OV.nil _ _, HB1.out⟩
end Go.Proofs.YtalophngappkhaaGreatDoor
namespace Go.Proofs.YtalophngappkhaaGreatDoor
open Go.RowKit Go.Shelf
attribute [local go_sem] Oper.semAt_some
def baseA (s t : Int) : Value := .agg #[.int .i64 s, .int .i64 t]
/-- A base that is right. -/
def rgtB (s t : Int) : Prop := 1 ≤ s ∧ s ≤ 281474976710656 ∧ 0 ≤ t ∧ t ≤ 281474976710656
instance (s t : Int) : Decidable (rgtB s t) := by unfold rgtB; infer_instance

theorem cof_ok (w : World) (e : Ev) : Calls Tryz.prog 135 #[evA e] w fun r w' => r = .returned (baseA e.seq e.time) ∧ Below w.heap.size w w' := by
 have HP := Lib.hid (evp_new w e)
 unfold evA
 go_enter Tryz.func135, Tryz.ntmps135
 go_wp2
 refine bodyPost_ret (results_cell_row rfl _ _ (w.heap.size + 1) _ _ _ _ rfl (by rw [← World.size_alloc]; exact heap_alloc_new _ _) Tryz.underlying175 rfl (by kernel_rfl)) rfl ⟨rfl, bel_alloc2 _ _ _⟩
theorem bright_ok (w : World) (s t : Int) (h : rgtB s t) : Calls Tryz.prog 132 #[baseA s t] w fun r w' => r = .returned (.bool true) ∧ Below w.heap.size w w' := by
 obtain ⟨h1, h2, h3, h4⟩ := h
 unfold baseA
 go_enter Tryz.func132, Tryz.ntmps132
 go_wp2
 go_ret
 exact ⟨ret_bool rfl, bel_alloc _ _⟩
theorem behind_ok (w : World) (s t : Int) (e : Ev) (h1 : s ≤ e.seq) (h2 : t ≤ e.time) : Calls Tryz.prog 133 #[baseA s t, evA e] w fun r w' => r = .returned (.bool true) ∧ Below w.heap.size w w' := by
 unfold baseA evA
 go_enter Tryz.func133, Tryz.ntmps133
 go_wp2
 go_ret
 exact ⟨ret_bool rfl, bel_alloc2 _ _ _⟩
end Go.Proofs.YtalophngappkhaaGreatDoor
namespace Go.Proofs.YtalophngappkhaaGreatDoor
open Go.RowKit Go.Shelf

/-- The record of an event against a base. -/
def recE (s t : Int) (e : Ev) : List Nat := e.kind.toNat :: vall ((e.seq - s).toNat :: (e.time - t).toNat :: valsE e)
def recsE : Int → Int → List Ev → List Nat
 | _, _, [] => []
 | s, t, e :: l => recE s t e ++ recsE e.seq e.time l
/-- What stands behind another event in a row. -/
def nextOk (p e : Ev) : Prop := e.cpu = p.cpu ∧ p.seq < e.seq ∧ p.time ≤ e.time
instance (p e : Ev) : Decidable (nextOk p e) := by unfold nextOk; infer_instance
/-- A row: right events, each behind the one before. -/
def RowOk : List Ev → Prop
 | [] => True
 | [e] => chkEv e = 0
 | p :: e :: l => chkEv p = 0 ∧ nextOk p e ∧ RowOk (e :: l)
instance rowDec : (l : List Ev) → Decidable (RowOk l)
 | [] => .isTrue trivial
 | [e] => by unfold RowOk; infer_instance
 | p :: e :: l => by
  unfold RowOk
  exact @instDecidableAnd _ _ _ (@instDecidableAnd _ _ _ (rowDec (e :: l)))
theorem RowOk.at : ∀ {l : List Ev}, RowOk l → ∀ (i : Nat) (e : Ev), l[i]? = some e → chkEv e = 0 ∧ ∀ j p, i = j + 1 → l[j]? = some p → nextOk p e
 | [], _, i, e, h => by simp at h
 | [x], h, i, e, he => by
  rcases i with _ | i
  ·cases he
   exact ⟨h, fun j p hj => by omega⟩
  ·simp at he
 | p :: x :: l, h, i, e, he => by
  rcases i with _ | i
  ·cases he
   exact ⟨h.1, fun j p hj => by omega⟩
  ·rw [List.getElem?_cons_succ] at he
   obtain ⟨h1, h2⟩ := RowOk.at h.2.2 i e he
   refine ⟨h1, fun j q hj hq => ?_⟩
   rcases j with _ | j
   ·obtain rfl : i = 0 := by omega
    cases he; cases hq
    exact h.2.1
   ·rw [List.getElem?_cons_succ] at hq
    exact h2 j q (by omega) hq
theorem RowOk.of : ∀ {l : List Ev}, (∀ (i : Nat) (e : Ev), l[i]? = some e → chkEv e = 0 ∧ ∀ j p, i = j + 1 → l[j]? = some p → nextOk p e) → RowOk l
 | [], _ => trivial
 | [x], h => (h 0 x rfl).1
 | p :: x :: l, h => ⟨(h 0 p rfl).1, (h 1 x rfl).2 0 p rfl rfl, RowOk.of fun i e he => by
   obtain ⟨h1, h2⟩ := h (i + 1) e (by rw [List.getElem?_cons_succ]; exact he)
   refine ⟨h1, fun j q hj hq => h2 (j + 1) q (by omega) (by rw [List.getElem?_cons_succ]; exact hq)⟩⟩
/-- A block. -/
structure Bck where
 kind : Int
 cpu : Int
 lost : Int
 next : Int
 evs : List Ev
def FitsB (b : Bck) : Prop :=
 (b.kind = 1 ∧ RowOk b.evs ∧ b.cpu < 64 ∧ 0 ≤ b.lost ∧ b.lost ≤ 281474976710656 ∧ b.next = 0 ∧ (b.evs = [] → 0 < b.lost) ∧ ∀ e l, b.evs = e :: l → e.cpu = b.cpu) ∨
 (b.kind = 2 ∧ 1 ≤ b.next ∧ b.next ≤ 281474976710657 ∧ b.cpu = 0 ∧ b.lost = 0 ∧ b.evs = [])
def bodyE : List Ev → List Nat
 | [] => []
 | e :: l => vbytes e.seq.toNat ++ vbytes e.time.toNat ++ recsE e.seq e.time (e :: l)
def bodyB (b : Bck) : List Nat := if b.kind = 2 then vbytes b.next.toNat else vall [b.cpu.toNat, b.lost.toNat, b.evs.length] ++ bodyE b.evs
/-- The bytes of a block without the checksum. -/
def rawB (b : Bck) : List Nat := (((bodyB b).length + 12) % 256) :: (((bodyB b).length + 12) / 256 % 256) :: 0 :: 0 :: 113 :: 116 :: 1 :: b.kind.toNat :: bodyB b
def crcT : List Nat := [0, 498536548, 997073096, 651767980, 1994146192, 1802195444, 1303535960, 1342533948, 3988292384, 4027552580, 3604390888, 3412177804, 2607071920, 2262029012, 2685067896, 3183342108]
def crcH (c : Nat) : Nat := (c >>> 4) ^^^ crcT.getD (c % 16) 0
def crcS (c x : Nat) : Nat := crcH (crcH (c ^^^ x))
def crcR (c : Nat) (l : List Nat) : Nat := l.foldl crcS c
/-- The checksum. -/
def crcL (l : List Nat) : Nat := crcR 4294967295 l ^^^ 4294967295
def le32 (c : Nat) : List Nat := [c % 256, c / 256 % 256, c / 65536 % 256, c / 16777216 % 256]
def sealL (l : List Nat) : List Nat := l ++ le32 (crcL l)
/-- The bytes of a block. -/
def bytesB (b : Bck) : List Nat := sealL (rawB b)
open Classical in
/-- What is wrong with a block. -/
noncomputable def chkB (b : Bck) : Int := if FitsB b then (if 4096 < (bodyB b).length + 12 then 3 else 0) else 107
theorem crcT_lt : ∀ i, crcT.getD i 0 < 4294967296 := by
 intro i
 by_cases h : i < 16
 ·have : ∀ i < 16, crcT.getD i 0 < 4294967296 := by decide
  exact this i h
 ·rw [List.getD_eq_getElem?_getD, List.getElem?_eq_none (by show 16 ≤ i; omega)]; decide
theorem crcH_lt {c : Nat} (h : c < 4294967296) : crcH c < 4294967296 := by
 unfold crcH
 have h1 : c >>> 4 < 2 ^ 32 := by rw [Nat.shiftRight_eq_div_pow]; omega
 exact Nat.xor_lt_two_pow h1 (crcT_lt _)
theorem crcS_lt {c x : Nat} (h : c < 4294967296) (hx : x < 256) : crcS c x < 4294967296 := by
 unfold crcS
 exact crcH_lt (crcH_lt (Nat.xor_lt_two_pow (n := 32) h (by omega)))
theorem crcR_lt : ∀ (l : List Nat) {c : Nat}, c < 4294967296 → (∀ x ∈ l, x < 256) → crcR c l < 4294967296
 | [], c, h, _ => h
 | x :: l, c, h, hl => by
  show crcR (crcS c x) l < _
  exact crcR_lt l (crcS_lt h (hl x (by simp))) fun y hy => hl y (by simp [hy])
theorem crcR_take {c x j : Nat} {l : List Nat} (h : l[j]? = some x) : crcR c (l.take (j + 1)) = crcS (crcR c (l.take j)) x := by
 unfold crcR
 rw [List.take_add_one, h, List.foldl_append]
 rfl
end Go.Proofs.YtalophngappkhaaGreatDoor
namespace Go.Proofs.YtalophngappkhaaGreatDoor
open Go.RowKit

/-- Two different events with one number. -/
def Conf (l : List Ev) : Prop := ∃ a ∈ l, ∃ b ∈ l, a.seq = b.seq ∧ a ≠ b
/-- How often a number is there. -/
def cntS (l : List Ev) (n : Int) : Nat := l.countP (fun e => decide (e.seq = n))
structure JoinOk (l R : List Ev) (T : List Int) : Prop where
 srt : R.Pairwise (fun a b => a.seq < b.seq)
 mem : ∀ e, e ∈ R ↔ e ∈ l
 tsrt : T.Pairwise (fun a b => a < b)
 tmem : ∀ n, n ∈ T ↔ 2 ≤ cntS l n
 len : R.length ≤ l.length ∧ T.length ≤ l.length
/-- What a list of events is joined to, and the error. -/
def JoinRes (l R : List Ev) (T : List Int) (c : Int) : Prop :=
 (65535 < l.length ∧ c = 5 ∧ R = [] ∧ T = []) ∨ (l.length ≤ 65535 ∧ Conf l ∧ c = 120 ∧ R = [] ∧ T = []) ∨ (l.length ≤ 65535 ∧ ¬ Conf l ∧ c = 0 ∧ JoinOk l R T)
/-- Lists in strict order with the same members are equal. -/
theorem strict_unique {α : Type} (f : α → Int) : ∀ {l m : List α}, l.Pairwise (fun a b => f a < f b) → m.Pairwise (fun a b => f a < f b) → (∀ e, e ∈ l ↔ e ∈ m) → l = m
 | [], [], _, _, _ => rfl
 | [], y :: m, _, _, h => by have := (h y).2 (by simp); cases this
 | x :: l, [], _, _, h => by have := (h x).1 (by simp); cases this
 | x :: l, y :: m, h1, h2, h => by
  obtain ⟨a1, a2⟩ := List.pairwise_cons.1 h1
  obtain ⟨b1, b2⟩ := List.pairwise_cons.1 h2
  have hxy : x = y := by
   rcases List.mem_cons.1 ((h x).1 (by simp)) with e | e
   ·exact e
   ·rcases List.mem_cons.1 ((h y).2 (by simp)) with e' | e'
    ·exact e'.symm
    ·have := a1 y e'; have := b1 x e; omega
  subst hxy
  congr 1
  refine strict_unique f a2 b2 fun e => ⟨fun he => ?_, fun he => ?_⟩
  ·rcases List.mem_cons.1 ((h e).1 (by simp [he])) with e' | e'
   ·subst e'; have := a1 e he; omega
   ·exact e'
  ·rcases List.mem_cons.1 ((h e).2 (by simp [he])) with e' | e'
   ·subst e'; have := b1 e he; omega
   ·exact e'
theorem JoinRes.unique {l R R' : List Ev} {T T' : List Int} {c c' : Int} (h : JoinRes l R T c) (h' : JoinRes l R' T' c') : R = R' ∧ T = T' ∧ c = c' := by
 rcases h with ⟨h1, rfl, rfl, rfl⟩ | ⟨h1, h2, rfl, rfl, rfl⟩ | ⟨h1, h2, rfl, h3⟩ <;> rcases h' with ⟨k1, rfl, rfl, rfl⟩ | ⟨k1, k2, rfl, rfl, rfl⟩ | ⟨k1, k2, rfl, k3⟩
 ·exact ⟨rfl, rfl, rfl⟩
 ·omega
 ·omega
 ·omega
 ·exact ⟨rfl, rfl, rfl⟩
 ·exact absurd h2 k2
 ·omega
 ·exact absurd k2 h2
 ·exact ⟨strict_unique Ev.seq h3.srt k3.srt (fun e => (h3.mem e).trans (k3.mem e).symm), strict_unique id h3.tsrt k3.tsrt (fun n => (h3.tmem n).trans (k3.tmem n).symm), rfl⟩

/-! The walk over the events: those that are new, and the numbers of the others. -/
def fndS (o : List Ev) (n : Int) : Option Ev := o.find? (fun x => decide (x.seq = n))
/-- What is known when the events of pre have been seen: out has each number once, tw the numbers of those that were there before. -/
structure JSt (pre out : List Ev) (tw : List Int) : Prop where
 nc : ¬ Conf pre
 mem : ∀ e, e ∈ out ↔ e ∈ pre
 dis : out.Pairwise (fun a b => a.seq ≠ b.seq)
 twc : ∀ n, tw.count n = cntS pre n - 1
 len : tw.length ≤ pre.length ∧ out.length ≤ pre.length
theorem JSt.nil : JSt [] [] [] where
 nc := fun ⟨a, ha, _⟩ => by cases ha
 mem := fun e => Iff.rfl
 dis := List.Pairwise.nil
 twc := fun n => by simp [cntS]
 len := ⟨Nat.le_refl _, Nat.le_refl _⟩
theorem fnd_some {o : List Ev} {n : Int} {x : Ev} (h : fndS o n = some x) : x ∈ o ∧ x.seq = n := by
 unfold fndS at h
 exact ⟨List.mem_of_find?_eq_some h, by simpa using List.find?_some h⟩
theorem fnd_none {o : List Ev} {n : Int} (h : fndS o n = none) : ∀ x ∈ o, x.seq ≠ n := by
 unfold fndS at h
 simpa using h
theorem cnt_app (l : List Ev) (e : Ev) (n : Int) : cntS (l ++ [e]) n = cntS l n + if e.seq = n then 1 else 0 := by
 unfold cntS
 rw [List.countP_append]
 congr 1
 simp [List.countP_cons]
theorem cnt_pos {l : List Ev} {e : Ev} (h : e ∈ l) : 0 < cntS l e.seq := List.countP_pos_iff.2 ⟨e, h, by simp⟩
theorem cnt_zero {l : List Ev} {n : Int} (h : ∀ x ∈ l, x.seq ≠ n) : cntS l n = 0 := by
 unfold cntS
 rw [List.countP_eq_zero]
 intro x hx
 simpa using h x hx
theorem JSt.new {pre out : List Ev} {tw : List Int} {e : Ev} (h : JSt pre out tw) (hf : fndS out e.seq = none) : JSt (pre ++ [e]) (out ++ [e]) tw := by
 have hn := fnd_none hf
 refine ⟨?_, fun x => ?_, ?_, fun n => ?_, ?_⟩
 ·rintro ⟨a, ha, b, hb, hs, hne⟩
  rcases List.mem_append.1 ha with ha' | ha' <;> rcases List.mem_append.1 hb with hb' | hb'
  ·exact h.nc ⟨a, ha', b, hb', hs, hne⟩
  ·rw [List.mem_singleton.1 hb'] at hs
   exact hn a ((h.mem a).2 ha') hs
  ·rw [List.mem_singleton.1 ha'] at hs
   exact hn b ((h.mem b).2 hb') hs.symm
  ·exact hne ((List.mem_singleton.1 ha').trans (List.mem_singleton.1 hb').symm)
 ·simp [h.mem x]
 ·rw [List.pairwise_append]
  exact ⟨h.dis, by simp, fun a ha b hb => by rw [List.mem_singleton.1 hb]; exact hn a ha⟩
 ·rw [h.twc n, cnt_app]
  by_cases he : e.seq = n
  ·subst he
   have : cntS pre e.seq = 0 := cnt_zero fun x hx => hn x ((h.mem x).2 hx)
   simp [this]
  ·simp [he]
 ·have := h.len; simp; omega
theorem JSt.old {pre out : List Ev} {tw : List Int} {e : Ev} (h : JSt pre out tw) (hf : fndS out e.seq = some e) : JSt (pre ++ [e]) out (tw ++ [e.seq]) := by
 have hm := (h.mem e).1 (fnd_some hf).1
 refine ⟨?_, fun x => ?_, h.dis, fun n => ?_, ?_⟩
 ·have hs : ∀ x, x ∈ pre ++ [e] → x ∈ pre := fun x hx => by
   rcases List.mem_append.1 hx with hx | hx
   ·exact hx
   ·obtain rfl : x = e := by simpa using hx
    exact hm
  rintro ⟨a, ha, b, hb, hs', hne⟩
  exact h.nc ⟨a, hs a ha, b, hs b hb, hs', hne⟩
 ·rw [h.mem x, List.mem_append]
  refine ⟨.inl, ?_⟩
  rintro (hx | hx)
  ·exact hx
  ·obtain rfl : x = e := by simpa using hx
   exact hm
 ·rw [List.count_append, h.twc n, cnt_app]
  by_cases he : e.seq = n
  ·subst he
   have := cnt_pos hm
   simp; omega
  ·have : List.count n [e.seq] = 0 := by simp [List.count_singleton, he]
   simp [this, he]
 ·have := h.len; simp; omega
theorem JSt.conf {pre out : List Ev} {tw : List Int} {e x : Ev} (h : JSt pre out tw) (hf : fndS out e.seq = some x) (hne : x ≠ e) {rest : List Ev} : Conf (pre ++ e :: rest) := by
 obtain ⟨h1, h2⟩ := fnd_some hf
 exact ⟨x, by simp [(h.mem x).1 h1], e, by simp, h2, hne⟩
end Go.Proofs.YtalophngappkhaaGreatDoor
namespace Go.Proofs.YtalophngappkhaaGreatDoor
open Go.RowKit Go.Shelf Go.Sort
attribute [local go_sem] Oper.semAt_some

theorem cmpI_neg {a b : Int} : cmpI a b < 0 ↔ a < b := by unfold cmpI; split <;> (try split) <;> omega
def cmpEv (a b : Ev) : Int := cmpI a.seq b.seq
theorem ltOf_ev (a b : Ev) : ltOf cmpEv a b = decide (a.seq < b.seq) := by
 unfold ltOf cmpEv
 exact decide_eq_decide.2 cmpI_neg
theorem swoEv : SWO (ltOf cmpEv) where
 irrefl x := by rw [ltOf_ev]; simp
 trans x y z h1 h2 := by rw [ltOf_ev] at *; simp only [decide_eq_true_eq] at *; omega
 ntrans x y z h1 h2 := by rw [ltOf_ev] at *; simp only [decide_eq_false_iff_not] at *; omega
instance : Inhabited Ev := ⟨⟨0, 0, 0, 0, 0, 0, 0, 0, 0, 0, 0⟩⟩
set_option maxHeartbeats 1600000 in
theorem cmpEv_gro (w : World) (a b : Ev) :
  Calls Tryz.prog 86 #[evA a, evA b] w fun e w' => e = .returned (.int .i64 (cmpEv a b)) ∧ Gro w w' := by
 have HA := Lib.hid ((evp_new w a).below (bel_alloc _ (.cells #[.int .i64 b.seq, .int .i64 b.time, .int .u8 b.cpu, .int .u8 b.kind, .int .i64 b.task, .int .i64 b.grp, .int .i64 b.to, .int .i64 b.wt, .int .i64 b.ticks, .int .u64 b.mask, .int .i64 b.got] 28)) (by simp))
 have HB := Lib.hid (evp_new (w.alloc (.cells #[.int .i64 a.seq, .int .i64 a.time, .int .u8 a.cpu, .int .u8 a.kind, .int .i64 a.task, .int .i64 a.grp, .int .i64 a.to, .int .i64 a.wt, .int .i64 a.ticks, .int .u64 a.mask, .int .i64 a.got] 28)) b)
 have GG := Lib.hid ((Gro.alloc w (.cells #[.int .i64 a.seq, .int .i64 a.time, .int .u8 a.cpu, .int .u8 a.kind, .int .i64 a.task, .int .i64 a.grp, .int .i64 a.to, .int .i64 a.wt, .int .i64 a.ticks, .int .u64 a.mask, .int .i64 a.got] 28)).trans (Gro.alloc _ (.cells #[.int .i64 b.seq, .int .i64 b.time, .int .u8 b.cpu, .int .u8 b.kind, .int .i64 b.task, .int .i64 b.grp, .int .i64 b.to, .int .i64 b.wt, .int .i64 b.ticks, .int .u64 b.mask, .int .i64 b.got] 28)))
 unfold evA cmpEv
 go_enter Tryz.func86, Tryz.ntmps86
 go_upto_region 1 with fail
 have h1 := HA.out.c0
 have h2 := HB.out.c0
 rw [World.size_alloc] at h2
 have h3 := GG.out
 clear HA HB GG
 generalize (w.alloc (.cells #[.int .i64 a.seq, .int .i64 a.time, .int .u8 a.cpu, .int .u8 a.kind, .int .i64 a.task, .int .i64 a.grp, .int .i64 a.to, .int .i64 a.wt, .int .i64 a.ticks, .int .u64 a.mask, .int .i64 a.got] 28)).alloc (.cells #[.int .i64 b.seq, .int .i64 b.time, .int .u8 b.cpu, .int .u8 b.kind, .int .i64 b.task, .int .i64 b.grp, .int .i64 b.to, .int .i64 b.wt, .int .i64 b.ticks, .int .u64 b.mask, .int .i64 b.got] 28) = w1 at h1 h2 h3 ⊢
 have HG := Lib.hid h3
 clear h3
 go_wp2_with fail
 refine (cmpI_ok _ _ _).mono ?_
 rintro e w' ⟨rfl, rfl⟩
 go_wp2
 go_ret
 exact ⟨rfl, HG.out⟩
set_option maxHeartbeats 1000000 in
theorem sort_ev (w : World) (v : Value) (xs : List Ev) (base : Nat) (h : OV encE 11 28 base w v xs) (hb : xs.length ≤ 1000000000) :
  Calls Tryz.prog 85 #[v, .func (.func 86) #[] #[]] w fun e w' => e = .returned (.tuple #[]) ∧ ∃ ys : List Ev, ys.Perm xs ∧ ys.Pairwise (fun a b => ¬ b.seq < a.seq) ∧ OV encE 11 28 base w' v ys ∧ w.grownBy w' v.ownBlock := by
 have eg : ∀ args w, (callFunc 86 args).run Tryz.prog w = .ok (.enter 86 args) w := enters_of Tryz.func86 (by kernel_rfl) rfl
 rcases h.2 with ⟨rfl, h0⟩ | ⟨g, cap, cur, rfl, hbg, hg, hnc, hcm, hcs, htake⟩
 ·obtain rfl : xs = [] := List.eq_nil_of_length_eq_zero h0
  refine (AnyF.slices_SortFunc_none Tryz.sortEv none 0 _ w).mono ?_
  rintro e w' ⟨rfl, rfl⟩
  exact ⟨rfl, [], List.Perm.refl _, List.Pairwise.nil, h, ⟨rfl, rfl, rfl, Nat.le_refl _, fun _ _ _ => rfl⟩⟩
 ·refine (AnyQ.slices_SortFunc Tryz.sortEv 11 (fun w => by kernel_rfl) (fun w => by kernel_rfl) encE encE_len encE_one cmpEv swoEv 86 #[] g 0 cap xs.toArray w eg
   (fun m os dk _ x y => cmpEv_gro _ x y) (holdsK_row encE_len (by decide) hg htake) (Array.getElem?_eq_some_iff.1 hg).1 (by simp; omega)).mono ?_
  rintro e w' ⟨rfl, d', n, os, ⟨hsz, _, hperm⟩, hso, rfl⟩
  have e1 : d'.extract 0 xs.toArray.size = d' := by rw [← hsz]; exact Array.extract_size
  rw [e1, Array.extract_size] at hperm
  have hpm : d'.toList.Perm xs := by simpa using hperm
  have hl : d'.toList.length = xs.length := hpm.length_eq
  refine ⟨rfl, d'.toList, hpm, ?_, ?_, ?_⟩
  ·rw [List.pairwise_iff_getElem]
   intro i j hi hj hij
   have hi' : i < d'.size := by simpa using hi
   have hj' : j < d'.size := by simpa using hj
   have h1 := hso i j (Nat.zero_le _) hij (by omega)
   rw [getElem!_pos d' j hj', getElem!_pos d' i hi', ltOf_ev] at h1
   simpa using h1
  ·have := sortedK_row (enc := encE) (k := 11) encE_len (by decide) (w := w) (n := n) (os := os) hl hbg hg hnc hcm hcs
   simpa using this
  ·exact sortedK_grown _
end Go.Proofs.YtalophngappkhaaGreatDoor
namespace Go.Proofs.YtalophngappkhaaGreatDoor
open Go.RowKit Go.Shelf Go.Sort
attribute [local go_sem] Oper.semAt_some

theorem compactUpTo_strict (d : Array Int) (hs : ∀ i j, i ≤ j → j < d.size → d[i]! ≤ d[j]!) : ∀ m, m ≤ d.size →
  (Lib.compactUpTo d m).Pairwise (fun a b => a < b) ∧ (∀ n, n ∈ Lib.compactUpTo d m ↔ ∃ i, i < m ∧ d[i]! = n)
 | 0, _ => ⟨by simp [Lib.compactUpTo], fun n => by simp [Lib.compactUpTo]⟩
 | m + 1, hm => by
  obtain ⟨h1, h2⟩ := compactUpTo_strict d hs m (by omega)
  rw [Lib.compactUpTo_succ]
  cases hk : Lib.keeps d m with
  | true =>
   simp only [reduceIte]
   refine ⟨?_, fun n => ?_⟩
   ·rw [List.pairwise_append]
    refine ⟨h1, by simp, fun a ha b hb => ?_⟩
    obtain rfl : b = d[m]! := by simpa using hb
    obtain ⟨i, hi, rfl⟩ := (h2 a).1 ha
    have hne : m ≠ 0 := by omega
    have hk' : d[m]! ≠ d[m - 1]! := by
     unfold Lib.keeps at hk
     simp only [decide_eq_true_eq] at hk
     exact hk.resolve_left hne
    have e1 := hs i (m - 1) (by omega) (by omega)
    have e2 := hs (m - 1) m (by omega) (by omega)
    omega
   ·rw [List.mem_append, h2 n, List.mem_singleton]
    constructor
    ·rintro (⟨i, hi, e⟩ | e)
     ·exact ⟨i, by omega, e⟩
     ·exact ⟨m, by omega, e.symm⟩
    ·rintro ⟨i, hi, e⟩
     rcases Nat.lt_or_ge i m with h | h
     ·exact .inl ⟨i, h, e⟩
     ·obtain rfl : i = m := by omega
      exact .inr e.symm
  | false =>
   simp only [Bool.false_eq_true, reduceIte, List.append_nil]
   refine ⟨h1, fun n => ?_⟩
   rw [h2 n]
   have hk' : m ≠ 0 ∧ d[m]! = d[m - 1]! := by
    unfold Lib.keeps at hk
    simp only [decide_eq_false_iff_not, not_or, Decidable.not_not] at hk
    exact hk
   constructor
   ·rintro ⟨i, hi, e⟩
    exact ⟨i, by omega, e⟩
   ·rintro ⟨i, hi, e⟩
    rcases Nat.lt_or_ge i m with h | h
    ·exact ⟨i, h, e⟩
    ·obtain rfl : i = m := by omega
     exact ⟨i - 1, by omega, by rw [← hk'.2]; exact e⟩
theorem srtI_le (xs : List Int) : (srtI xs).Pairwise (fun a b => a ≤ b) := by
 have h1 : ∀ a b c : Int, decide (a ≤ b) = true → decide (b ≤ c) = true → decide (a ≤ c) = true := fun a b c h1 h2 => by simp only [decide_eq_true_eq] at *; omega
 have h2 : ∀ a b : Int, (decide (a ≤ b) || decide (b ≤ a)) = true := fun a b => by simp only [Bool.or_eq_true, decide_eq_true_eq]; omega
 have := List.pairwise_mergeSort (le := fun x y : Int => decide (x ≤ y)) h1 h2 xs
 exact this.imp (fun h => by simpa using h)
theorem srtI_mem (xs : List Int) (n : Int) : n ∈ srtI xs ↔ n ∈ xs := by unfold srtI; exact List.mem_mergeSort
/-- The numbers, each once, in order. -/
def setI (xs : List Int) : List Int := Lib.compact (srtI xs)
theorem setI_ok (xs : List Int) : (setI xs).Pairwise (fun a b => a < b) ∧ ∀ n, n ∈ setI xs ↔ n ∈ xs := by
 have hp := List.pairwise_iff_getElem.1 (srtI_le xs)
 have hs : ∀ i j, i ≤ j → j < (srtI xs).toArray.size → (srtI xs).toArray[i]! ≤ (srtI xs).toArray[j]! := fun i j hij hj => by
  have hj' : j < (srtI xs).length := by simpa using hj
  rw [getElem!_pos _ j hj, getElem!_pos _ i (by omega)]
  rcases Nat.lt_or_ge i j with h | h
  ·simpa using hp i j (by omega) hj' h
  ·obtain rfl : i = j := by omega
   exact Int.le_refl _
 obtain ⟨h1, h2⟩ := compactUpTo_strict (srtI xs).toArray hs (srtI xs).length (by simp)
 refine ⟨h1, fun n => (h2 n).trans ?_⟩
 rw [← srtI_mem xs n, List.mem_iff_getElem]
 constructor
 ·rintro ⟨i, hi, e⟩
  rw [getElem!_pos _ i (by simpa using hi)] at e
  exact ⟨i, hi, by simpa using e⟩
 ·rintro ⟨i, hi, e⟩
  refine ⟨i, hi, ?_⟩
  rw [getElem!_pos _ i (by simpa using hi)]
  simpa using e
theorem compact_le (xs : List Int) : (Lib.compact xs).length ≤ xs.length := by
 unfold Lib.compact Lib.compactUpTo
 rw [List.length_map]
 exact Nat.le_trans (List.length_filter_le _ _) (by simp)
theorem setI_len (xs : List Int) : (setI xs).length ≤ xs.length := Nat.le_trans (compact_le _) (by rw [srtI_len]; exact Nat.le_refl _)
theorem compact_int (w : World) (v : Value) (xs : List Int) (base : Nat) (h : OV encI 1 3 base w v xs) (hb : xs.length ≤ 1000000000) :
  Calls Tryz.prog 89 #[v] w fun e w' => ∃ v', e = .returned v' ∧ OV encI 1 3 base w' v' (Lib.compact xs) ∧ w.grownBy w' v.ownBlock := by
 have h' := h
 rcases h'.2 with ⟨rfl, h0⟩ | ⟨g, cap, cur, rfl, hbg, hg, hnc, hcm, hcs, htake⟩
 ·obtain rfl : xs = [] := List.eq_nil_of_length_eq_zero h0
  refine (Tryz.slices_Compact_int_empty none 0 w).mono ?_
  rintro e w' ⟨rfl, rfl⟩
  exact ⟨_, rfl, by simpa [Lib.compact, Lib.compactUpTo] using h, ⟨rfl, rfl, rfl, Nat.le_refl _, fun _ _ _ => rfl⟩⟩
 ·rw [encI_flat] at htake
  refine (Tryz.slices_Compact_int g 0 cap xs w (holds_of_blockI hg (by simpa using htake)) (by omega) hnc).mono ?_
  rintro e w' ⟨rfl, q, rfl⟩
  have hcl := compact_le xs
  have eg : putRow (Value.int .i64) (Sort.ahead w q) g 0 (Lib.compact xs ++ List.replicate (xs.length - (Lib.compact xs).length) 0).toArray = grow (putRow (Value.int .i64) (Sort.ahead w q) g 0 (Lib.compact xs ++ List.replicate (xs.length - (Lib.compact xs).length) 0).toArray) #[] := by rw [grow_empty]
  rw [eg]
  refine ⟨_, rfl, ?_, grownBy_sortedI _⟩
  have hrow := heap_sortedI (n := q) (os := #[]) (Lib.compact xs ++ List.replicate (xs.length - (Lib.compact xs).length) 0).toArray hg
  refine ⟨by rw [encI_flat]; simp, .inr ⟨g, cap, _, rfl, hbg, hrow, by omega, hcm, by simp [putCells, hcs], ?_⟩⟩
  rw [encI_flat, Nat.mul_one]
  have hl : (Lib.compact xs ++ List.replicate (xs.length - (Lib.compact xs).length) 0).length = xs.length := by rw [List.length_append, List.length_replicate]; omega
  have ht := take_putCellsI cur (Lib.compact xs ++ List.replicate (xs.length - (Lib.compact xs).length) 0) (by rw [hl]; omega)
  have := congrArg (List.take (Lib.compact xs).length) ht
  rw [List.take_take, hl, Nat.min_eq_left hcl, ← List.map_take, List.take_left' rfl] at this
  exact this
/-- When all events have been seen. -/
theorem JSt.done {l out R : List Ev} {tw : List Int} (h : JSt l out tw) (hp : R.Perm out) (hs : R.Pairwise (fun a b => ¬ b.seq < a.seq)) : JoinOk l R (setI tw) where
 srt := by
  have hd : R.Pairwise (fun a b => a.seq ≠ b.seq) := hp.symm.pairwise h.dis (fun h => h.symm)
  exact (hd.and hs).imp (fun ⟨h1, h2⟩ => by omega)
 mem := fun e => hp.mem_iff.trans (h.mem e)
 tsrt := (setI_ok tw).1
 tmem := fun n => by
  rw [(setI_ok tw).2 n, ← List.count_pos_iff, h.twc n]
  omega
 len := ⟨by rw [hp.length_eq]; exact h.len.2, Nat.le_trans (setI_len tw) h.len.1⟩
end Go.Proofs.YtalophngappkhaaGreatDoor
