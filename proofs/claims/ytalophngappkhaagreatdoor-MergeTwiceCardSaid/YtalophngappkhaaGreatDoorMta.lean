/- MergeTwice, in plain words; append onto a full slice. -/
import Derived.Test.YtalophngappkhaaGreatDoorMsa
import Derived.Test.YtalophngappkhaaGreatDoorLo2
set_option linter.unusedVariables false
set_option linter.unusedSimpArgs false
set_option linter.unusedSectionVars false
namespace Go.Proofs.YtalophngappkhaaGreatDoor
open Go Go.RowKit Go.Shelf

section
variable {P : Program} {α : Type} {enc : α → List Value} {k bytes : Nat} {t e : TypeId} {w : World} {sv : Value} {xs ys : List α}
theorem ev_front (hk : ∀ x, (enc x).length = k) {w' : World} {zs : List α} {rest : List Value} {cap n : Nat} (hn : zs.length = n) (hc : n ≤ cap) (hw : w'.heap[w.heap.size]? = some (.cells ((zs.flatMap enc).toArray ++ rest.toArray) e (0, 0))) : EV enc k w' (.slice (some ⟨w.heap.size, 0, none⟩) n cap) zs := by
  subst hn
  refine EV.mk (fun i x hx j u hu => ?_) hc
  rw [cell_of_row _ _ _ _ _ _ hw]
  have hg := flat_get hk zs i x hx j u hu
  have hl := (List.getElem?_eq_some_iff.1 hg).1
  rw [Nat.zero_add, Array.getElem?_append_left (by simpa using hl)]
  simpa using hg
theorem ER.flat (hk : ∀ x, (enc x).length = k) (h0 : 0 < k) {b off : Nat} (h : ER enc k w b off xs) : ∀ j u, (xs.flatMap enc)[j]? = some u → w.cell? ((⟨b, off, none⟩ : Addr).add j) = some u := by
  intro j u hj
  rw [Addr.add_lit]
  have hjl : j < xs.length * k := by
    have := (List.getElem?_eq_some_iff.1 hj).1
    rwa [flat_len hk] at this
  have hq : j / k < xs.length := Nat.div_lt_of_lt_mul (by rwa [Nat.mul_comm])
  have hdm : j / k * k + j % k = j := by rw [Nat.mul_comm]; exact Nat.div_add_mod j k
  have hm : j % k < (enc xs[j / k]).length := by rw [hk]; exact Nat.mod_lt _ h0
  obtain ⟨u', hu'⟩ : ∃ u', (enc xs[j / k])[j % k]? = some u' := ⟨_, List.getElem?_eq_getElem hm⟩
  have h2 := flat_get hk xs (j / k) xs[j / k] (List.getElem?_eq_getElem hq) (j % k) u' hu'
  rw [hdm, hj] at h2
  cases h2
  have := h (j / k) xs[j / k] (List.getElem?_eq_getElem hq) (j % k) u hu'
  rwa [Nat.add_assoc, hdm] at this
theorem run_app_full (T : ElemT P t e k bytes) (hk : ∀ x, (enc x).length = k) (ty : TypeId) {A : Option Addr} {n : Nat} (hx : EV enc k w (.slice A n n) xs) (hys : EV enc k w sv ys) (h0 : 0 < ys.length) (hn : n + ys.length ≤ 1000000000) :
    ∃ v' w', (Builtin.append_ #[t, t] ty #[.slice A n n, sv]).run P w = .ok v' w' ∧ EV enc k w' v' (xs ++ ys) ∧ Below w.heap.size w w' := by
  obtain ⟨i, z, hi, hz, hsz, hby, hzs⟩ := T.hi
  have hkp := T.hk
  have hb := T.hb
  have hbb : (n + ys.length) * bytes ≤ 140737488355328 := Nat.le_trans (Nat.mul_le_mul hn hb) (by decide)
  have hxl := hx.nlen
  obtain ⟨b2, o2, c2, rfl, hc2, hr2⟩ := hys.row h0
  have hnews := hr2.flat hk hkp
  have fin : ∀ (m cap : Nat) (rest : List Value), m = n + ys.length → m ≤ cap → EV enc k (w.drew.alloc (.cells (((xs ++ ys).flatMap enc).toArray ++ rest.toArray) e)) (.slice (some ⟨w.heap.size, 0, none⟩) m cap) (xs ++ ys) ∧ Below w.heap.size w (w.drew.alloc (.cells (((xs ++ ys).flatMap enc).toArray ++ rest.toArray) e)) := fun m cap rest hm hc =>
    ⟨ev_front (w := w) hk (by rw [List.length_append, ← hxl, hm]) hc (heap_alloc_new w.drew _), (below_drew (Below.refl _ _)).alloc (by simp) _⟩
  rcases Nat.eq_zero_or_pos n with hn0 | hn0
  · subst hn0
    have hxe : xs = [] := List.eq_nil_of_length_eq_zero hxl.symm
    subst hxe
    cases A with
    | none =>
      have hr := run_append_nil (P := P) (w := w) t ty e i z T.ht hi hz ⟨b2, o2, none⟩ ys.length c2 (ys.flatMap enc) (by rw [flat_len hk, hsz]) hnews h0 (by omega) (by rw [hby]; simp at hbb; omega)
      obtain ⟨f1, f2⟩ := fin ys.length (grownCap w ys.length 0 e) (Builtin.zeroCells z.cells (grownCap w ys.length 0 e - ys.length)).toList (by omega) (by have := grownCap_ge w ys.length 0 e; simpa using this)
      exact ⟨_, _, hr, by simpa using f1, by simpa using f2⟩
    | some a =>
      have hfit : Builtin.nextslicecap (0 + ys.length) 0 * i.bytes ≤ 281474976710656 := by rw [hby]; exact growslice_fits (by omega) hbb
      have hr := run_append_grow (P := P) (w := w) t ty e i z T.ht hi hz a 0 0 [] (by simp) (by simp) ⟨b2, o2, none⟩ ys.length c2 (ys.flatMap enc) (by rw [flat_len hk, hsz]) hnews (by omega) (by omega) hfit
      obtain ⟨f1, f2⟩ := fin (0 + ys.length) (grownCap w (0 + ys.length) 0 e) (Builtin.zeroCells z.cells (grownCap w (0 + ys.length) 0 e - (0 + ys.length))).toList (by omega) (by have := grownCap_ge w ys.length 0 e; simpa using this)
      exact ⟨_, _, hr, by simpa using f1, by simpa using f2⟩
  · obtain ⟨b1, o1, c1, hs1, hc1, hr1⟩ := hx.row (by omega)
    simp only [Value.slice.injEq] at hs1
    obtain ⟨rfl, _, _⟩ := hs1
    have hfit : Builtin.nextslicecap (n + ys.length) n * i.bytes ≤ 281474976710656 := by rw [hby]; exact growslice_fits (by omega) hbb
    have hr := run_append_grow (P := P) (w := w) t ty e i z T.ht hi hz ⟨b1, o1, none⟩ n n (xs.flatMap enc) (by rw [flat_len hk, hsz, ← hxl]) (hr1.flat hk hkp) ⟨b2, o2, none⟩ ys.length c2 (ys.flatMap enc) (by rw [flat_len hk, hsz]) hnews (by omega) (by omega) hfit
    obtain ⟨f1, f2⟩ := fin (n + ys.length) (grownCap w (n + ys.length) n e) (Builtin.zeroCells z.cells (grownCap w (n + ys.length) n e - (n + ys.length))).toList rfl (grownCap_ge w (n + ys.length) n e)
    have he : ((xs ++ ys).flatMap enc).toArray ++ (Builtin.zeroCells z.cells (grownCap w (n + ys.length) n e - (n + ys.length))).toList.toArray = (xs.flatMap enc).toArray ++ (ys.flatMap enc).toArray ++ Builtin.zeroCells z.cells (grownCap w (n + ys.length) n e - (n + ys.length)) := by
      rw [List.flatMap_append]; simp
    rw [he] at f1 f2
    exact ⟨_, _, hr, f1, f2⟩
theorem wpList_app_full {ops : Array Oper} {rest : List Oper} {o : Oper} {a : Act} {Q : Exit → Act → World → Prop} (T : ElemT P t e k bytes) (hk : ∀ x, (enc x).length = k)
    (hgd : o.guard = none) (s x : Operand) (ho : o.op = .call { callee := .builtin .append, args := #[s, x], argTypes := #[t, t] }) {A : Option Addr} {n : Nat} (hs : a.eval s = .slice A n n) (hx : a.eval x = sv)
    (hown : EV enc k w (.slice A n n) xs) (hys : EV enc k w sv ys) (h0 : 0 < ys.length) (hn : n + ys.length ≤ 1000000000)
    (h : ∀ v' w', EV enc k w' v' (xs ++ ys) → Below w.heap.size w w' → wpList P ops Q rest (a.put o.dst v') w') : wpList P ops Q (o :: rest) a w := by
  refine wpList_plain hgd fun _ hK => ?_
  obtain ⟨v', w', hr, h2, h3⟩ := run_app_full T hk o.type hown hys h0 hn
  unfold Oper.wp execOp
  simp only [ho, resolve, invoke, builtin, Sem.run_bind, Sem.run_pure, Result.andThen_ok, List.map_toArray, List.map_cons, List.map_nil, hs, hx, hr]
  exact hK _ _ (h v' w' h2 h3)
end
/-- A block that is there twice. -/
theorem twice_mrg {tr : List Ev} {bs : List Bck} {nx : Int} (ht : Tr tr) (h : CutR tr bs nx) {b : Bck} (hb : b ∈ bs) : ∀ m c, MrgRes (b :: (bs ++ [bkE nx])) m c → c = 0 ∧ m = ⟨tr, seqsL b.evs, gapsOf tr nx, b.lost + lostB (bs ++ [bkE nx]), nx, false⟩ := by
  intro m c hm
  have hx := h.nx
  have hle := lastS_le ht
  have hlen := h.len
  have htl := ht.len
  have hnx := ht.srt'.next
  have hcb := h.blk b hb
  have hp : ((b :: (bs ++ [bkE nx])).flatMap Bck.evs).Perm (tr ++ b.evs) := by
    rw [List.flatMap_cons, List.flatMap_append, show [bkE nx].flatMap Bck.evs = [] from rfl, List.append_nil]
    exact List.perm_append_comm.trans (h.perm.append_right _)
  have hj := join_twice hp ht.srt'.srt hcb.sub (by have := hp.length_eq; rw [List.length_append] at this; have := hcb.len; omega)
  obtain ⟨e1, e2⟩ := mrg_of hm (by simp; omega) (fun x hx' => (h.all ht (l := b :: (bs ++ [bkE nx])) (fun y hy => by
    rcases List.mem_cons.1 hy with rfl | hy
    · exact .inl hb
    · simpa using hy) x hx').2.1) hj
  refine ⟨e1, e2.trans ?_⟩
  have he : endB (b :: (bs ++ [bkE nx])) = nx := by
    rw [endB_cons, endB_snoc, endB_zero fun x hx' => (h.blk x hx').next, hcb.next]
    show max (max 0 nx) 0 = nx
    omega
  unfold mgOf
  rw [he, lostB_cons, show max (nxtS tr) nx = nx by omega]
  simp
/-- An event of a block is changed. -/
structure Chg1 (b : Bck) (i : Nat) (e x : Ev) : Prop where
  at_ : b.evs[i]? = some e
  ne : x ≠ e
  seq : x.seq = e.seq
  time : x.time = e.time
  cpu : x.cpu = b.cpu
  ok : EvOk x
  chk : chkEv x = 0
def setB (b : Bck) (i : Nat) (x : Ev) : Bck := { b with evs := b.evs.set i x }
theorem Chg1.good {tr : List Ev} (ht : Tr tr) {b : Bck} (hb : CutB tr b) {i : Nat} {e x : Ev} (h : Chg1 b i e x) : BlkOk (setB b i x) ∧ chkB (setB b i x) = 0 ∧ (setB b i x).evs.length ≤ 6 := by
  have hl : (setB b i x).evs.length = b.evs.length := by unfold setB; simp
  have ho : BlkOk (setB b i x) := by
    have hg := (hb.good ht).1
    refine ⟨hg.kind, hg.cpu, hg.lost, hg.next, fun y hy => ?_⟩
    rcases List.mem_or_eq_of_mem_set hy with hy | rfl
    · exact hg.evs y hy
    · exact h.ok
  have h3 := hb.lost
  refine ⟨ho, chkB_small ho (.inl ⟨hb.kind, ?_, by have := hb.cpu; show b.cpu < 64; omega, h3.1, by show b.lost ≤ _; omega, hb.next, fun he => ?_, fun y l he => ?_⟩) (by have := hb.len; omega), by have := hb.len; omega⟩
  · refine RowOk.of fun j y hy => ?_
    have key : ∀ q z, (setB b i x).evs[q]? = some z → ∃ z0 : Ev, b.evs[q]? = some z0 ∧ z.seq = z0.seq ∧ z.time = z0.time ∧ z.cpu = b.cpu ∧ chkEv z = 0 := fun q z hz => by
      unfold setB at hz
      rw [List.getElem?_set] at hz
      split at hz
      · rename_i hiq
        subst hiq
        split at hz
        · cases hz; exact ⟨e, h.at_, h.seq, h.time, h.cpu, h.chk⟩
        · cases hz
      · have hm := List.mem_of_getElem? hz
        exact ⟨z, hz, rfl, rfl, hb.own z hm, (ht.ok z (hb.sub.mem hm)).2.1⟩
    obtain ⟨y0, hy0, s1, t1, c1, k1⟩ := key j y hy
    refine ⟨k1, fun q p hj hp => ?_⟩
    obtain ⟨p0, hp0, s2, t2, c2, _⟩ := key q p hp
    have hs := List.pairwise_iff_getElem.1 (ht.srt.sublist hb.sub)
    obtain ⟨hj', rfl⟩ := List.getElem?_eq_some_iff.1 hy0
    obtain ⟨hq', rfl⟩ := List.getElem?_eq_some_iff.1 hp0
    have := hs q j hq' hj' (by omega)
    exact ⟨c1.trans c2.symm, by omega, by omega⟩
  · have : (setB b i x).evs.length = 0 := by rw [he]; rfl
    have := hb.len; omega
  · have hm : y ∈ (setB b i x).evs := by rw [he]; simp
    rcases List.mem_or_eq_of_mem_set hm with hm | rfl
    · exact hb.own y hm
    · exact h.cpu
theorem conflict_mrg {tr : List Ev} {bs : List Bck} {nx : Int} (ht : Tr tr) (h : CutR tr bs nx) {b : Bck} (hb : b ∈ bs) {i : Nat} {e x : Ev} (hc : Chg1 b i e x) : ∀ m c, MrgRes ((bs ++ [bkE nx]) ++ [setB b i x]) m c → c = 120 ∧ m = mg0 := by
  intro m c hm
  have hlen := h.len
  have htl := ht.len
  have hcb := h.blk b hb
  have hg := hc.good ht hcb
  have hall : ∀ y ∈ (bs ++ [bkE nx]) ++ [setB b i x], chkB y = 0 := fun y hy => by
    rcases List.mem_append.1 hy with hy | hy
    · exact (h.all ht (l := bs ++ [bkE nx]) (fun z hz => by simpa using hz) y hy).2.1
    · simp only [List.mem_cons, List.not_mem_nil, or_false] at hy
      subst hy; exact hg.2.1
  have hil := (List.getElem?_eq_some_iff.1 hc.at_).1
  have hflat : ((bs ++ [bkE nx]) ++ [setB b i x]).flatMap Bck.evs = bs.flatMap Bck.evs ++ (setB b i x).evs := by
    rw [List.flatMap_append, List.flatMap_append, show [bkE nx].flatMap Bck.evs = [] from rfl, List.append_nil]; simp
  have hxm : x ∈ (setB b i x).evs := by
    refine List.mem_of_getElem? (i := i) ?_
    unfold setB
    rw [List.getElem?_set, if_pos rfl, if_pos hil]
  have hem : e ∈ bs.flatMap Bck.evs := List.mem_flatMap.2 ⟨b, hb, List.mem_of_getElem? hc.at_⟩
  have hconf : Conf (((bs ++ [bkE nx]) ++ [setB b i x]).flatMap Bck.evs) := ⟨e, by rw [hflat]; simp [hem], x, by rw [hflat]; simp [hxm], hc.seq.symm, fun h => hc.ne h.symm⟩
  have hfl : (((bs ++ [bkE nx]) ++ [setB b i x]).flatMap Bck.evs).length ≤ 65535 := by
    have h1 := h.perm.length_eq
    rw [hflat, List.length_append]
    have := hg.2.2
    omega
  rcases hm with ⟨h1, _⟩ | ⟨_, ⟨q, y, hy, _, hne, _⟩, _⟩ | ⟨_, _, R, T, hj, h0, _⟩
  · simp at h1; omega
  · exact absurd (hall y (List.mem_of_getElem? hy)) hne
  · rcases hj with ⟨h1, _⟩ | ⟨_, _, h2, _⟩ | ⟨_, h2, _⟩
    · omega
    · exact ⟨h2, h0 (by rw [h2]; decide)⟩
    · exact absurd hconf h2
/-- A wake of a task. -/
def wakeE (s t c ta : Int) : Ev := ⟨s, t, c, 2, ta, 0, 0, 0, 0, 0, 0⟩
theorem wake_ok {s t c ta : Int} (hs : 1 ≤ s ∧ s ≤ 281474976710656) (ht : 0 ≤ t ∧ t ≤ 281474976710656) (hc : 0 ≤ c ∧ c < 64) (ha : 1 ≤ ta ∧ ta ≤ 65535) : EvOk (wakeE s t c ta) ∧ chkEv (wakeE s t c ta) = 0 := by
  have hx : S6Ok ⟨1, c, 0, 0, ta - 1, 0, 0, 0, 0, 0, 0⟩ := by constructor <;> (dsimp only; omega)
  have h2 := made6_chk hx (m := 0) (fun h => absurd h (show ¬ ((1 : Int) % 10 = 0) by decide)) hs ht
  have e : ({ made6 ⟨1, c, 0, 0, ta - 1, 0, 0, 0, 0, 0, 0⟩ 0 with seq := s, time := t } : Ev) = wakeE s t c ta := by
    have h1 : made6 ⟨1, c, 0, 0, ta - 1, 0, 0, 0, 0, 0, 0⟩ 0 = ⟨1 + 0, 0, c % 64, 1 + 1 % 10, 1 + (ta - 1) % 65535, 0, 0, 0, 0, 0, 0⟩ := rfl
    rw [h1]
    unfold wakeE
    have e1 : c % 64 = c := by omega
    have e2 : 1 + (ta - 1) % 65535 = ta := by omega
    simp only [e1, e2]
    rfl
  rw [e] at h2
  exact ⟨⟨by show 0 ≤ c ∧ c ≤ 255; omega, by show (0 : Int) ≤ 2 ∧ (2 : Int) ≤ 255; omega, by show (0 : Int) ≤ 0 ∧ (0 : Int) ≤ _; omega, by show _ ≤ s ∧ s ≤ _; omega, by show _ ≤ t ∧ t ≤ _; omega, by show _ ≤ ta ∧ ta ≤ _; omega, by show _ ≤ (0 : Int) ∧ (0 : Int) ≤ _; omega, by show _ ≤ (0 : Int) ∧ (0 : Int) ≤ _; omega, by show _ ≤ (0 : Int) ∧ (0 : Int) ≤ _; omega, by show _ ≤ (0 : Int) ∧ (0 : Int) ≤ _; omega, by show _ ≤ (0 : Int) ∧ (0 : Int) ≤ _; omega⟩, h2⟩
end Go.Proofs.YtalophngappkhaaGreatDoor
