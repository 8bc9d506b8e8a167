/- Contracts of quota.Check and quota.add | Contract of quota's tasks.does | Taking the operations of a region that draws in the text's order, one by one, by their slots | What a function that is handed each tick of a trace keeps; the clocks of a trace. -/
import Derived.Test.YtaplangfppohdaaDoorZ5
import Derived.StillTailTactics
import Derived.Test.YtaplangfppohdaaDoorZ3
import Derived.Test.YtaplangfppohdaaDoorZ2
import Derived.Laws.EntriesVeiled
import Derived.Test.YtaplangfppohdaaDoorZ1
import Derived.Deep.RegionHeld3
import Derived.Deep.DeepCutAuto
set_option linter.unusedVariables false
set_option linter.unusedSimpArgs false
set_option linter.unusedSectionVars false
namespace Go.Proofs.YtaplangfppohdaaDoor
open Go.RowKit Go.Shelf
attribute [local go_sem] Oper.semAt_some

theorem ER.ru {w : World} {b off : Nat} {l : List Ru} (h : ER encRu 3 w b off l) {j : Nat} (hj : j < l.length) :
    w.cell? ⟨b, off + j * 3, none⟩ = some (.int .i64 (ruAt l j).g) ∧ w.cell? ⟨b, off + j * 3 + 1, none⟩ = some (.int .i64 (ruAt l j).p) ∧ w.cell? ⟨b, off + j * 3 + 2, none⟩ = some (.int .i64 (ruAt l j).l) := by
  have hx : l[j]? = some (ruAt l j) := by simp [ruAt, List.getElem?_eq_getElem hj]
  exact ⟨h j _ hx 0 _ rfl, h j _ hx 1 _ rfl, h j _ hx 2 _ rfl⟩
theorem ru_get {l : List Ru} {j : Nat} (hj : j < l.length) : l[j]? = some (ruAt l j) := by simp [ruAt, List.getElem?_eq_getElem hj]
theorem badR_at {n : Nat} {rs : List Ru} {j : Nat} (hj : j < rs.length) (h : ∀ q, q < j → RuOk n (ruAt rs q)) (hb : ¬ RuOk n (ruAt rs j)) : badR n rs = j := by
  unfold badR
  rw [List.findIdx_eq hj]
  have e : ∀ q (hq : q < rs.length), rs[q] = ruAt rs q := fun q hq => by have := ru_get hq; rw [List.getElem?_eq_getElem hq] at this; exact Option.some.inj this
  refine ⟨by rw [e j hj]; simp [hb], fun q hq => by rw [e q (by omega)]; simp [h q hq]⟩
theorem badR_none {n : Nat} {rs : List Ru} (h : ∀ q, q < rs.length → RuOk n (ruAt rs q)) : badR n rs = rs.length := by
  unfold badR
  rw [List.findIdx_eq_length]
  intro x hx
  obtain ⟨q, hq, rfl⟩ := List.getElem_of_mem hx
  have : rs[q] = ruAt rs q := by have := ru_get hq; rw [List.getElem?_eq_getElem hq] at this; exact Option.some.inj this
  rw [this]; simp [h q hq]

set_option maxHeartbeats 800000 in
theorem qcheck_ok (w : World) (v1 v2 : Value) (gs : List (Int × Int)) (rs : List Ru) (h1 : EV encG 2 w v1 gs) (h2 : EV encRu 3 w v2 rs) (l1 : gs.length ≤ 100000) (l2 : rs.length ≤ 1000000000) :
    Calls Tryd.prog 17 #[v1, v2] w fun e w' => e = .returned (.tuple #[.int .i64 (chkR gs rs).1, .int .i64 (chkR gs rs).2]) ∧ Below w.heap.size w w' := by
  obtain ⟨A1, c1, rfl⟩ := h1.shape
  obtain ⟨A2, c2, rfl⟩ := h2.shape
  have HR := Lib.hid (right_ok w _ gs h1 l1)
  have H2 := Lib.hid h2
  clear h1 h2
  obtain ⟨m, hm⟩ : ∃ m, m = rs.length := ⟨_, rfl⟩
  have HM := Lib.hid hm
  rw [← hm] at l2 ⊢
  clear hm
  obtain ⟨g, hg⟩ : ∃ g, g = gs.length := ⟨_, rfl⟩
  have HG := Lib.hid hg
  rw [← hg] at l1 HR ⊢
  clear hg
  cases hr : rightB gs with
  | false =>
    have HC := Lib.hid (show chkR gs rs = (-1, 194) from if_pos hr)
    rw [hr] at HR
    clear hr
    go_enter Tryd.func17, Tryd.ntmps17
    go_wp2_with fail
    refine HR.out.mono ?_
    rintro e w1 ⟨rfl, hb⟩
    go_wp2
    go_ret2
    exact ⟨by rw [HC.out]; rfl, hb⟩
  | true =>
    have HC := Lib.hid (show chkR gs rs = if badR g rs < m then ((badR g rs : Int), 280) else (-1, 0) from by rw [HG.out, HM.out]; exact if_neg (by simp [hr]))
    rw [hr] at HR
    clear hr
    go_enter Tryd.func17, Tryd.ntmps17
    go_wp2_with fail
    refine HR.out.mono ?_
    rintro e w1 ⟨rfl, hb⟩
    have HB := Lib.hid hb
    clear hb HR
    go_wp2
    go_loopg [13] m (fun k i wr => ∃ j : Nat, j + k = m ∧ i = .int .i64 j ∧ (∀ q, q < j → RuOk g (ruAt rs q)) ∧ Below w.heap.size w wr)
    case atStart => exact ⟨0, by omega, rfl, fun q hq => by omega, HB.out⟩
    case round =>
      obtain ⟨j, hj, rfl, ha, hb⟩ := hrel
      have HJ := Lib.hid hj
      have HA := Lib.hid ha
      have HB := Lib.hid hb
      clear hj ha hb
      by_cases hlt : j < m
      · have hev := H2.out.below HB.out
        obtain ⟨b, off, c', hsl, hcc, hrr⟩ := hev.row (by have := HM.out; omega)
        cases hsl
        obtain ⟨g0, g1, g2⟩ := hrr.ru (j := j) (by rw [← HM.out]; exact hlt)
        have HX := Lib.hid (show RuOk g (ruAt rs j) ↔ _ from by unfold RuOk; exact Iff.rfl)
        have HBAD := Lib.hid (fun hb => badR_at (n := g) (rs := rs) (j := j) (by rw [← HM.out]; exact hlt) HA.out hb)
        clear hev hrr
        generalize hru : ruAt rs j = ru at *
        have HRU := Lib.hid hru
        clear hru
        obtain ⟨rg, rp, rl⟩ := ru
        dsimp only at g0 g1 g2
        have HBN := Lib.hid (HB.out.trans ((Below.refl wr.heap.size wr).alloc (Nat.le_refl _) (.cells #[.int .i64 rg, .int .i64 rp, .int .i64 rl] 44) |>.mono HB.out.size))
        go_wp2_with fail
        refine (in_ok _ _ _ _).mono ?_
        rintro e w2 ⟨rfl, rfl⟩
        cases h1 : (decide ((0 : Int) ≤ rg) && decide (rg ≤ (g : Int) - 1)) with
        | false =>
          go_wp2
          go_ret2
          have hB := HBAD.out (fun hp => by have := HX.out.1 hp; simp at h1 this; omega)
          exact ⟨by rw [HC.out, hB, if_pos hlt]; rfl, HBN.out⟩
        | true =>
        have H1 := Lib.hid h1
        clear h1
        go_wp2_with fail
        refine (in_ok _ _ _ _).mono ?_
        rintro e w2 ⟨rfl, rfl⟩
        cases h1 : (decide ((1 : Int) ≤ rp) && decide (rp ≤ 4294967296)) with
        | false =>
          go_wp2
          go_ret2
          have hB := HBAD.out (fun hp => by have := HX.out.1 hp; simp at h1 this; omega)
          exact ⟨by rw [HC.out, hB, if_pos hlt]; rfl, HBN.out⟩
        | true =>
        have H3 := Lib.hid h1
        clear h1
        go_wp2_with fail
        refine (in_ok _ _ _ _).mono ?_
        rintro e w2 ⟨rfl, rfl⟩
        cases h1 : (decide ((0 : Int) ≤ rl) && decide (rl ≤ rp)) with
        | false =>
          go_wp2
          go_ret2
          have hB := HBAD.out (fun hp => by have := HX.out.1 hp; simp at h1 this; omega)
          exact ⟨by rw [HC.out, hB, if_pos hlt]; rfl, HBN.out⟩
        | true =>
          have HOK := Lib.hid (HX.out.2 (by have h3 := H1.out; have h4 := H3.out; simp at h1 h3 h4; exact ⟨h3, h4, h1⟩))
          clear h1
          go_wp2
          go_roundg (gk - 1)
          case measure => have := HJ.out; omega
          case rel =>
            refine ⟨j + 1, by have := HJ.out; omega, by go_num, fun q hq => ?_, HBN.out⟩
            rcases Nat.lt_or_ge q j with h | h
            · exact HA.out q h
            · obtain rfl : q = j := by omega
              rw [HRU.out]; exact HOK.out
      · obtain rfl : m = j := by have := HJ.out; omega
        have hB := Lib.hid (badR_none (n := g) (rs := rs) (fun q hq => HA.out q (by rw [HM.out]; exact hq)))
        clear hlt
        go_wp2
        go_ret2
        exact ⟨by rw [HC.out, hB.out, ← HM.out, if_neg (by omega)]; rfl, HB.out⟩

theorem new_partM {w : World} {p q : Int} {m : Nat} (hm : w.heap.size = m) : EV encG 2 (w.alloc (.cells #[.int .i64 p, .int .i64 q] 27)) (.slice (some ⟨m, 0, none⟩) 1 1) [(p, q)] := by subst hm; exact EV.new1 rfl (Nat.le_refl _)
/-- What 'add' leaves. -/
def AddPost (base : Nat) (v : Value) (l : List (Int × Int)) (w : World) (e : Ending) (w' : World) : Prop :=
  ∃ v', e = .returned v' ∧ OV encG 2 27 base w' v' l ∧ w.grownBy w' v.ownBlock ∧ (v'.ownBlock = v.ownBlock ∨ ∃ g, v'.ownBlock = some g ∧ w.heap.size ≤ g)
theorem grown_alloc {w w' : World} {o : Obj} {row : Option Nat} (h : (w.alloc o).grownBy w' row) : w.grownBy w' row :=
  ⟨h.os, h.tape, h.output, Nat.le_trans (by simp) h.size, fun k hk hn => (h.block k (by simp; omega) hn).trans (Below.heap_alloc _ _ _ hk)⟩
theorem grown_drewN {w w' : World} {n : Nat} {row : Option Nat} (h : (w.drewN n).grownBy w' row) : w.grownBy w' row := ⟨h.os, h.tape, h.output, h.size, h.block⟩


set_option maxHeartbeats 800000 in
set_option maxRecDepth 10000 in
theorem add_ok (w : World) (base : Nat) (v : Value) (l : List (Int × Int)) (p : Int × Int) (h : OV encG 2 27 base w v l) (hl : l.length ≤ 1000000) (hbase : base ≤ w.heap.size)
    (hq : ∀ q ∈ l, 0 ≤ q.2 ∧ q.2 ≤ 1099511627776) (hp : 0 ≤ p.2 ∧ p.2 ≤ 1099511627776) :
    Calls Tryd.prog 43 #[v, .agg #[.int .i64 p.1, .int .i64 p.2]] w (AddPost base v (addP l p) w) := by
  obtain ⟨p1, p2⟩ := p
  dsimp only at hp ⊢
  have HO := Lib.hid h
  clear h
  rcases List.eq_nil_or_concat l with rfl | ⟨r, q, rfl⟩
  · obtain ⟨A, c, rfl⟩ := (HO.out.ev encG_len).shape
    rw [show ([] : List (Int × Int)).length = 0 from rfl] at HO ⊢
    clear hq hl
    go_enter Tryd.func43, Tryd.ntmps43
    go_wp2_with fail
    go_quiet (fail)
    go_wp2_with (at_builtin; refine wpList_app_at elemPt encG_len encG_one rfl _ _ rfl _ _ rfl rfl (((HO.out.alloc _).drewN nq).alloc _) (new_partM (p := p1) (q := p2) (by simp)) ?q1 ?q2 ?_)
    case q1 => simp
    case q2 => simp; omega
    intro v' w3 ho hg hat
    have HF := Lib.hid (show AddPost base (.slice A 0 c) (addP [] (p1, p2)) w (.returned v') w3 from ⟨v', rfl, by rw [addP_nil]; exact ho, grown_alloc (grown_drewN (grown_alloc hg)), by
      rcases hat with h | h
      · exact .inl h
      · refine .inr ⟨_, h, ?_⟩
        omega⟩)
    clear ho hg hat
    go_wp2
    go_ret
    exact HF.out
  · rw [List.concat_eq_append] at *
    obtain ⟨q1, q2⟩ := q
    obtain ⟨n, hn⟩ : ∃ n, r.length = n := ⟨_, rfl⟩
    have HN := Lib.hid hn
    obtain ⟨g, cap, rfl, hcap, hbg, hgs⟩ := HO.out.row_form encG_len (n := n + 1) (by simp [hn]) (by omega)
    have hrow := (HO.out.ev encG_len).row3 (by simp)
    have hx : (r ++ [(q1, q2)])[n]? = some (q1, q2) := by rw [← hn]; simp
    obtain ⟨g0, g1⟩ := hrow.grp hx
    have gf := HO.out.frz (by simp [hn]) (n * 2 + 1)
    have hqq := hq (q1, q2) (by simp)
    dsimp only at g0 g1 hqq
    simp only [Nat.zero_add] at g0 g1
    have hnl : n ≤ 1000000 := by simp at hl; omega
    have e1 : IntKind.i64.wrap ((n : Int) + 1 - 1) = (n : Int) := by rw [IntWalk.i64_in _ (by omega)]; omega
    have e7 : IntKind.i64.wrap (n : Int) = (n : Int) := IntWalk.i64_in _ (by omega)
    have e2 : (n : Int) < (n : Int) + 1 := by omega
    have e3 : (0 : Int) ≤ (n : Int) := by omega
    have e4 : ((n : Int)).toNat = n := by omega
    have e5 : (0 : Int) < (n : Int) + 1 := by omega
    have e6 : IntKind.i64.wrap (q2 + p2) = q2 + p2 := IntWalk.i64_in _ (by omega)
    have HX := Lib.hid hx
    clear hx hrow hq hl hn
    by_cases he : q1 = p1
    · subst he
      go_enter Tryd.func43, Tryd.ntmps43
      go_wp2_with fail
      go_quiet (fail)
      have x0 : ((w.alloc (.cells #[.int .i64 q1, .int .i64 p2] 27)).drewN nq).cell? ⟨w.heap.size, 1, none⟩ = some (.int .i64 p2) := by go_simp
      have y1 : ((w.alloc (.cells #[.int .i64 q1, .int .i64 p2] 27)).drewN nq).cell? ⟨g, n * 2 + 1, none⟩ = some (.int .i64 q2) := (below_drewN (bel_alloc w _) nq).cell hgs |>.trans g1
      have fz : ((w.alloc (.cells #[.int .i64 q1, .int .i64 p2] 27)).drewN nq).frozen? ⟨g, n * 2 + 1, none⟩ = false := (below_drewN (bel_alloc w _) nq).frozen hgs |>.trans gf
      have HO2 := Lib.hid ((HO.out.alloc (.cells #[.int .i64 q1, .int .i64 p2] 27)).drewN nq)
      have HB := Lib.hid (below_drewN (bel_alloc w (.cells #[.int .i64 q1, .int .i64 p2] 27)) nq)
      generalize hwm : (w.alloc (.cells #[.int .i64 q1, .int .i64 p2] 27)).drewN nq = wm at x0 y1 fz HO2 HB ⊢
      clear hwm hp hqq hnl hcap hbg hbase
      go_wp2_with fail
      go_still_tail 9, (by kernel_rfl)
      change wpList _ _ _ _ _ wm.drew
      have HO3 := Lib.hid HO2.out.drew
      have HB3 := Lib.hid (below_drew HB.out)
      have y1 : wm.drew.cell? ⟨g, n * 2 + 1, none⟩ = some (.int .i64 q2) := y1
      have fz : wm.drew.frozen? ⟨g, n * 2 + 1, none⟩ = false := fz
      generalize wm.drew = wd at HO3 HB3 y1 fz ⊢
      obtain ⟨o5, gr5⟩ := HO3.out.setF encG_len (by simp [HN.out]) HX.out (j := 1) (by omega) (q1, q2 + p2) (.int .i64 (q2 + p2)) rfl
      have HF := Lib.hid (show AddPost base (.slice (some ⟨g, 0, none⟩) (n + 1) cap) (addP (r ++ [(q1, q2)]) (q1, p2)) w (.returned (.slice (some ⟨g, 0, none⟩) (n + 1) cap)) (wd.setCell ⟨g, n * 2 + 1, none⟩ (.int .i64 (q2 + p2))) from by
        refine ⟨_, rfl, ?_, ⟨?_, ?_, ?_, ?_, ?_⟩, .inl rfl⟩
        · rw [addP_snoc, if_pos rfl]
          have : (r ++ [(q1, q2)]).set n (q1, q2 + p2) = r ++ [(q1, q2 + p2)] := by rw [← HN.out]; simp
          rw [← this]; exact o5
        · exact gr5.os.trans HB3.out.os
        · exact gr5.tape.trans HB3.out.tape
        · exact gr5.output.trans HB3.out.output
        · exact Nat.le_trans HB3.out.size gr5.size
        · intro k hk hne
          exact (gr5.block k (Nat.lt_of_lt_of_le hk HB3.out.size) hne).trans (HB3.out.block k hk))
      clear o5 gr5 e1 e2 e3 e4 e5 e7
      go_wp2
      go_ret
      exact HF.out
    · have he' : (q1 == p1) = false := by simp [he]
      have HE := Lib.hid (show addP (r ++ [(q1, q2)]) (p1, p2) = r ++ [(q1, q2)] ++ [(p1, p2)] from by rw [addP_snoc, if_neg (by simpa using he)])
      clear he
      go_enter Tryd.func43, Tryd.ntmps43
      go_wp2_with fail
      go_quiet (fail)
      clear e1 e2 e3 e4 e5 e6 e7
      have hrl : r.length ≤ 1000000 := by have := HN.out; omega
      go_wp2_with (at_builtin; refine wpList_app_at elemPt encG_len encG_one rfl _ _ rfl _ _ rfl rfl (((HO.out.alloc _).drewN nq).alloc _) (new_partM (p := p1) (q := p2) (by simp)) ?q1 ?q2 ?_)
      case q1 => simp; omega
      case q2 => simp; omega
      intro v' w3 ho hg hat
      have HF := Lib.hid (show AddPost base (.slice (some ⟨g, 0, none⟩) (n + 1) cap) (addP (r ++ [(q1, q2)]) (p1, p2)) w (.returned v') w3 from ⟨v', rfl, by rw [HE.out, List.append_assoc]; exact ho, grown_alloc (grown_drewN (grown_alloc hg)), by
        rcases hat with h | h
        · exact .inl h
        · refine .inr ⟨_, h, ?_⟩
          omega⟩)
      clear ho hg hat
      go_wp2
      go_ret
      exact HF.out
end Go.Proofs.YtaplangfppohdaaDoor
namespace Go.Proofs.YtaplangfppohdaaDoor
open Go.RowKit Go.Shelf Go.Maps
attribute [local go_sem] Oper.semAt_some

/-- A map of numbers, by its keys. -/
def mapT (T : Int → Option Int) : Lit → Option Value
  | .int .i64 z => (T z).map (Value.int .i64)
  | _ => none
theorem mapT_upd (T : Int → Option Int) (k : Int) (v : Option Int) : updF (mapT T) (.int .i64 k) (v.map (Value.int .i64)) = mapT (updT T k v) := by
  funext x
  by_cases h : x = .int .i64 k
  · subst h
    rw [updF_same]
    show _ = (updT T k v k).map (Value.int .i64)
    unfold updT; rw [if_pos rfl]
  · rw [updF_ne h]
    unfold mapT
    split
    · rename_i z
      have : z ≠ k := fun e => h (by rw [e])
      unfold updT; rw [if_neg this]
    · rfl
theorem mapT_none : mapT (fun _ => none) = fun _ => none := by
  funext x
  unfold mapT
  split <;> rfl
theorem lawI : Keyed Tryd.prog 3 := int_keyed Tryd.underlying3
theorem zeroI (w : World) : (zeroValue 3).run Tryd.prog w = .ok (.int .i64 0) w := by kernel_rfl
theorem keyI {z : Int} (h : -9223372036854775808 ≤ z ∧ z ≤ 9223372036854775807) : keyOf Tryd.prog 3 (.int .i64 z) = some (.int .i64 z) :=
  keyOf_int_mk Tryd.underlying3 (by simp [Lit.wf, IntKind.min, IntKind.max, IntKind.signed, IntKind.bits]; omega)
theorem mapT_at (T : Int → Option Int) (z : Int) : (mapT T (.int .i64 z)).getD (.int .i64 0) = .int .i64 ((T z).getD 0) ∧ (mapT T (.int .i64 z)).isSome = (T z).isSome := by
  show ((T z).map (Value.int .i64)).getD (.int .i64 0) = _ ∧ ((T z).map (Value.int .i64)).isSome = _
  cases T z <;> exact ⟨rfl, rfl⟩
/-- What 'does' leaves. -/
def DoesPost (b n gl : Nat) (T : Int → Option Int) (e : Ev) (w : World) (r : Ending) (w' : World) : Prop :=
  r = .returned (.bool (doesL gl T e).isSome) ∧ w.grownBy w' (some b) ∧ ∀ T', doesL gl T e = some T' → MpV Tryd.prog 3 w' b (n + 1) (mapT T')
def ev0 (e : Ev) : Array Value := #[.int .i64 e.seq, .int .i64 e.time, .int .u8 e.cpu, .int .u8 e.kind, .int .i64 e.task, .int .i64 e.grp, .int .i64 e.to, .int .i64 e.wt, .int .i64 e.ticks, .int .u64 e.mask, .int .i64 e.got]

set_option maxRecDepth 100000 in
set_option maxHeartbeats 1600000 in
theorem does_ok' (w : World) (b n gl c1 : Nat) (A1 : Option Addr) (T : Int → Option Int) (e : Ev) (h : MpV Tryd.prog 3 w b n (mapT T)) (hn : n < 1000000000) (ho : EvOk e) (hgl : gl ≤ 100000) :
    Calls Tryd.prog 74 #[.map (some b), .slice A1 gl c1, evA e] w (DoesPost b n gl T e w) := by
  have kg := keyI ho.got
  have kt := keyI ho.task
  have m1 := mapT_at T e.got
  have m2 := mapT_at T e.task
  have HM := Lib.hid (h.below (bel_alloc w (.cells (ev0 e) 59)))
  have HG := Lib.hid (show w.grownBy (w.alloc (.cells (ev0 e) 59)) (some b) from ⟨rfl, rfl, rfl, by simp, fun k hk _ => Below.heap_alloc _ _ _ hk⟩)
  have HD := Lib.hid (show DoesPost b n gl T e w = fun r w' => r = .returned (.bool (doesL gl T e).isSome) ∧ w.grownBy w' (some b) ∧ ∀ T', doesL gl T e = some T' → MpV Tryd.prog 3 w' b (n + 1) (mapT T') from rfl)
  have UP := Lib.hid (fun k v => mapT_upd T k v)
  have HT := Lib.hid (show doesL gl T e = _ from by unfold doesL; rfl)
  obtain ⟨hk1, hk2⟩ := ho.kind
  clear h ho
  generalize doesL gl T e = R at HD HT
  generalize DoesPost b n gl T e w = Post at HD ⊢
  obtain ⟨eseq, etime, ecpu, ekind, etask, egrp, eto, ewt, eticks, emask, egot⟩ := e
  unfold evA
  unfold ev0 at HM HG
  dsimp only at *
  have HN := Lib.hid hn
  have HGL := Lib.hid hgl
  clear hn hgl
  obtain ⟨m1, m1'⟩ := m1
  obtain ⟨m2, m2'⟩ := m2
  have KG := Lib.hid kg
  have KT := Lib.hid kt
  have M1 := Lib.hid (And.intro m1 m1')
  have M2 := Lib.hid (And.intro m2 m2')
  clear kg kt m1 m1' m2 m2'
  have HNM := Lib.hid (show n < maxLen from by have := HN.out; unfold maxLen; omega)
  by_cases k1 : ekind = 1
  · subst k1
    cases ht : T etask with
    | some g =>
      have HT2 := Lib.hid (show R = none from by rw [HT.out]; simp [ht])
      have M2' : (mapT T (.int .i64 etask)).isSome = true := by rw [M2.out.2, ht]; rfl
      clear ht HT
      go_enter Tryd.func74, Tryd.ntmps74
      go_wp2_with (at_lookup; first | (refine wpList_look2V (k := 3) (e := 3) (z := .int .i64 0) rfl _ _ (by rfl) lawI Tryd.underlying148 (zeroI _) (by rfl) HM.out _ _ (by rfl) KG.out ?_) | (refine wpList_look2V (k := 3) (e := 3) (z := .int .i64 0) rfl _ _ (by rfl) lawI Tryd.underlying148 (zeroI _) (by rfl) HM.out _ _ (by rfl) KT.out ?_))
      try go_ret
      rw [HD.out]
      exact ⟨by rw [HT2.out]; rfl, HG.out, fun T' h => by rw [HT2.out] at h; cases h⟩
    | none =>
      have M2' : (mapT T (.int .i64 etask)).isSome = false := by rw [M2.out.2, ht]; rfl
      by_cases hgr : (gl : Int) ≤ egrp
      · have HT2 := Lib.hid (show R = none from by rw [HT.out]; simp [hgr])
        clear ht HT
        go_enter Tryd.func74, Tryd.ntmps74
        go_wp2_with (at_lookup; first | (refine wpList_look2V (k := 3) (e := 3) (z := .int .i64 0) rfl _ _ (by rfl) lawI Tryd.underlying148 (zeroI _) (by rfl) HM.out _ _ (by rfl) KG.out ?_) | (refine wpList_look2V (k := 3) (e := 3) (z := .int .i64 0) rfl _ _ (by rfl) lawI Tryd.underlying148 (zeroI _) (by rfl) HM.out _ _ (by rfl) KT.out ?_))
        try go_ret
        rw [HD.out]
        exact ⟨by rw [HT2.out]; rfl, HG.out, fun T' h => by rw [HT2.out] at h; cases h⟩
      · have HT2 := Lib.hid (show R = some (updT T etask (some egrp)) from by rw [HT.out]; simp [ht, hgr])
        have hgd : decide ((gl : Int) ≤ egrp) = false := by simp; omega
        clear ht HT
        go_enter Tryd.func74, Tryd.ntmps74
        go_wp2_with (first | (at_lookup; first | (refine wpList_look2V (k := 3) (e := 3) (z := .int .i64 0) rfl _ _ (by rfl) lawI Tryd.underlying148 (zeroI _) (by rfl) HM.out _ _ (by rfl) KG.out ?_) | (refine wpList_look2V (k := 3) (e := 3) (z := .int .i64 0) rfl _ _ (by rfl) lawI Tryd.underlying148 (zeroI _) (by rfl) HM.out _ _ (by rfl) KT.out ?_)) | (at_mapUpdate; refine wpList_putV (k := 3) (e := 3) rfl _ _ _ (by rfl) lawI Tryd.underlying148 (by rfl) HM.out HNM.out _ _ _ (by rfl) (by rfl) KT.out ?_; intro w2 m2 g2))
        have HF := Lib.hid (And.intro m2 g2)
        clear m2 g2
        go_wp2
        try go_ret
        rw [HD.out]
        refine ⟨by rw [HT2.out]; rfl, grown_alloc HF.out.2, fun T' h => ?_⟩
        rw [HT2.out] at h
        cases h
        rw [← UP.out]; exact HF.out.1
  have d1 : (ekind == 1) = false := by simp [k1]
  by_cases k5 : ekind = 5
  · subst k5
    by_cases hg0 : egot = 0
    · subst hg0
      have HT2 := Lib.hid (show R = some T from by rw [HT.out]; simp)
      clear HT
      go_enter Tryd.func74, Tryd.ntmps74
      go_wp2_with (at_lookup; first | (refine wpList_look2V (k := 3) (e := 3) (z := .int .i64 0) rfl _ _ (by rfl) lawI Tryd.underlying148 (zeroI _) (by rfl) HM.out _ _ (by rfl) KG.out ?_) | (refine wpList_look2V (k := 3) (e := 3) (z := .int .i64 0) rfl _ _ (by rfl) lawI Tryd.underlying148 (zeroI _) (by rfl) HM.out _ _ (by rfl) KT.out ?_))
      try go_ret
      rw [HD.out]
      exact ⟨by rw [HT2.out]; rfl, HG.out, fun T' h => by rw [HT2.out] at h; cases h; exact HM.out.mono (by omega)⟩
    · have dg : (egot == 0) = false := by simp [hg0]
      cases ht : T egot with
      | some g =>
        have HT2 := Lib.hid (show R = some T from by rw [HT.out]; simp [ht])
        have M2' : (mapT T (.int .i64 egot)).isSome = true := by rw [M1.out.2, ht]; rfl
        clear ht HT
        go_enter Tryd.func74, Tryd.ntmps74
        go_wp2_with (at_lookup; first | (refine wpList_look2V (k := 3) (e := 3) (z := .int .i64 0) rfl _ _ (by rfl) lawI Tryd.underlying148 (zeroI _) (by rfl) HM.out _ _ (by rfl) KG.out ?_) | (refine wpList_look2V (k := 3) (e := 3) (z := .int .i64 0) rfl _ _ (by rfl) lawI Tryd.underlying148 (zeroI _) (by rfl) HM.out _ _ (by rfl) KT.out ?_))
        try go_ret
        rw [HD.out]
        exact ⟨by rw [HT2.out]; rfl, HG.out, fun T' h => by rw [HT2.out] at h; cases h; exact HM.out.mono (by omega)⟩
      | none =>
        have HT2 := Lib.hid (show R = none from by rw [HT.out]; simp [ht, hg0])
        have M2' : (mapT T (.int .i64 egot)).isSome = false := by rw [M1.out.2, ht]; rfl
        clear ht HT
        go_enter Tryd.func74, Tryd.ntmps74
        go_wp2_with (at_lookup; first | (refine wpList_look2V (k := 3) (e := 3) (z := .int .i64 0) rfl _ _ (by rfl) lawI Tryd.underlying148 (zeroI _) (by rfl) HM.out _ _ (by rfl) KG.out ?_) | (refine wpList_look2V (k := 3) (e := 3) (z := .int .i64 0) rfl _ _ (by rfl) lawI Tryd.underlying148 (zeroI _) (by rfl) HM.out _ _ (by rfl) KT.out ?_))
        try go_ret
        rw [HD.out]
        exact ⟨by rw [HT2.out]; rfl, HG.out, fun T' h => by rw [HT2.out] at h; cases h⟩
  have d5 : (ekind == 5) = false := by simp [k5]
  by_cases k3 : ekind = 3
  · subst k3
    cases ht : T egot with
    | some g =>
      have HT2 := Lib.hid (show R = some T from by rw [HT.out]; simp [ht])
      have M2' : (mapT T (.int .i64 egot)).isSome = true := by rw [M1.out.2, ht]; rfl
      clear ht HT d1 d5
      go_enter Tryd.func74, Tryd.ntmps74
      go_wp2_with (at_lookup; first | (refine wpList_look2V (k := 3) (e := 3) (z := .int .i64 0) rfl _ _ (by rfl) lawI Tryd.underlying148 (zeroI _) (by rfl) HM.out _ _ (by rfl) KG.out ?_) | (refine wpList_look2V (k := 3) (e := 3) (z := .int .i64 0) rfl _ _ (by rfl) lawI Tryd.underlying148 (zeroI _) (by rfl) HM.out _ _ (by rfl) KT.out ?_))
      try go_ret
      rw [HD.out]
      exact ⟨by rw [HT2.out]; rfl, HG.out, fun T' h => by rw [HT2.out] at h; cases h; exact HM.out.mono (by omega)⟩
    | none =>
      have HT2 := Lib.hid (show R = none from by rw [HT.out]; simp [ht])
      have M2' : (mapT T (.int .i64 egot)).isSome = false := by rw [M1.out.2, ht]; rfl
      clear ht HT d1 d5
      go_enter Tryd.func74, Tryd.ntmps74
      go_wp2_with (at_lookup; first | (refine wpList_look2V (k := 3) (e := 3) (z := .int .i64 0) rfl _ _ (by rfl) lawI Tryd.underlying148 (zeroI _) (by rfl) HM.out _ _ (by rfl) KG.out ?_) | (refine wpList_look2V (k := 3) (e := 3) (z := .int .i64 0) rfl _ _ (by rfl) lawI Tryd.underlying148 (zeroI _) (by rfl) HM.out _ _ (by rfl) KT.out ?_))
      try go_ret
      rw [HD.out]
      exact ⟨by rw [HT2.out]; rfl, HG.out, fun T' h => by rw [HT2.out] at h; cases h⟩
  have d3 : (ekind == 3) = false := by simp [k3]
  by_cases k4 : ekind = 4
  · subst k4
    cases ht : T egot with
    | some g =>
      have HT2 := Lib.hid (show R = some (updT T egot none) from by rw [HT.out]; simp [ht])
      have M2' : (mapT T (.int .i64 egot)).isSome = true := by rw [M1.out.2, ht]; rfl
      clear ht HT d1 d5 d3
      go_enter Tryd.func74, Tryd.ntmps74
      go_wp2_with (first | (at_lookup; first | (refine wpList_look2V (k := 3) (e := 3) (z := .int .i64 0) rfl _ _ (by rfl) lawI Tryd.underlying148 (zeroI _) (by rfl) HM.out _ _ (by rfl) KG.out ?_) | (refine wpList_look2V (k := 3) (e := 3) (z := .int .i64 0) rfl _ _ (by rfl) lawI Tryd.underlying148 (zeroI _) (by rfl) HM.out _ _ (by rfl) KT.out ?_)) | (at_delete; refine wpList_delV (k := 3) (e := 3) rfl _ _ (by rfl) lawI Tryd.underlying148 (by rfl) HM.out _ _ (by rfl) KG.out ?_; intro w2 m2 g2))
      have HF := Lib.hid (And.intro m2 g2)
      clear m2 g2
      go_wp2
      try go_ret
      rw [HD.out]
      refine ⟨by rw [HT2.out]; rfl, grown_alloc HF.out.2, fun T' h => ?_⟩
      rw [HT2.out] at h
      cases h
      rw [← UP.out]; exact HF.out.1.mono (by omega)
    | none =>
      have HT2 := Lib.hid (show R = none from by rw [HT.out]; simp [ht])
      have M2' : (mapT T (.int .i64 egot)).isSome = false := by rw [M1.out.2, ht]; rfl
      clear ht HT d1 d5 d3
      go_enter Tryd.func74, Tryd.ntmps74
      go_wp2_with (first | (at_lookup; first | (refine wpList_look2V (k := 3) (e := 3) (z := .int .i64 0) rfl _ _ (by rfl) lawI Tryd.underlying148 (zeroI _) (by rfl) HM.out _ _ (by rfl) KG.out ?_) | (refine wpList_look2V (k := 3) (e := 3) (z := .int .i64 0) rfl _ _ (by rfl) lawI Tryd.underlying148 (zeroI _) (by rfl) HM.out _ _ (by rfl) KT.out ?_)) | (at_delete; refine wpList_delV (k := 3) (e := 3) rfl _ _ (by rfl) lawI Tryd.underlying148 (by rfl) HM.out _ _ (by rfl) KG.out ?_; intro w2 m2 g2))
      have HF := Lib.hid (And.intro m2 g2)
      clear m2 g2
      go_wp2
      try go_ret
      rw [HD.out]
      exact ⟨by rw [HT2.out]; rfl, grown_alloc HF.out.2, fun T' h => by rw [HT2.out] at h; cases h⟩
  have d4 : (ekind == 4) = false := by simp [k4]
  have HT2 := Lib.hid (show R = some T from by rw [HT.out]; simp [k1, k5, k3, k4])
  clear HT k1 k5 k3 k4
  go_enter Tryd.func74, Tryd.ntmps74
  go_wp2_with (at_lookup; first | (refine wpList_look2V (k := 3) (e := 3) (z := .int .i64 0) rfl _ _ (by rfl) lawI Tryd.underlying148 (zeroI _) (by rfl) HM.out _ _ (by rfl) KG.out ?_) | (refine wpList_look2V (k := 3) (e := 3) (z := .int .i64 0) rfl _ _ (by rfl) lawI Tryd.underlying148 (zeroI _) (by rfl) HM.out _ _ (by rfl) KT.out ?_))
  try go_ret
  rw [HD.out]
  exact ⟨by rw [HT2.out]; rfl, HG.out, fun T' h => by rw [HT2.out] at h; cases h; exact HM.out.mono (by omega)⟩
end Go.Proofs.YtaplangfppohdaaDoor
namespace Go.Proofs.YtaplangfppohdaaDoor
open Go Go.RowKit

section
variable {P : Program} {ops : Array Oper} {Q : Exit → Act → World → Prop} {md : Region.Mode} {S : World → Prop}
theorem wpAnyH_takeU {i : Nat} {d : Option Tmp} {fuel : Nat} {listed : Array Bool} {a : Act} {w : World} (hd : (ops[i]?).map (fun o => (o.dst, Region.wanted o (yielded ops a.tmps))) = some (d, false))
    (hs : Region.noSelect ops = true) (hf : Region.free md ops listed i = true) (hr : (Region.ready md ops listed).contains i = true)
    (hQ : ∀ c a w, Q (.panic c) (a.put d undef) w → Q (.panic c) a w) (hS : S w)
    (h : wpAnyH P md ops Q S fuel (listed.setIfInBounds i true) (a.put d undef) w) : wpAnyH P md ops Q S (fuel + 1) listed a w := by
  obtain ⟨o, ho, he⟩ := Option.map_eq_some_iff.1 hd
  simp only [Prod.mk.injEq] at he
  obtain ⟨rfl, hw⟩ := he
  exact wpAnyH_take ho hs hf hr hQ (.inr ⟨hw, rfl⟩) hS h
theorem wpAnyH_takeW {i : Nat} {d : Option Tmp} {v : Value} {fuel : Nat} {listed : Array Bool} {a : Act} {w : World} (hd : (ops[i]?).map (fun o => (o.dst, Region.wanted o (yielded ops a.tmps))) = some (d, true))
    (hs : Region.noSelect ops = true) (hf : Region.free md ops listed i = true) (hr : (Region.ready md ops listed).contains i = true)
    (hQ : ∀ c a w, Q (.panic c) (a.put d v) w → Q (.panic c) a w) (hy : ∀ o, ops[i]? = some o → ∀ w, S w → (execOp a.eval o).run P w = .ok (.value v) w) (hS : S w)
    (h : wpAnyH P md ops Q S fuel (listed.setIfInBounds i true) (a.put d v) w) : wpAnyH P md ops Q S (fuel + 1) listed a w := by
  obtain ⟨o, ho, he⟩ := Option.map_eq_some_iff.1 hd
  simp only [Prod.mk.injEq] at he
  obtain ⟨rfl, hw⟩ := he
  exact wpAnyH_take ho hs hf hr hQ (.inl ⟨hw, hy o ho⟩) hS h
end
end Go.Proofs.YtaplangfppohdaaDoor
namespace Go.Proofs.YtaplangfppohdaaDoor
open Go.RowKit Go.Shelf Go.Maps
attribute [local go_sem] Oper.semAt_some

/-- A function that takes each tick of a task: J X o w says what it has made of the ticks o in the blocks X. -/
structure RanC (B0 gl : Nat) (W0' : World) (J : (Nat → Prop) → List Rn → World → Prop) (g : Nat) (lb : Array Value) : Prop where
  eg : ∀ args w, (callFunc g args).run Tryd.prog w = .ok (.enter g args) w
  low : ∀ X o w, J X o w → Below B0 W0' w
  blk : ∀ X o w, J X o w → ∀ k, X k → B0 ≤ k ∧ ∃ ob, w.heap[k]? = some ob ∧ isBook ob = false
  stay : ∀ X o w w' T, J X o w → Mod T w w' → (∀ k, T k → B0 ≤ k ∧ ¬ X k) → J X o w'
  call : ∀ X o w e gr, J X o w → EvOk e → o.length < 1000000 → (∀ x ∈ o ++ [⟨e.cpu, e.time, e.ticks, gr⟩], RnOk gl x) → Apart (o ++ [⟨e.cpu, e.time, e.ticks, gr⟩]) → Calls Tryd.prog g (#[evA e, .int .i64 gr] ++ lb) w fun r w' =>
    (∃ v, r = .returned v) ∧ ∃ X', J X' (o ++ [⟨e.cpu, e.time, e.ticks, gr⟩]) w' ∧ (∀ k, X' k → X k ∨ w.heap.size ≤ k) ∧ Mod X w w'
/-- What 'look' leaves. -/
def LookPost (B0 gl : Nat) (W0' : World) (J : (Nat → Prop) → List Rn → World → Prop) (hs : List (Int × Int)) (l : List Ev) (r : Ending) (w' : World) : Prop :=
  r = .returned (.bool (lookL gl hs l).isSome) ∧ Below B0 W0' w' ∧ ∀ o, lookL gl hs l = some o → ∃ X, J X o w'
theorem LookPost.no {B0 gl : Nat} {W0' : World} {J : (Nat → Prop) → List Rn → World → Prop} {hs : List (Int × Int)} {l : List Ev} {w' : World} (h : lookL gl hs l = none) (hb : Below B0 W0' w') :
    LookPost B0 gl W0' J hs l (.returned (.bool false)) w' := ⟨by rw [h]; rfl, hb, fun o ho => by rw [h] at ho; cases ho⟩
/-- The clocks: 64 numbers in block D. -/
def Clk (w : World) (D : Nat) (f : Int → Int) : Prop := ∀ c : Nat, c < 64 → w.cell? ⟨D, c, none⟩ = some (.int .i64 (f c)) ∧ w.frozen? ⟨D, c, none⟩ = false
theorem Clk.same {w w' : World} {D : Nat} {f : Int → Int} (h : Clk w D f) (he : w'.heap[D]? = w.heap[D]?) : Clk w' D f := fun c hc => ⟨(World.cell?_of_block (a := ⟨D, c, none⟩) he).trans (h c hc).1, (World.frozen?_of_block (a := ⟨D, c, none⟩) he).trans (h c hc).2⟩
theorem Clk.set {w : World} {D : Nat} {f : Int → Int} (h : Clk w D f) {c : Nat} (hc : c < 64) (v : Int) : Clk (w.setCell ⟨D, c, none⟩ (.int .i64 v)) D (fun x => if x = (c : Int) then v else f x) := by
  intro q hq
  obtain ⟨h1, h2⟩ := h q hq
  refine ⟨?_, (World.frozen?_setCell _ _ _ _).trans h2⟩
  show _ = some (Value.int .i64 (if (q : Int) = (c : Int) then v else f q))
  by_cases e : q = c
  · subst e
    rw [if_pos rfl]
    exact World.cell?_setCell_same _ _ _ (by rw [h1])
  · rw [if_neg (by omega), World.cell?_setCell_other _ _ _ _ (by simp)]
    exact h1
theorem Clk.lt {w : World} {D : Nat} {f : Int → Int} (h : Clk w D f) : D < w.heap.size := cell_lt (h 0 (by omega)).1
theorem Clk.ne_map {w : World} {D b n : Nat} {f : Int → Int} {P : Program} {k : TypeId} {F : Lit → Option Value} (h : Clk w D f) (hm : MpV P k w b n F) : b ≠ D := by
  rintro rfl
  obtain ⟨o, ho, hc⟩ := cells_of_cell (h 0 (by omega)).1
  obtain ⟨Dd, ⟨es, clock, h1, h2⟩, r⟩ := hm
  rw [h1] at ho
  cases ho
  cases hc
theorem clk_new {w : World} {cs : Array Value} {t : TypeId} (hcs : cs = Array.replicate 64 (.int .i64 0)) : Clk (w.alloc (.cells cs t)) w.heap.size (fun _ => 0) := by
  subst hcs
  intro c hc
  refine ⟨?_, by go_simp⟩
  rw [World.cell?_alloc_at (hn := by simp)]
  simp [hc]
theorem mod_grown {w w' : World} {b : Nat} (h : w.grownBy w' (some b)) : Mod (fun k => k = b) w w' := Mod.grown h (fun g e => by cases e; rfl)
theorem home_none {gl : Nat} {hs : List (Int × Int)} {l : List Ev} {j : Nat} (h : homesR gl (hs.take j) = none) : lookL gl hs l = none := by
  unfold lookL
  rw [show homesR gl hs = none from runO_dead h]; rfl
theorem home_next {gl : Nat} {hs : List (Int × Int)} {j : Nat} {h : Int × Int} {T : Int → Option Int} (hj : hs[j]? = some h) (ht : homesR gl (hs.take j) = some T) : homesR gl (hs.take (j + 1)) = homeS gl T h := by
  unfold homesR at *
  rw [runO_step hj, ht]; rfl
theorem look_none {gl : Nat} {hs : List (Int × Int)} {l : List Ev} {T : Int → Option Int} {j : Nat} (ht : homesR gl hs = some T) (h : runO (stepL gl) (lk0 T) (l.take j) = none) : lookL gl hs l = none := by
  unfold lookL
  rw [ht, Option.bind_some, runO_dead h]; rfl
theorem look_next {gl : Nat} {l : List Ev} {j : Nat} {e : Ev} {s0 s : Lk} (hj : l[j]? = some e) (ht : runO (stepL gl) s0 (l.take j) = some s) : runO (stepL gl) s0 (l.take (j + 1)) = stepL gl s e := by
  rw [runO_step hj, ht]; rfl
theorem run_len {gl : Nat} {l : List Ev} {s0 s : Lk} (h : runO (stepL gl) s0 l = some s) : s.out.length ≤ s0.out.length + l.length := by
  induction l generalizing s0 with
  | nil => rw [runO_nil] at h; cases h; simp
  | cons e r ih =>
    rw [runO_cons] at h
    cases hf : stepL gl s0 e with
    | none => rw [hf] at h; cases h
    | some s1 =>
      rw [hf] at h
      have h1 := ih h
      unfold stepL at hf
      split at hf
      · cases hf
      · obtain ⟨T, _, h2⟩ := Option.map_eq_some_iff.1 hf
        subst h2
        have h3 : (ranOf s0.T e).length ≤ 1 := by unfold ranOf; split <;> simp
        simp only [List.length_append, List.length_cons] at h1 ⊢
        omega
theorem step_bad {gl : Nat} {s : Lk} {e : Ev} (h : chkEv e ≠ 0 ∨ e.seq ≤ s.last ∨ e.time - e.ticks < s.clk e.cpu) : stepL gl s e = none := by unfold stepL; rw [if_pos h]
theorem step_dead {gl : Nat} {s : Lk} {e : Ev} (h : doesL gl s.T e = none) : stepL gl s e = none := by
  unfold stepL
  split
  · rfl
  · rw [h]; rfl
theorem step_good {gl : Nat} {s : Lk} {e : Ev} {T : Int → Option Int} (h0 : chkEv e = 0) (h1 : s.last < e.seq) (h2 : s.clk e.cpu ≤ e.time - e.ticks) (h : doesL gl s.T e = some T) :
    stepL gl s e = some ⟨T, e.seq, fun c => if c = e.cpu then e.time else s.clk c, s.out ++ ranOf s.T e⟩ := by
  unfold stepL
  rw [if_neg (by rintro (h3 | h3 | h3) <;> omega), h]; rfl
end Go.Proofs.YtaplangfppohdaaDoor
