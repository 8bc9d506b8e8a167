/- merge.each: the iterator of the events of several rows | Steps of merge.join: equality of events; maps in a fence; three results in cells. -/
import Derived.Test.YtalophngappkhaaGreatDoorV6
import Derived.Test.YtalophngappkhaaGreatDoorV14
import Derived.Maps.OwnIn
set_option linter.unusedVariables false
set_option linter.unusedSimpArgs false
set_option linter.unusedSectionVars false
namespace Go.Proofs.YtalophngappkhaaGreatDoor
open Go.RowKit Go.Shelf
attribute [local go_sem] Oper.semAt_some

/-- The blocks of w0 are as they were. -/
def LowW (w0 W : World) : Prop := ∀ (k : Nat) (o : Obj), w0.heap[k]? = some o → W.heap[k]? = some o
theorem LowW.cell {w0 W : World} (h : LowW w0 W) {p : Addr} {u : Value} (hc : w0.cell? p = some u) : W.cell? p = some u := by
 obtain ⟨o, ho, _⟩ := cells_of_cell hc
 exact (World.cell?_of_block (w := w0) (by rw [h _ o ho, ho])).trans hc
theorem LowW.ev {α : Type} {enc : α → List Value} {k : Nat} {w0 W : World} {v : Value} {xs : List α} (h : LowW w0 W) (he : EV enc k w0 v xs) : EV enc k W v xs := he.keep fun _ _ hc => h.cell hc
theorem LowW.of_below {w0 W : World} (h : Below w0.heap.size w0 W) : LowW w0 W := fun k o ho => (h.block k (Array.getElem?_eq_some_iff.1 ho).1).trans ho
theorem LowW.alloc {w0 W : World} (h : LowW w0 W) (o : Obj) : LowW w0 (W.alloc o) := fun k x hx => (Below.heap_alloc _ _ _ (Array.getElem?_eq_some_iff.1 (h k x hx)).1).trans (h k x hx)
def ev0 : Ev := ⟨0, 0, 0, 0, 0, 0, 0, 0, 0, 0, 0⟩
def flatR (rows : List (Value × List Ev)) : List Ev := rows.flatMap Prod.snd
theorem flat_at {rows : List (Value × List Ev)} {j q : Nat} {x : Value × List Ev} {e : Ev} (hx : rows[j]? = some x) (he : x.2[q]? = some e) : (flatR rows)[((rows.take j).flatMap Prod.snd).length + q]? = some e := by
 have h1 : flatR rows = (rows.take (j + 1)).flatMap Prod.snd ++ (rows.drop (j + 1)).flatMap Prod.snd := by
  unfold flatR
  rw [← List.flatMap_append, List.take_append_drop]
 have hq := (List.getElem?_eq_some_iff.1 he).1
 rw [h1, tot_cat hx, List.append_assoc, List.getElem?_append_right (by omega), Nat.add_sub_cancel_left, List.getElem?_append_left hq]
 exact he
set_option maxRecDepth 100000 in
set_option maxHeartbeats 1600000 in
theorem each1_iter (w0 w : World) (B : Nat) (v : Value) (rows : List (Value × List Ev)) (h1 : w.cell? ⟨B, 0, none⟩ = some v) (hlow : LowW w0 w) (hv : EV encVs 1 w0 v rows) (hx : ∀ x ∈ rows, EV encE 11 w0 x.1 x.2) (hm : rows.length ≤ 1000000000) (hr : ∀ x ∈ rows, x.2.length ≤ 1000000000) :
  Iter Tryz.prog 112 #[.pointer (some ⟨B, 0, none⟩)] (fun k => #[evA ((flatR rows)[k]?.getD ev0)]) (flatR rows).length (fun k => k < w0.heap.size ∨ k = B) (fun _ => False) w := by
 intro l J Jx W hsz hW hJ hJx hY h0
 have H1 : W.cell? ⟨B, 0, none⟩ = some v := by
  obtain ⟨o, ho, _⟩ := cells_of_cell h1
  exact (World.cell?_of_block (w := w) (by rw [hW _ o ho (.inr rfl), ho])).trans h1
 have HLOW := Lib.hid (show LowW w0 W from fun k o ho => hW k o (hlow k o ho) (.inl (Array.getElem?_eq_some_iff.1 ho).1))
 clear h1 hW hsz hlow
 have hd0 : W0.depth = none := rfl
 have hfn : ∀ f, W0.fn f := fun _ => trivial
 obtain ⟨A, c, rfl⟩ := hv.shape
 have HV := Lib.hid hv
 have HX := Lib.hid hx
 have HRL := Lib.hid hr
 obtain ⟨m, hmm⟩ : ∃ m, m = rows.length := ⟨_, rfl⟩
 have HM := Lib.hid hmm
 rw [← hmm] at H1 hm
 obtain ⟨N, hN⟩ : ∃ N, N = (flatR rows).length := ⟨_, rfl⟩
 have HN := Lib.hid hN
 rw [← hN] at hY ⊢
 have HY := Lib.hid hY
 have HJJ := Lib.hid hJ
 have H0 := Lib.hid h0
 have HTM := Lib.hid (fun j => tot_le rows j)
 clear hv hx hr hmm hN hY hJ hJx h0
 refine callsIn_of_wp Tryz.func112 rfl trivial ?_ rfl
 simp only [Tryz.ntmps112, List.size_toArray, List.length_cons, List.length_nil, Nat.reduceAdd, Nat.reduceSub, Array.replicate_succ, Array.replicate_zero, List.push_toArray, List.append_toArray, List.nil_append, List.cons_append]
 gi_wp2
 clear H1
 gi_loopg [9] m (fun g i wr => ∃ j : Nat, j + g = m ∧ i = .int .i64 j ∧ J ((rows.take j).flatMap Prod.snd).length wr ∧ LowW w0 wr)
 case atStart => exact ⟨0, by omega, rfl, H0.out, HLOW.out⟩
 case round =>
  clear HLOW H0
  obtain ⟨j, hj, rfl, hjj, hlow⟩ := hrel
  have HJ := Lib.hid hj
  have HJS := Lib.hid hjj
  have HLW := Lib.hid hlow
  clear hj hjj hlow
  by_cases hlt : j < m
  ·obtain ⟨b, off, c', hvv, -, rr⟩ := (HLW.out.ev HV.out).row (by rw [← HM.out]; omega)
   simp only [Value.slice.injEq] at hvv
   obtain ⟨rfl, -, rfl⟩ := hvv
   obtain ⟨x, hx⟩ : ∃ x, rows[j]? = some x := ⟨_, List.getElem?_eq_getElem (by rw [← HM.out]; exact hlt)⟩
   have cx := rr.vs hx
   have HXX := Lib.hid hx
   have HXE := Lib.hid (HX.out x (List.mem_of_getElem? hx))
   have HST := Lib.hid (tot_step hx)
   have hrl := HRL.out x (List.mem_of_getElem? hx)
   obtain ⟨A2, c2, hA2⟩ := HXE.out.shape
   obtain ⟨xv, xl⟩ := x
   dsimp only at hA2 hrl
   subst hA2
   obtain ⟨L, hL⟩ : ∃ L, L = xl.length := ⟨_, rfl⟩
   have HL := Lib.hid hL
   dsimp only at cx
   rw [← hL] at cx hrl
   clear hx rr hL
   obtain ⟨wo, rfl⟩ : ∃ wo, wo = wr := ⟨_, rfl⟩
   gi_wp2
   clear cx
   gi_loopg [15] L (fun g i wq => ∃ q : Nat, q + g = L ∧ i = .int .i64 q ∧ J (((rows.take j).flatMap Prod.snd).length + q) wq ∧ LowW w0 wq)
   case atStart => exact ⟨0, by omega, rfl, HJS.out, HLW.out⟩
   case round =>
    obtain ⟨q, hq, rfl, hjq, hlq⟩ := hrel
    have HQ := Lib.hid hq
    have HLQ := Lib.hid hlq
    clear hq hlq
    by_cases hlq : q < L
    ·obtain ⟨b2, off2, c3, hv2, -, rr2⟩ := (HLQ.out.ev HXE.out).row (by rw [← HL.out]; omega)
     simp only [Value.slice.injEq] at hv2
     obtain ⟨rfl, -, rfl⟩ := hv2
     obtain ⟨e, he⟩ : ∃ e, xl[q]? = some e := ⟨_, List.getElem?_eq_getElem (by rw [← HL.out]; exact hlq)⟩
     obtain ⟨g0, g1, g2, g3, g4, g5, g6, g7, g8, g9, g10⟩ := rr2.ev he
     have hfl := flat_at HXX.out he
     have hkN := (List.getElem?_eq_some_iff.1 hfl).1
     rw [← HN.out] at hkN
     have hJa := HJJ.out _ wr (wr.alloc (.cells #[.int .i64 e.seq, .int .i64 e.time, .int .u8 e.cpu, .int .u8 e.kind, .int .i64 e.task, .int .i64 e.grp, .int .i64 e.to, .int .i64 e.wt, .int .i64 e.ticks, .int .u64 e.mask, .int .i64 e.got] 28)) hjq (Mod.alloc _)
     have hYk := HY.out _ _ hkN hJa
     simp only [hfl, Option.getD_some] at hYk
     unfold evA at hYk
     have HLA := Lib.hid (HLQ.out.alloc (.cells #[.int .i64 e.seq, .int .i64 e.time, .int .u8 e.cpu, .int .u8 e.kind, .int .i64 e.task, .int .i64 e.grp, .int .i64 e.to, .int .i64 e.wt, .int .i64 e.ticks, .int .u64 e.mask, .int .i64 e.got] 28))
     have HEV := Lib.hid (evp_new wr e)
     obtain ⟨fn, tmps, assign, body, hy, hR⟩ := hYk
     have HR := Lib.hid hR
     clear hR hfl hJa hjq rr2 he
     obtain ⟨e0, e1, e2, e3, e4, e5, e6, e7, e8, e9⟩ : _ ∧ _ ∧ _ ∧ _ ∧ _ ∧ _ ∧ _ ∧ _ ∧ _ ∧ _ := ⟨HEV.out.c0, HEV.out.c1, HEV.out.c2, HEV.out.c3, HEV.out.c4, HEV.out.c5, HEV.out.c6, HEV.out.c7, HEV.out.c8, HEV.out.c9⟩
     have e10 := HEV.out.c10
     gi_wp2
     refine HR.out.mono ?_
     rintro ex W' ⟨hsz, hS, hres⟩
     have HL2 := Lib.hid (show LowW w0 W' from fun k o ho => hS k o (HLA.out k o ho) (.inl (Array.getElem?_eq_some_iff.1 ho).1))
     clear hy HR hS e0 e1 e2 e3 e4 e5 e6 e7 e8 e9 e10 g0 g1 g2 g3 g4 g5 g6 g7 g8 g9 g10 HEV hsz
     rcases hres with ⟨rfl, hj'⟩ | ⟨rfl, hjx⟩
     ·have HJ2 := Lib.hid hj'
      clear hj'
      gi_wp2
      gi_roundg (L - (q + 1))
      case measure => have := HQ.out; omega
      case rel => exact ⟨q + 1, by have := HQ.out; omega, by go_num, HJ2.out, HL2.out⟩
     ·have HJ2 := Lib.hid hjx
      clear hjx
      gi_wp2
      refine bodyPost_ret (results_none rfl _ _ _) rfl ?_
      exact ⟨⟨_, rfl⟩, .inr HJ2.out⟩
    ·obtain rfl : L = q := by have := HQ.out; omega
     have HJN := Lib.hid (show J ((rows.take (j + 1)).flatMap Prod.snd).length wr from by rw [HST.out]; rw [← HL.out]; exact hjq)
     clear hjq
     gi_wp2
     gi_roundg (m - (j + 1))
     case measure => have := HJ.out; omega
     case rel => exact ⟨j + 1, by have := HJ.out; omega, by go_num, HJN.out, HLQ.out⟩
  ·obtain rfl : m = j := by have := HJ.out; omega
   have HJN := Lib.hid (show J N wr from by
    have := HJS.out
    rw [List.take_of_length_le (show rows.length ≤ m by rw [HM.out]; exact Nat.le_refl _)] at this
    rw [HN.out]; exact this)
   gi_wp2
   go_end0
   exact ⟨⟨_, rfl⟩, .inl HJN.out⟩
theorem each_ok (w : World) (A : Option Addr) (n c : Nat) :
  CallsIn W0 0 Tryz.prog 84 #[.slice A n c] w fun e w' => e = .returned (.func (.func 112) #[] #[.pointer (some ⟨w.heap.size, 0, none⟩)]) ∧ w.alloc (Obj.cells #[.slice A n c] 41) = w' := by
 have hd0 : W0.depth = none := rfl
 have hfn : ∀ f, W0.fn f := fun _ => trivial
 refine callsIn_of_wp Tryz.func84 rfl trivial ?_ rfl
 simp only [Tryz.ntmps84, List.size_toArray, List.length_cons, List.length_nil, Nat.reduceAdd, Nat.reduceSub, Array.replicate_succ, Array.replicate_zero, List.push_toArray, List.append_toArray, List.nil_append, List.cons_append]
 gi_wp2
 go_ret
 exact ⟨rfl, rfl⟩
end Go.Proofs.YtalophngappkhaaGreatDoor
namespace Go.Proofs.YtalophngappkhaaGreatDoor
open Go.RowKit Go.Shelf
attribute [local go_sem] Oper.semAt_some
set_option maxRecDepth 100000 in
theorem ev_neq (x e : Ev) (w : World) : (binOp .neq 28 (evA x) (evA e)).run Tryz.prog w = .ok (.bool (!decide (x = e))) w := by
 unfold evA
 go_simp
 by_cases h : x = e
 ·subst h
  simp
 ·have hd : decide (x = e) = false := by simpa using h
  simp only [hd, Bool.not_false]
  repeat' split
  all_goals first | rfl | (exfalso; apply h; cases x; cases e; simp only at *; subst_vars; rfl)
theorem results_cell3 {fn : Func} {p q r : Tmp} {t1 t2 t3 : TypeId} (h : fn.results = #[.cell p t1, .cell q t2, .cell r t3]) (tmps : Array Value) (P : Program) (w : World) {X Y Z : Addr} {u v z : Value}
  (h1 : tmps.getD p undef = .pointer (some X)) (h2 : tmps.getD q undef = .pointer (some Y)) (h3 : tmps.getD r undef = .pointer (some Z))
  (l1 : (loadVar t1 X).run P w = .ok u w) (l2 : (loadVar t2 Y).run P w = .ok v w) (l3 : (loadVar t3 Z).run P w = .ok z w) : (results fn tmps).run P w = .ok (.tuple #[u, v, z]) w := by
 have h1' : tmps[p]?.getD undef = .pointer (some X) := by simpa using h1
 have h2' : tmps[q]?.getD undef = .pointer (some Y) := by simpa using h2
 have h3' : tmps[r]?.getD undef = .pointer (some Z) := by simpa using h3
 simp [results, h, Sem.run_bind, h1', h2', h3', asAddr, l1, l2, l3, Result.andThen]
theorem load_one {t : TypeId} {w : World} {X : Nat} {v : Value} (ha : (isAgg t).run Tryz.prog w = .ok false w) (hs : (Go.sizeOf t).run Tryz.prog w = .ok 1 w) (hc : w.cell? ⟨X, 0, none⟩ = some v) : (loadVar t ⟨X, 0, none⟩).run Tryz.prog w = .ok v w := by
 unfold loadVar
 simp [Sem.run_bind, ha, hs, Result.andThen, loadCells, loadCellsFrom, go_sem, hc]
theorem load_sev {w : World} {X : Nat} {v : Value} (hc : w.cell? ⟨X, 0, none⟩ = some v) : (loadVar 22 ⟨X, 0, none⟩).run Tryz.prog w = .ok v w := load_one (by kernel_rfl) (by kernel_rfl) hc
theorem load_sint {w : World} {X : Nat} {v : Value} (hc : w.cell? ⟨X, 0, none⟩ = some v) : (loadVar 32 ⟨X, 0, none⟩).run Tryz.prog w = .ok v w := load_one (by kernel_rfl) (by kernel_rfl) hc
theorem load_errno {w : World} {X : Nat} {v : Value} (hc : w.cell? ⟨X, 0, none⟩ = some v) : (loadVar 46 ⟨X, 0, none⟩).run Tryz.prog w = .ok v w := load_one (by kernel_rfl) (by kernel_rfl) hc
open Go.Maps in
theorem MpV.chg {P : Program} {k : TypeId} {w w' : World} {b n B0 : Nat} {F : Lit → Option Value} {T : Nat → Prop} (h : MpV P k w b n F) (hc : Chg B0 T w w') (ht : ¬ T b) : MpV P k w' b n F := by
 obtain ⟨D, ⟨es, clock, h1, h2⟩, r⟩ := h
 exact ⟨D, ⟨es, clock, hc.block b _ h1 ht (.inr rfl), h2⟩, r⟩
section
variable {F : Fence} {nF : Nat} {P : Program} {w : World} {ops : Array Oper} {rest : List Oper} {o : Oper} {a : Act} {Q : Exit → Act → World → Prop} {k e t : TypeId} {b n : Nat} {G : Lit → Option Value}
open Go.Maps in
theorem wpListIn_look2V (hg : o.guard = none) (m x : Operand) (hop : o.op = Op.lookup t m x true) (K : Keyed P k) (ht : P.underlying t = some (.map k e)) {z : Value} (hz : (zeroValue e).run P w = .ok z w) (hm : a.eval m = .map (some b)) (h : MpV P k w b n G)
  (key : Value) (kl : Lit) (hx : a.eval x = key) (hkey : keyOf P k key = some kl) (hK : wpListIn F nF P ops Q rest (a.put o.dst (.tuple #[(G kl).getD z, .bool (G kl).isSome])) w) : wpListIn F nF P ops Q (o :: rest) a w := by
 refine wpListIn_plain hg fun K' hK' => ?_
 unfold Oper.wpIn
 refine ⟨by simp [Oper.about, hop], ?_⟩
 rw [Oper.semAt_plain F _ _ (by rw [hop]; intro c hc'; cases hc')]
 simp [execOp, hop, hm, hx, h.look2 K ht hz hkey, Result.andThen]
 exact hK' _ _ hK
open Go.Maps in
theorem wpListIn_putV (hg : o.guard = none) (m x v : Operand) (hop : o.op = Op.mapUpdate t m x v) (K : Keyed P k) (ht : P.underlying t = some (.map k e)) (hm : a.eval m = .map (some b)) (h : MpV P k w b n G) (hn : n < maxLen)
  (key val : Value) (kl : Lit) (hx : a.eval x = key) (hv : a.eval v = val) (hkey : keyOf P k key = some kl) (hK : ∀ w', MpV P k w' b (n + 1) (updF G kl (some val)) → w.grownBy w' (some b) → wpListIn F nF P ops Q rest (a.put o.dst undef) w') : wpListIn F nF P ops Q (o :: rest) a w := by
 refine wpListIn_plain hg fun K' hK' => ?_
 obtain ⟨w', hr, h1, h2⟩ := h.store K ht hn hkey val
 unfold Oper.wpIn
 refine ⟨by simp [Oper.about, hop], ?_⟩
 rw [Oper.semAt_plain F _ _ (by rw [hop]; intro c hc'; cases hc')]
 simp [execOp, hop, hm, hx, hv, hr, Result.andThen]
 exact hK' _ _ (hK w' h1 h2)
end
/-- What the map of merge.join holds. -/
def mapJ (out : List Ev) : Lit → Option Value
 | .int .i64 n => (fndS out n).map evA
 | _ => none
theorem mapJ_nil : mapJ [] = fun _ => none := by
 funext x
 unfold mapJ
 split <;> rfl
theorem mapJ_at (out : List Ev) (n : Int) : mapJ out (.int .i64 n) = (fndS out n).map evA := rfl
theorem fnd_snoc {out : List Ev} {e : Ev} (h : fndS out e.seq = none) (n : Int) : fndS (out ++ [e]) n = if n = e.seq then some e else fndS out n := by
 unfold fndS at *
 rw [List.find?_append]
 by_cases hn : n = e.seq
 ·subst hn
  rw [h, if_pos rfl]; simp
 ·rw [if_neg hn]
  have : List.find? (fun x => decide (x.seq = n)) [e] = none := by simp; exact fun h => hn h.symm
  rw [this, Option.or_none]
theorem mapJ_put {out : List Ev} {e : Ev} (h : fndS out e.seq = none) : updF (mapJ out) (.int .i64 e.seq) (some (evA e)) = mapJ (out ++ [e]) := by
 funext x
 by_cases hx : x = .int .i64 e.seq
 ·subst hx
  rw [updF_same, mapJ_at, fnd_snoc h, if_pos rfl]; rfl
 ·rw [updF_ne hx]
  unfold mapJ
  split
  ·rename_i n
   rw [fnd_snoc h, if_neg (fun e => hx (by rw [e]))]
  ·rfl
theorem lawI : Go.Maps.Keyed Tryz.prog 3 := Go.Maps.int_keyed Tryz.underlying3
theorem keyI {z : Int} (h : -9223372036854775808 ≤ z ∧ z ≤ 9223372036854775807) : keyOf Tryz.prog 3 (.int .i64 z) = some (.int .i64 z) :=
 Go.Maps.keyOf_int_mk Tryz.underlying3 (by simp [Lit.wf, IntKind.min, IntKind.max, IntKind.signed, IntKind.bits]; omega)
theorem zeroEv (w : World) : (zeroValue 28).run Tryz.prog w = .ok (evA ev0) w := by kernel_rfl
end Go.Proofs.YtalophngappkhaaGreatDoor
