/- codec.Put: the record of a right event against a right base | crc: run, Update, Sum, Seal | crc.Seal | codec.Row: whether a list of events is a row. -/
import Derived.Test.YtalophngappkhaaGreatDoorV6
import Derived.Test.YtalophngappkhaaGreatDoorV5
import Derived.Laws.MakeOwn
set_option linter.unusedVariables false
set_option linter.unusedSimpArgs false
set_option linter.unusedSectionVars false
namespace Go.Proofs.YtalophngappkhaaGreatDoor
open Go.RowKit Go.Shelf
attribute [local go_sem] Oper.semAt_some

theorem bstep {w a b : World} (h : Below w.heap.size w a) (k : Below a.heap.size a b) : Below w.heap.size w b := h.trans (k.mono h.size)
/-- Two numbers, and others behind them. -/
theorem litM2 {m : Nat} {w : World} {a b : Nat} {base : Nat} (hm : w.heap.size = m) (hb : base ≤ m) : OV encN 1 26 base (w.alloc (.cells #[.int .u64 (a : Nat), .int .u64 (b : Nat)] 26)) (.slice (some ⟨m, 0, none⟩) 2 2) [a, b] := by
 subst hm
 exact OV.lit w _ 2 hb (by unfold maxLen; omega) rfl rfl rfl
theorem litB1 {m : Nat} {w : World} {a : Nat} {base : Nat} (hm : w.heap.size = m) (hb : base ≤ m) : OV encB 1 5 base (w.alloc (.cells #[.int .u8 (a : Nat)] 5)) (.slice (some ⟨m, 0, none⟩) 1 1) [a] := by
 subst hm
 exact OV.lit w _ 1 hb (by unfold maxLen; omega) rfl rfl rfl
set_option maxRecDepth 100000 in
set_option maxHeartbeats 3200000 in
theorem put_ev (w : World) (s t : Int) (e : Ev) (ho : EvOk e) (hU : UsesAt w) (hc : chkEv e = 0) (hr : rgtB s t) (h1 : s ≤ e.seq) (h2 : t ≤ e.time) (h3 : e.seq ≤ 281474976710656) (h4 : e.time ≤ 281474976710656) (hk : 0 ≤ e.kind) :
  Calls Tryz.prog 134 #[baseA s t, evA e] w fun r w' => ∃ v, r = .returned (.tuple #[v, .int .i64 0]) ∧ OV encB 1 5 w.heap.size w' v (recE s t e) ∧ Below w.heap.size w w' := by
 have HV := Lib.hid (fun W (h : UsesAt W) => evvals_ok W e ho h)
 have HR := Lib.hid (fun W => bright_ok W s t hr)
 have HB := Lib.hid (fun W => behind_ok W s t e h1 h2)
 rw [hc] at HV
 rw [if_pos rfl] at HV
 have HA := Lib.hid (bel_alloc2 w (.cells #[.int .i64 s, .int .i64 t] 175) (.cells #[.int .i64 e.seq, .int .i64 e.time, .int .u8 e.cpu, .int .u8 e.kind, .int .i64 e.task, .int .i64 e.grp, .int .i64 e.to, .int .i64 e.wt, .int .i64 e.ticks, .int .u64 e.mask, .int .i64 e.got] 28))
 have HP := Lib.hid (evp_new (w.alloc (.cells #[.int .i64 s, .int .i64 t] 175)) e)
 have HU := Lib.hid (hU.below HA.out)
 obtain ⟨a, ha⟩ : ∃ a, a = (e.seq - s).toNat := ⟨_, rfl⟩
 obtain ⟨b, hb⟩ : ∃ b, b = (e.time - t).toNat := ⟨_, rfl⟩
 obtain ⟨kd, hkd⟩ : ∃ kd, kd = e.kind.toNat := ⟨_, rfl⟩
 obtain ⟨r1, r2, r3, r4⟩ := hr
 have A1 := Lib.hid (show e.seq - s = (a : Nat) by omega)
 have B1 := Lib.hid (show e.time - t = (b : Nat) by omega)
 have K1 := Lib.hid (show e.kind = (kd : Nat) by omega)
 have AL := Lib.hid (show a < 18446744073709551616 ∧ b < 18446744073709551616 by omega)
 obtain ⟨Y, hY⟩ : ∃ Y, Y = vall (a :: b :: valsE e) := ⟨_, rfl⟩
 have HY := Lib.hid hY
 have HRE := Lib.hid (show recE s t e = kd :: Y by rw [hY, ha, hb, hkd]; rfl)
 rw [HRE.out]
 have w1 : wrap64 (e.seq - s) = (a : Nat) := by rw [A1.out]; exact IntWalk.wrap64_in _ (by omega)
 have w2 : wrap64 (e.time - t) = (b : Nat) := by rw [B1.out]; exact IntWalk.wrap64_in _ (by omega)
 have w3 : IntKind.u64.wrap (a : Int) = (a : Nat) := IntWalk.u64_in _ (by omega)
 have w4 : IntKind.u64.wrap (b : Int) = (b : Nat) := IntWalk.u64_in _ (by omega)
 have CB := Lib.hid (show ∀ (i : Nat) (u : Value), [Value.int .i64 s, Value.int .i64 t][i]? = some u → ((w.alloc (.cells #[.int .i64 s, .int .i64 t] 175)).alloc (.cells #[.int .i64 e.seq, .int .i64 e.time, .int .u8 e.cpu, .int .u8 e.kind, .int .i64 e.task, .int .i64 e.grp, .int .i64 e.to, .int .i64 e.wt, .int .i64 e.ticks, .int .u64 e.mask, .int .i64 e.got] 28)).cell? ⟨w.heap.size, i, none⟩ = some u from fun i u hu => by
  have q := cell_of_row (w.alloc (.cells #[.int .i64 s, .int .i64 t] 175)) w.heap.size i _ _ (0, 0) (heap_alloc_new w _)
  rw [World.cell?_alloc_lt _ _ _ (by simp), q]
  simpa using hu)
 clear ho hU hc r1 r2 r3 r4 h1 h2 h3 h4 hk ha hb hkd hY
 unfold evA at HV HB ⊢
 unfold baseA at HR HB ⊢
 go_enter Tryz.func134, Tryz.ntmps134
 go_upto_region 1 with fail
 have hp := HP.out
 have hu := HU.out
 have ha := HA.out
 have cb := CB.out
 rw [World.size_alloc] at hp
 clear HP HU HA CB
 generalize (w.alloc (.cells #[.int .i64 s, .int .i64 t] 175)).alloc (.cells #[.int .i64 e.seq, .int .i64 e.time, .int .u8 e.cpu, .int .u8 e.kind, .int .i64 e.task, .int .i64 e.grp, .int .i64 e.to, .int .i64 e.wt, .int .i64 e.ticks, .int .u64 e.mask, .int .i64 e.got] 28) = wa at hp hu ha cb ⊢
 obtain ⟨P, hP⟩ : ∃ P, w.heap.size = P := ⟨_, rfl⟩
 have HBA := Lib.hid ha
 rw [hP] at hp cb ⊢
 clear ha hP
 have d0 := cb 0 _ rfl
 have d1 := cb 1 _ rfl
 have HPA := Lib.hid hp
 obtain ⟨c0, c1, c2, c3, c4, c5, c6, c7, c8, c9⟩ : _ ∧ _ ∧ _ ∧ _ ∧ _ ∧ _ ∧ _ ∧ _ ∧ _ ∧ _ := ⟨hp.c0, hp.c1, hp.c2, hp.c3, hp.c4, hp.c5, hp.c6, hp.c7, hp.c8, hp.c9⟩
 have c10 := hp.c10
 have HCB := Lib.hid cb
 clear hp cb
 go_wp2_with fail
 refine (HV.out _ hu).mono ?_
 rintro r wb ⟨v6, rfl, o6, b1⟩
 have HO6 := Lib.hid o6
 have HB1 := Lib.hid b1
 clear hu c0 c1 c2 c3 c4 c5 c6 c7 c8 c9 c10 d0 d1
 have d0 := below_cell b1 (HCB.out 0 _ rfl)
 have d1 := below_cell b1 (HCB.out 1 _ rfl)
 clear o6 b1 HV
 obtain ⟨A6, n6, rfl⟩ := (HO6.out.ev encN_len).shape
 go_wp2_with fail
 refine (HR.out _).mono ?_
 rintro r wc ⟨rfl, b2⟩
 have HB2 := Lib.hid b2
 have hpc := (HPA.out.below HB1.out HPA.out.lt).below b2 (Nat.lt_of_lt_of_le HPA.out.lt HB1.out.size)
 obtain ⟨c0, c1, c2, c3, c4, c5, c6, c7, c8, c9⟩ : _ ∧ _ ∧ _ ∧ _ ∧ _ ∧ _ ∧ _ ∧ _ ∧ _ ∧ _ := ⟨hpc.c0, hpc.c1, hpc.c2, hpc.c3, hpc.c4, hpc.c5, hpc.c6, hpc.c7, hpc.c8, hpc.c9⟩
 have c10 := hpc.c10
 have e0 := below_cell b2 d0
 have e1 := below_cell b2 d1
 have HPC := Lib.hid hpc
 clear b2 d0 d1 HR hpc
 go_wp2_with fail
 refine (HB.out _).mono ?_
 rintro r wd ⟨rfl, b3⟩
 have HB3 := Lib.hid b3
 have hpd := HPC.out.below b3 HPC.out.lt
 have HPD := Lib.hid hpd
 have f0 := below_cell b3 e0
 have f1 := below_cell b3 e1
 have g0 := hpd.c0
 have g1 := hpd.c1
 have HO6d := Lib.hid ((HO6.out.below HB2.out).below HB3.out)
 have HBD := Lib.hid (bstep (bstep (bstep HBA.out HB1.out) HB2.out) HB3.out)
 clear b3 e0 e1 c0 c1 c2 c3 c4 c5 c6 c7 c8 c9 c10 HB hpd HPC HB1 HB2 HB3 HO6 HPA HCB HBA
 go_wp2_with (at_builtin; refine wpList_app elemN encN_len encN_one rfl _ _ rfl _ _ rfl rfl (litM2 (base := w.heap.size) rfl HBD.out.size) ((HO6d.out.alloc _).ev encN_len) ?q1 ?q2 ?_)
 case q1 => have := valsE_len e; simp; omega
 case q2 => have := HBD.out.size; simp; omega
 intro v8 we o8 g8
 have r5 : Below w.heap.size w (wd.alloc (.cells #[.int .u64 (a : Nat), .int .u64 (b : Nat)] 26)) := HBD.out.alloc HBD.out.size _
 have HBE := Lib.hid (r5.grown g8 r5.size (fun k hk => by simp [Value.ownBlock] at hk; have := HBD.out.size; omega))
 have hpe := HPD.out.below (bel_alloc wd (.cells #[.int .u64 (a : Nat), .int .u64 (b : Nat)] 26)) HPD.out.lt
 have c3 : we.cell? ⟨P + 1, 3, none⟩ = some (.int .u8 (kd : Nat)) := (World.cell?_of_block (a := ⟨P + 1, 3, none⟩) (g8.block (P + 1) hpe.lt (fun e => by simp [Value.ownBlock] at e; have := HPD.out.lt; omega))).trans (K1.out ▸ hpe.c3)
 have C3 := Lib.hid c3
 have HE8 := Lib.hid (o8.ev encN_len)
 clear r5 g8 hpe o8 f0 f1 g0 g1 HPD HO6d HBD c3
 obtain ⟨A8, n8, rfl⟩ := HE8.out.shape
 obtain ⟨L8, hL8⟩ : ∃ L, (a :: b :: valsE e).length = L := ⟨_, rfl⟩
 rw [hL8] at HE8
 simp only [hL8]
 have HX8 : ∀ x ∈ a :: b :: valsE e, x < 18446744073709551616 := by
  intro x hx
  simp only [List.mem_cons] at hx
  rcases hx with rfl | rfl | hx
  ·exact AL.out.1
  ·exact AL.out.2
  ·exact valsE_lt e x hx
 have HXX := Lib.hid HX8
 have HLL := Lib.hid (show (a :: b :: valsE e).length ≤ 10000 by have := valsE_len e; simp; omega)
 have HVY := Lib.hid (show Y = vall (a :: b :: valsE e) from HY.out)
 have HYL := Lib.hid (show Y.length ≤ 100 by
  have q1 := vall_len _ HX8
  have q2 := valsE_len e
  rw [← HVY.out] at q1
  simp at q1; omega)
 clear HX8 hL8 HY HRE
 go_wp2_with fail
 refine wp_region_dag (by kernel_rfl) 8 rfl (fun i => i == 2 || i == 4 || i == 5 || i == 6) (fun x => ⟨#[.agg #[.int .i64 s, .int .i64 t], .agg #[.int .i64 e.seq, .int .i64 e.time, .int .u8 e.cpu, .int .u8 e.kind, .int .i64 e.task, .int .i64 e.grp, .int .i64 e.to, .int .i64 e.wt, .int .i64 e.ticks, .int .u64 e.mask, .int .i64 e.got], .pointer (some ⟨P, 0, none⟩), .pointer (some ⟨P + 1, 0, none⟩), x 6, x 7, .slice A6 (valsE e).length n6, .int .i64 0, .slice A8 L8 n8, .tuple #[.slice A6 (valsE e).length n6, .int .i64 0], .agg #[.int .i64 e.seq, .int .i64 e.time, .int .u8 e.cpu, .int .u8 e.kind, .int .i64 e.task, .int .i64 e.grp, .int .i64 e.to, .int .i64 e.wt, .int .i64 e.ticks, .int .u64 e.mask, .int .i64 e.got], .tuple #[.slice A6 (valsE e).length n6, .int .i64 0], .slice A6 (valsE e).length n6, .int .i64 0, .int .i64 0, .bool false, undef, .agg #[.int .i64 s, .int .i64 t], .bool true, .bool false, .bool false, .agg #[.int .i64 s, .int .i64 t], .agg #[.int .i64 e.seq, .int .i64 e.time, .int .u8 e.cpu, .int .u8 e.kind, .int .i64 e.task, .int .i64 e.grp, .int .i64 e.to, .int .i64 e.wt, .int .i64 e.ticks, .int .u64 e.mask, .int .i64 e.got], .bool true, .bool false, .bool false, .pointer (some ⟨P + 1, 0, none⟩), .int .i64 e.seq, .pointer (some ⟨P, 0, none⟩), .int .i64 s, .int .i64 (a : Nat), .int .u64 (a : Nat), .pointer (some ⟨P + 1, 1, none⟩), .int .i64 e.time, .pointer (some ⟨P, 1, none⟩), .int .i64 t, .int .i64 (b : Nat), .int .u64 (b : Nat), .slice (some ⟨wd.heap.size, 0, none⟩) 2 2, .slice A6 (valsE e).length n6, .slice A8 L8 n8, x 0, x 1, x 2, x 3, x 4, x 5], []⟩) (fun iF vF => match iF with | 0 => vF = .pointer (some ⟨P + 1, 3, none⟩) | 1 => vF = .int .u8 (kd : Nat) | 3 => vF = .slice A8 L8 n8 | 7 => vF = .int .i64 0 | _ => True)
  (fun d x W => Below we.heap.size we W ∧ (d 2 = true → d 5 = false → OV encB 1 5 we.heap.size W (x 2) [kd]) ∧ (d 4 = true → d 5 = false → OV encB 1 5 we.heap.size W (x 4) Y) ∧ (d 5 = true → OV encB 1 5 we.heap.size W (x 5) ([kd] ++ Y)) ∧ (d 6 = true → x 6 = x 5)) ?hB (by kernel_rfl) (by kernel_rfl) ?hpure ?hmem ?hend (fun i => (#[undef, undef, undef, undef, undef, undef, .slice none 0 0, .int .i64 0] : Array Value).getD i undef) rfl ?hstart
 case hstart =>
  try dsimp only
  exact ⟨below_drew (Below.refl _ _), fun h => (by cases h), fun h => (by cases h), fun h => (by cases h), fun h => (by cases h)⟩
 case hB =>
  intro d d' x i v W hi hm h
  have g2 : ¬ 2 = i := by rintro rfl; exact absurd (show true = false from hi) (by simp)
  have e2 : d' 2 = d 2 := hm 2 rfl
  have g4 : ¬ 4 = i := by rintro rfl; exact absurd (show true = false from hi) (by simp)
  have e4 : d' 4 = d 4 := hm 4 rfl
  have g5 : ¬ 5 = i := by rintro rfl; exact absurd (show true = false from hi) (by simp)
  have e5 : d' 5 = d 5 := hm 5 rfl
  have g6 : ¬ 6 = i := by rintro rfl; exact absurd (show true = false from hi) (by simp)
  have e6 : d' 6 = d 6 := hm 6 rfl
  try dsimp only at h ⊢
  rw [upd_ne g2, upd_ne g4, upd_ne g5, upd_ne g6, e2, e4, e5, e6]
  exact h
 case hpure =>
  intro iF o hi hnm ho d x W hB hd hdn hnd hcl Kq hK
  rcases (show iF = 0 ∨ iF = 1 ∨ iF = 2 ∨ iF = 3 ∨ iF = 4 ∨ iF = 5 ∨ iF = 6 ∨ iF = 7 by omega) with rfl | rfl | rfl | rfl | rfl | rfl | rfl | rfl <;> obtain rfl := Option.some.inj ho
  all_goals first | exact absurd (show true = false from hnm) (by simp) | skip
  ·clear ho hd hdn hnd hcl hB hnm hi
   simp only [upd, reduceIte, Nat.reduceEqDiff] at hK
   try dsimp only
   go_simp
   exact hK _ rfl
  ·have e0 : x 0 = .pointer (some ⟨P + 1, 3, none⟩) := hd 0 (by kernel_rfl) (by kernel_rfl)
   have q := below_cell hB.1 C3.out
   clear ho hd hdn hnd hcl hB hnm hi
   simp only [upd, reduceIte, Nat.reduceEqDiff, e0] at hK
   try dsimp only
   go_simp
   exact hK _ rfl
  ·clear ho hd hdn hnd hcl hB hnm hi
   simp only [upd, reduceIte, Nat.reduceEqDiff] at hK
   try dsimp only
   go_simp
   exact hK _ rfl
  ·clear ho hd hdn hnd hcl hB hnm hi
   simp only [upd, reduceIte, Nat.reduceEqDiff] at hK
   try dsimp only
   go_simp
   exact hK _ rfl
 case hmem =>
  intro iF o hi hmm ho d d' x W hB hd hdn hnd hdi hdi' hdm hcl Kq hK
  rcases (show iF = 0 ∨ iF = 1 ∨ iF = 2 ∨ iF = 3 ∨ iF = 4 ∨ iF = 5 ∨ iF = 6 ∨ iF = 7 by omega) with rfl | rfl | rfl | rfl | rfl | rfl | rfl | rfl <;> obtain rfl := Option.some.inj ho
  all_goals first | exact absurd (show false = true from hmm) (by simp) | skip
  ·have e1 : x 1 = .int .u8 (kd : Nat) := hd 1 (by kernel_rfl) (by kernel_rfl)
   have dm4 : d' 4 = d 4 := hdm 4 (by omega)
   have dm5 : d' 5 = d 5 := hdm 5 (by omega)
   have dm6 : d' 6 = d 6 := hdm 6 (by omega)
   have dz5 : d 5 = false := hnd 5 (by kernel_rfl)
   have dz6 : d 6 = false := notyet (i := 6) hcl (hnd 5 (by kernel_rfl)) (by kernel_rfl)
   obtain ⟨hb, h2, h4, h5, h6⟩ := hB
   clear h2 h5 h6
   clear ho hd hdn hnd hcl hmm
   simp only [upd, reduceIte, Nat.reduceEqDiff, e1] at hK
   try dsimp only
   go_simp
   refine hK _ _ ?_
   try dsimp only
   rw [dm4, dm5, dm6, hdi']
   exact ⟨hb.alloc hb.size _, fun _ _ => litB1 rfl hb.size, fun a b => (h4 a b).alloc _, fun h => (by rw [dz5] at h; cases h), fun h => (by rw [dz6] at h; cases h)⟩
  ·have e3 : x 3 = .slice A8 L8 n8 := hd 3 (by kernel_rfl) (by kernel_rfl)
   have dm2 : d' 2 = d 2 := hdm 2 (by omega)
   have dm5 : d' 5 = d 5 := hdm 5 (by omega)
   have dm6 : d' 6 = d 6 := hdm 6 (by omega)
   have dz5 : d 5 = false := hnd 5 (by kernel_rfl)
   have dz6 : d 6 = false := notyet (i := 6) hcl (hnd 5 (by kernel_rfl)) (by kernel_rfl)
   obtain ⟨hb, h2, h4, h5, h6⟩ := hB
   clear h4 h5 h6
   clear ho hd hdn hnd hcl hmm
   simp only [upd, reduceIte, Nat.reduceEqDiff, e3] at hK
   try dsimp only
   go_simp
   go_at_call 107
   refine (writeAll_ok W _ _ (HE8.out.below hb) HXX.out HLL.out).mono ?_
   rintro r W2 ⟨v', rfl, o, bb⟩
   go_simp
   refine hK _ _ ?_
   try dsimp only
   rw [dm2, dm5, dm6, hdi']
   exact ⟨hb.trans (bb.mono hb.size), fun a b => (h2 a b).below bb, fun _ _ => (show OV encB 1 5 we.heap.size W2 v' Y from by rw [HVY.out]; exact o.base_le hb.size), fun h => (by rw [dz5] at h; cases h), fun h => (by rw [dz6] at h; cases h)⟩
  ·have dm2 : d' 2 = d 2 := hdm 2 (by omega)
   have dm4 : d' 4 = d 4 := hdm 4 (by omega)
   have dm6 : d' 6 = d 6 := hdm 6 (by omega)
   have dn2 : d 2 = true := hdn 2 (by kernel_rfl)
   have dn4 : d 4 = true := hdn 4 (by kernel_rfl)
   have dz6 : d 6 = false := hnd 6 (by kernel_rfl)
   obtain ⟨hb, h2, h4, h5, h6⟩ := hB
   have o2 := h2 dn2 hdi
   have o4 := h4 dn4 hdi
   clear h2 h4 h5 h6
   clear ho hd hdn hnd hcl hmm
   simp only [upd, reduceIte, Nat.reduceEqDiff] at hK
   try dsimp only
   refine wp_app elemB encB_len encB_one (.tmp 43) (.tmp 45) rfl (x 2) (x 4) rfl rfl o2 (o4.ev encB_len) (by have := HYL.out; simp; omega) hb.size ?_
   intro v1 w1 o1 g1
   go_simp
   refine hK _ _ ?_
   try dsimp only
   rw [dm2, dm4, dm6, hdi']
   exact ⟨hb.grown g1 hb.size (fun q hq => (o2.block q hq).1), fun _ h => (by cases h), fun _ h => (by cases h), fun _ => o1, fun h => (by rw [dz6] at h; cases h)⟩
  ·have dm2 : d' 2 = d 2 := hdm 2 (by omega)
   have dm4 : d' 4 = d 4 := hdm 4 (by omega)
   have dm5 : d' 5 = d 5 := hdm 5 (by omega)
   have dn5 : d 5 = true := hdn 5 (by kernel_rfl)
   obtain ⟨hb, h2, h4, h5, h6⟩ := hB
   clear h6
   clear ho hd hdn hnd hcl hmm
   simp only [upd, reduceIte, Nat.reduceEqDiff] at hK
   try dsimp only
   go_simp
   refine hK _ _ ?_
   try dsimp only
   rw [dm2, dm4, dm5, hdi']
   exact ⟨hb, h2, h4, h5, fun _ => rfl⟩
 case hend =>
  intro d x W hall hB hd
  obtain ⟨hb, _, _, h5, h6⟩ := hB
  have o5 := h5 (hall 5 (by omega))
  have e6 := h6 (hall 6 (by omega))
  have ek7 : x 7 = .int .i64 0 := hd 7 (by omega) rfl
  clear hd hall h5 h6
  try dsimp only
  rw [e6, ek7]
  clear e6 ek7
  generalize x 5 = vx at o5 ⊢
  generalize x 0 = y0
  generalize x 1 = y1
  generalize x 2 = y2
  generalize x 3 = y3
  generalize x 4 = y4
  obtain ⟨A9, n9, rfl⟩ := (o5.ev encB_len).shape
  go_wp2
  go_ret2
  exact ⟨.slice A9 ([kd] ++ Y).length n9, rfl, o5.base_le HBE.out.size, HBE.out.trans (hb.mono HBE.out.size)⟩
end Go.Proofs.YtalophngappkhaaGreatDoor
namespace Go.Proofs.YtalophngappkhaaGreatDoor
open Go.RowKit Go.Shelf
attribute [local go_sem] Oper.semAt_some

theorem wrap_u32 (n : Int) : IntKind.u32.wrap n = n % 4294967296 := by simp [IntKind.wrap, IntKind.bits, IntKind.signed]
theorem nat32 {a : Nat} (h : a < 4294967296) : (BitVec.ofInt 32 (a : Int)).toNat = a := by
 rw [BitVec.ofInt_natCast, BitVec.toNat_ofNat]; exact Nat.mod_eq_of_lt h
theorem xor32 {a b : Nat} (ha : a < 4294967296) (hb : b < 4294967296) : bits .xor .u32 (a : Int) (b : Int) = ((a ^^^ b : Nat) : Int) := by
 have hx : a ^^^ b < 2 ^ 32 := Nat.xor_lt_two_pow (by omega) (by omega)
 show IntKind.u32.wrap ((BitVec.ofInt 32 (a : Int) ^^^ BitVec.ofInt 32 (b : Int)).toNat : Int) = _
 rw [BitVec.toNat_xor, nat32 ha, nat32 hb, wrap_u32]
 omega
theorem and32 {a : Nat} (ha : a < 4294967296) : bits .and .u32 (a : Int) 15 = ((a % 16 : Nat) : Int) := by
 show IntKind.u32.wrap ((BitVec.ofInt 32 (a : Int) &&& BitVec.ofInt 32 ((15 : Nat) : Int)).toNat : Int) = _
 rw [BitVec.toNat_and, nat32 ha, nat32 (by omega), wrap_u32, show (15 : Nat) = 2 ^ 4 - 1 by rfl, Nat.and_two_pow_sub_one_eq_mod]
 omega
theorem halves_get {w : World} (h : HalvesAt w) {k : Nat} (hk : k < 16) : w.cell? ⟨2, k, none⟩ = some (.int .u32 (crcT.getD k 0 : Nat)) := by
 refine h k _ ?_
 have : ∀ k < 16, halvesZ[k]? = some ((crcT.getD k 0 : Nat) : Int) := by decide
 exact this k hk
theorem crcH_nat {c : Nat} : crcH c = (c / 16) ^^^ crcT.getD (c % 16) 0 := by unfold crcH; rw [Nat.shiftRight_eq_div_pow]

set_option maxHeartbeats 800000 in
theorem crun_ok (w : World) (c : Nat) (v : Value) (l : List Nat) (hc : c < 4294967296) (hv : EV encB 1 w v l) (hl : ∀ x ∈ l, x < 256) (hL : l.length ≤ 1000000000) (hh : HalvesAt w) :
  Calls Tryz.prog 164 #[.int .u32 (c : Nat), v] w fun r w' => r = .returned (.int .u32 (crcR c l : Nat)) ∧ w = w' := by
 obtain ⟨A, cp, rfl⟩ := hv.shape
 have HV := Lib.hid hv
 have HX := Lib.hid hl
 have HH := Lib.hid hh
 clear hv hl hh
 obtain ⟨n, hn⟩ : ∃ n, n = l.length := ⟨_, rfl⟩
 have HN := Lib.hid hn
 have HC := Lib.hid hc
 rw [← hn] at hL ⊢
 clear hn hc
 go_enter Tryz.func164, Tryz.ntmps164
 go_wp2
 go_loopg [0, 9] n (fun k o i wr => ∃ j : Nat, j + k = n ∧ i = .int .i64 j ∧ o = .int .u32 (crcR c (l.take j) : Nat) ∧ w = wr)
 case atStart => exact ⟨0, by omega, rfl, rfl, rfl⟩
 case round =>
  obtain ⟨j, hj, rfl, rfl, rfl⟩ := hrel
  have HJ := Lib.hid hj
  clear hj
  by_cases hlt : j < n
  ·obtain ⟨b, off, c', hsl, hcc, hr⟩ := HV.out.row (by have := HN.out; omega)
   cases hsl
   obtain ⟨x, hx⟩ : ∃ x, l[j]? = some x := ⟨_, List.getElem?_eq_getElem (by rw [← HN.out]; exact hlt)⟩
   have g0 := hr.b1 hx
   have hx256 := HX.out x (List.mem_of_getElem? hx)
   have HT := Lib.hid (crcR_take (c := c) hx)
   have hlt0 := crcR_lt (l.take j) HC.out fun x hx => HX.out x (List.mem_of_mem_take hx)
   generalize crcR c (l.take j) = r at hlt0 HT ⊢
   have q1 := xor32 hlt0 (show x < 4294967296 by omega)
   have l1 : r ^^^ x < 4294967296 := Nat.xor_lt_two_pow (n := 32) hlt0 (by omega)
   generalize hc1 : r ^^^ x = c1 at q1 l1
   have q2 := and32 l1
   have q3 := halves_get HH.out (show c1 % 16 < 16 by omega)
   have q4 := xor32 (show c1 / 16 < 4294967296 by omega) (crcT_lt (c1 % 16))
   have l2 := crcH_lt l1
   rw [← crcH_nat] at q4
   generalize hc2 : crcH c1 = c2 at q4 l2
   have q5 := and32 l2
   have q6 := halves_get HH.out (show c2 % 16 < 16 by omega)
   have q7 := xor32 (show c2 / 16 < 4294967296 by omega) (crcT_lt (c2 % 16))
   rw [← crcH_nat] at q7
   have HT2 := Lib.hid (show crcR c (l.take (j + 1)) = crcH c2 by rw [HT.out, ← hc2, ← hc1]; rfl)
   generalize crcH c2 = c3 at q7 HT2
   have q8 : IntKind.u32.wrap (x : Int) = (x : Nat) := by rw [wrap_u32]; omega
   clear hx hr hc1 hc2 HT
   generalize hm1 : c1 % 16 = m1 at q2 q3 q4
   generalize hm2 : c2 % 16 = m2 at q5 q6 q7
   generalize crcT.getD m1 0 = t1 at q3 q4
   generalize crcT.getD m2 0 = t2 at q6 q7
   have hm1' : m1 < 16 := by omega
   have hm2' : m2 < 16 := by omega
   have d1 : ((c1 / 16 : Nat) : Int) = (c1 : Int) / 16 := Int.natCast_ediv c1 16
   have d2 : ((c2 / 16 : Nat) : Int) = (c2 : Int) / 16 := Int.natCast_ediv c2 16
   rw [d1] at q4
   rw [d2] at q7
   clear hm1 hm2 d1 d2
   go_wp2
   go_roundg (gk - 1)
   case measure => have := HJ.out; omega
   case rel => exact ⟨j + 1, by have := HJ.out; omega, by go_num, by rw [HT2.out], rfl⟩
  ·obtain rfl : n = j := by have := HJ.out; omega
   rw [List.take_of_length_le (by rw [HN.out]; exact Nat.le_refl _)]
   go_wp2
   go_ret
   exact ⟨rfl, rfl⟩
theorem max32 : IntKind.u32.max = ((4294967295 : Nat) : Int) := by decide
theorem not32 {a : Nat} (ha : a < 4294967296) : bits .xor .u32 IntKind.u32.max (a : Int) = ((a ^^^ 4294967295 : Nat) : Int) := by
 rw [max32, xor32 (by omega) ha, Nat.xor_comm]
theorem cupdate_ok (w : World) (v : Value) (l : List Nat) (hv : EV encB 1 w v l) (hl : ∀ x ∈ l, x < 256) (hL : l.length ≤ 1000000000) (hh : HalvesAt w) :
  Calls Tryz.prog 137 #[.int .u32 0, v] w fun r w' => r = .returned (.int .u32 (crcL l : Nat)) ∧ w = w' := by
 have H := Lib.hid (crun_ok w 4294967295 v l (by omega) hv hl hL hh)
 have hlt := crcR_lt l (c := 4294967295) (by omega) hl
 obtain ⟨A, cp, rfl⟩ := hv.shape
 unfold crcL
 generalize crcR 4294967295 l = r at H hlt ⊢
 have l1 : r ^^^ 4294967295 < 4294967296 := Nat.xor_lt_two_pow (n := 32) hlt (by omega)
 have q := not32 hlt
 generalize r ^^^ 4294967295 = r1 at q l1 ⊢
 clear hv hl hL hh
 go_enter Tryz.func137, Tryz.ntmps137
 have q0 : bits .xor .u32 IntKind.u32.max 0 = ((4294967295 : Nat) : Int) := by
  have := not32 (a := 0) (by omega)
  simpa using this
 have hs : ¬ (IntKind.u32.signed = true) := by decide
 go_wp2_with fail
 refine H.out.mono ?_
 rintro r w' ⟨rfl, rfl⟩
 go_wp2
 go_ret
 exact ⟨rfl, rfl⟩
theorem csum_ok (w : World) (v : Value) (l : List Nat) (hv : EV encB 1 w v l) (hl : ∀ x ∈ l, x < 256) (hL : l.length ≤ 1000000000) (hh : HalvesAt w) :
  Calls Tryz.prog 111 #[v] w fun r w' => r = .returned (.int .u32 (crcL l : Nat)) ∧ w = w' := by
 have H := Lib.hid (cupdate_ok w v l hv hl hL hh)
 obtain ⟨A, cp, rfl⟩ := hv.shape
 clear hv hl hL hh
 go_enter Tryz.func111, Tryz.ntmps111
 go_wp2_with fail
 refine H.out.mono ?_
 rintro r w' ⟨rfl, rfl⟩
 go_wp2
 go_ret
 exact ⟨rfl, rfl⟩
end Go.Proofs.YtalophngappkhaaGreatDoor
namespace Go.Proofs.YtalophngappkhaaGreatDoor
open Go.RowKit Go.Shelf
attribute [local go_sem] Oper.semAt_some

theorem wrap_u8 (n : Int) : IntKind.u8.wrap n = n % 256 := by simp [IntKind.wrap, IntKind.bits, IntKind.signed]
theorem mk_own {P : Program} {α : Type} {enc : α → List Value} {k bytes : Nat} {t e : TypeId} (T : ElemT P t e k bytes) (w : World) (base c : Nat) (hc : c ≤ 200000) (hb : base ≤ w.heap.size) :
  ∃ w', (Instr.makeSlice t (.int .i64 0) (.int .i64 (c : Int))).run P w = .ok (.slice (some ⟨w.heap.size, 0, none⟩) 0 c) w' ∧ OV enc k e base w' (.slice (some ⟨w.heap.size, 0, none⟩) 0 c) [] ∧ w.grownBy w' none := by
 obtain ⟨i, z, h1, h2, h3, h4, h5⟩ := T.hi
 have hbb := T.hb
 refine run_make_own w base t e i z k T.ht h1 h2 h3 .i64 .i64 c ?_ (by unfold maxLen; omega) hb
 rw [h4]
 exact Nat.le_trans (Nat.mul_le_mul hbb hc) (by decide)
set_option maxHeartbeats 800000 in
set_option maxRecDepth 100000 in
theorem seal_ok (w : World) (v : Value) (l : List Nat) (hv : EV encB 1 w v l) (hl : ∀ x ∈ l, x < 256) (hL : l.length ≤ 100000) (hh : HalvesAt w) :
  Calls Tryz.prog 83 #[v] w fun r w' => ∃ v', r = .returned (.tuple #[v', .int .i64 0]) ∧ OV encB 1 5 w.heap.size w' v' (sealL l) ∧ Below w.heap.size w w' := by
 have H := Lib.hid (csum_ok w v l hv hl (by omega) hh)
 have HV := Lib.hid hv
 obtain ⟨A, cp, rfl⟩ := hv.shape
 have hlt : crcL l < 4294967296 := Nat.xor_lt_two_pow (n := 32) (crcR_lt l (by omega) hl) (by omega)
 unfold sealL
 generalize crcL l = c at H hlt ⊢
 obtain ⟨n, hn⟩ : ∃ n, n = l.length := ⟨_, rfl⟩
 have HN := Lib.hid hn
 rw [← hn] at hL H HV ⊢
 obtain ⟨wm, hmk, om, gm⟩ := mk_own (enc := encB) elemB w w.heap.size (n + 4) (by omega) (Nat.le_refl _)
 rw [show ((n + 4 : Nat) : Int) = (n : Int) + 4 by omega] at hmk
 have OM := Lib.hid om
 have GM := Lib.hid gm

 have d1 : decide ((16777216 : Int) < (n : Int)) = false := by rw [decide_eq_false_iff_not]; omega
 have d2 : wrap64 ((n : Int) + 4) = (n : Int) + 4 := IntWalk.wrap64_in _ (by omega)
 have HLT := Lib.hid hlt
 have HLN := Lib.hid hL
 clear hv hl hh hn om gm hlt hL
 go_enter Tryz.func83, Tryz.ntmps83
 have b0 : IntKind.u8.wrap (c : Int) = (c % 256 : Nat) := by rw [wrap_u8]; omega
 have b1 : IntKind.u8.wrap ((c : Int) / 256) = (c / 256 % 256 : Nat) := by rw [wrap_u8]; omega
 have b2 : IntKind.u8.wrap ((c : Int) / 65536) = (c / 65536 % 256 : Nat) := by rw [wrap_u8]; omega
 have b3 : IntKind.u8.wrap ((c : Int) / 16777216) = (c / 16777216 % 256 : Nat) := by rw [wrap_u8]; omega
 have HLE := Lib.hid (show le32 c = [c % 256, c / 256 % 256, c / 65536 % 256, c / 16777216 % 256] from rfl)
 generalize le32 c = LE at HLE ⊢
 generalize c % 256 = e0 at *
 generalize c / 256 % 256 = e1 at *
 generalize c / 65536 % 256 = e2 at *
 generalize c / 16777216 % 256 = e3 at *
 have HB := Lib.hid ((Below.refl w.heap.size w).grown GM.out (Nat.le_refl _) (fun k hk => by cases hk))
 go_wp2_with fail
 refine H.out.mono ?_
 rintro r w' ⟨rfl, rfl⟩
 go_wp2_with (at_builtin; refine wpList_app elemB encB_len encB_one rfl _ _ rfl _ _ rfl rfl OM.out (HV.out.below HB.out) ?q1 ?q2 ?_)
 case q1 => have := HN.out; have := HLN.out; simp; omega
 case q2 => exact HB.out.size
 intro v1 w1 o1 g1
 have HO1 := Lib.hid o1
 have HB1 := Lib.hid (HB.out.grown g1 HB.out.size (fun k hk => by simp [Value.ownBlock] at hk; omega))
 obtain ⟨A1, n1, rfl⟩ := (o1.ev encB_len).shape
 clear o1 g1
 go_wp2_with (at_builtin; refine wpList_app elemB encB_len encB_one rfl _ _ rfl _ _ rfl rfl (HO1.out.alloc _) (EV.newL (xs := [e0, e1, e2, e3]) (n := 4) (c := 4) encB_len rfl rfl (Nat.le_refl _)) ?q3 ?q4 ?_)
 case q3 => have := HN.out; have := HLN.out; simp; omega
 case q4 => have := HB1.out.size; simp; omega
 intro v2 w2 o2 g2
 have HO2 := Lib.hid o2
 have HB2 := Lib.hid ((HB1.out.alloc HB1.out.size _).grown g2 (HB1.out.alloc HB1.out.size _).size (fun k hk => (HO1.out.block k hk).1))
 obtain ⟨A2, n2, rfl⟩ := (o2.ev encB_len).shape
 clear o2 g2
 go_wp2
 go_ret2
 exact ⟨_, rfl, by rw [HLE.out]; simpa using HO2.out, HB2.out⟩
end Go.Proofs.YtalophngappkhaaGreatDoor
namespace Go.Proofs.YtalophngappkhaaGreatDoor
open Go.RowKit Go.Shelf
attribute [local go_sem] Oper.semAt_some

/-- The first j events are a row. -/
def PW (l : List Ev) (j : Nat) : Prop := ∀ (i : Nat) (e : Ev), i < j → l[i]? = some e → chkEv e = 0 ∧ ∀ q p, i = q + 1 → l[q]? = some p → nextOk p e
theorem PW.step {l : List Ev} {j : Nat} {e : Ev} (h : PW l j) (he : l[j]? = some e) (hc : chkEv e = 0) (hn : ∀ q p, j = q + 1 → l[q]? = some p → nextOk p e) : PW l (j + 1) := by
 intro i x hi hx
 rcases Nat.lt_or_ge i j with h1 | h1
 ·exact h i x h1 hx
 ·obtain rfl : i = j := by omega
  rw [he] at hx; cases hx
  exact ⟨hc, hn⟩
theorem PW.all {l : List Ev} {j : Nat} (h : PW l j) (hj : l.length ≤ j) : RowOk l := RowOk.of fun i e he => h i e (by have := (List.getElem?_eq_some_iff.1 he).1; omega) he
theorem not_row_at {l : List Ev} {j : Nat} {e : Ev} (he : l[j]? = some e) (hc : chkEv e ≠ 0) : ¬ RowOk l := fun h => hc (h.at j e he).1
theorem not_row_next {l : List Ev} {q : Nat} {p e : Ev} (he : l[q + 1]? = some e) (hp : l[q]? = some p) (hn : ¬ nextOk p e) : ¬ RowOk l := fun h => hn ((h.at (q + 1) e he).2 q p rfl hp)

set_option maxRecDepth 100000 in
set_option maxHeartbeats 3200000 in
theorem row_ok (w : World) (v : Value) (l : List Ev) (hv : EV encE 11 w v l) (hl : ∀ e ∈ l, EvOk e) (hL : l.length ≤ 1000000000) (hU : UsesAt w) :
  Calls Tryz.prog 104 #[v] w fun r w' => (∃ i b : Int, r = .returned (.tuple #[.int .i64 i, .int .i64 b]) ∧ (b = 0 ↔ RowOk l)) ∧ Below w.heap.size w w' := by
 obtain ⟨A, cp, rfl⟩ := hv.shape
 obtain ⟨n, hn⟩ : ∃ n, n = l.length := ⟨_, rfl⟩
 rw [← hn] at hL ⊢
 have HV := Lib.hid hv
 have HX := Lib.hid hl
 have HU := Lib.hid hU
 have HN := Lib.hid hn
 have HL := Lib.hid hL
 clear hv hl hU hn
 go_enter Tryz.func104, Tryz.ntmps104
 go_wp2
 go_loopg [9] n (fun k i wr => ∃ j : Nat, j + k = n ∧ i = .int .i64 j ∧ PW l j ∧ Below w.heap.size w wr)
 case atStart => exact ⟨0, by omega, rfl, fun i e h => by omega, Below.refl _ _⟩
 case round =>
  obtain ⟨j, hj, rfl, hp, hb⟩ := hrel
  have HJ := Lib.hid hj
  have HP := Lib.hid hp
  have HB := Lib.hid hb
  clear hj hp hb
  by_cases hlt : j < n
  ·have hev := HV.out.below HB.out
   obtain ⟨b, off, c', hsl, hcc, hr⟩ := hev.row (by have := HN.out; omega)
   cases hsl
   obtain ⟨e, hx⟩ : ∃ e, l[j]? = some e := ⟨_, List.getElem?_eq_getElem (by rw [← HN.out]; exact hlt)⟩
   have HE := Lib.hid hx
   have HEO := Lib.hid (HX.out e (List.mem_of_getElem? hx))
   obtain ⟨g0, g1, g2, g3, g4, g5, g6, g7, g8, g9, g10⟩ := hr.ev hx
   have HR := Lib.hid hr
   clear hev hr hx
   have HEV := Lib.hid (evp_new wr e)
   have HA := Lib.hid (bel_alloc wr (.cells #[.int .i64 e.seq, .int .i64 e.time, .int .u8 e.cpu, .int .u8 e.kind, .int .i64 e.task, .int .i64 e.grp, .int .i64 e.to, .int .i64 e.wt, .int .i64 e.ticks, .int .u64 e.mask, .int .i64 e.got] 28))
   go_upto_region 4 with fail
   obtain ⟨B, hB⟩ : ∃ B, wr.heap.size = B := ⟨_, rfl⟩
   have h1 := HEV.out
   have h2 := HA.out
   clear g0 g1 g2 g3 g4 g5 g6 g7 g8 g9 g10 HEV HA
   generalize wr.alloc (.cells #[.int .i64 e.seq, .int .i64 e.time, .int .u8 e.cpu, .int .u8 e.kind, .int .i64 e.task, .int .i64 e.grp, .int .i64 e.to, .int .i64 e.wt, .int .i64 e.ticks, .int .u64 e.mask, .int .i64 e.got] 28) = wa at h1 h2 ⊢
   rw [hB] at h1 ⊢
   have HEV := Lib.hid h1
   have HA := Lib.hid h2
   have HBA := Lib.hid (bstep HB.out h2)
   have HC := Lib.hid (echeck_ok wa e HEO.out (HU.out.below HBA.out))
   obtain ⟨c0, c1, c2, c3, c4, c5, c6, c7, c8, c9⟩ : _ ∧ _ ∧ _ ∧ _ ∧ _ ∧ _ ∧ _ ∧ _ ∧ _ ∧ _ := ⟨h1.c0, h1.c1, h1.c2, h1.c3, h1.c4, h1.c5, h1.c6, h1.c7, h1.c8, h1.c9⟩
   have c10 := h1.c10
   unfold evA at HC
   clear h1 h2 hB
   go_wp2_with fail
   refine HC.out.mono ?_
   rintro r wb ⟨rfl, hb1⟩
   have HBB := Lib.hid (bstep HBA.out hb1)
   have HEB := Lib.hid (HEV.out.below hb1 HEV.out.lt)
   have HRB := Lib.hid (((HR.out.below HA.out).below hb1 : ER encE 11 wb b off l))
   clear hb1 HC c0 c1 c2 c3 c4 c5 c6 c7 c8 c9 c10
   have c0 := HEB.out.c0
   have c1 := HEB.out.c1
   have c2 := HEB.out.c2
   by_cases hck : chkEv e = 0
   ·have HCK := Lib.hid hck
    rw [hck]
    clear hck
    rcases Nat.eq_zero_or_pos j with h0 | h0
    ·have HJ0 := Lib.hid h0
     have d0 : decide ((0 : Int) < (j : Int)) = false := by simp; omega
     have d0' : decide (0 < j) = false := by simp; omega
     clear h0
     go_wp2_with fail
     go_big_region
     go_wp2
     go_roundg (gk - 1)
     case measure => have := HJ.out; omega
     case rel => exact ⟨j + 1, by have := HJ.out; omega, by go_num, HP.out.step HE.out HCK.out (fun q p hq => by have := HJ0.out; omega), below_drewN HBB.out _⟩
    ·obtain ⟨q, hq⟩ : ∃ q, j = q + 1 := ⟨j - 1, by omega⟩
     have d0 : decide ((0 : Int) < (j : Int)) = true := by simp; omega
     have d0' : decide (0 < j) = true := by simp; omega
     obtain ⟨p, hp⟩ : ∃ p, l[q]? = some p := ⟨_, List.getElem?_eq_getElem (by rw [← HN.out]; omega)⟩
     have HQ := Lib.hid hq
     have HPP := Lib.hid hp
     obtain ⟨q0, q1, q2, -⟩ := HRB.out.ev hp
     have e1 : ((j : Int) - 1).toNat = q := by omega
     have e2 : (0 : Int) ≤ (j : Int) - 1 := by omega
     have e3 : (j : Int) - 1 < (n : Int) := by omega
     have e4 : (1 : Int) ≤ (j : Int) := by omega
     have e5 : IntKind.i64.wrap ((j : Int) - 1) = (j : Int) - 1 := IntWalk.i64_in _ (by omega)
     have e6 : j - 1 = q := by omega
     have HEJ := Lib.hid (show l[q + 1]? = some e by rw [← hq]; exact HE.out)
     clear h0 hq hp
     by_cases hcp : e.cpu = p.cpu
     ·have HCP := Lib.hid hcp
      have d1 : (e.cpu != p.cpu) = false := by simp [hcp]
      clear hcp
      by_cases hsq : e.seq ≤ p.seq
      ·have HNR := Lib.hid (not_row_next HEJ.out HPP.out (fun h => by have := h.2.1; omega))
       have d2 : decide (e.seq ≤ p.seq) = true := by simpa using hsq
       clear hsq
       go_wp2_with fail
       go_big_region
       go_wp2
       go_ret2
       exact ⟨⟨_, _, rfl, by simp [HNR.out]⟩, below_drewN HBB.out _⟩
      ·have HSQ := Lib.hid hsq
       have d2 : decide (e.seq ≤ p.seq) = false := by simpa using hsq
       clear hsq
       by_cases htm : e.time < p.time
       ·have HNR := Lib.hid (not_row_next HEJ.out HPP.out (fun h => by have := h.2.2; omega))
        have d3 : decide (e.time < p.time) = true := by simpa using htm
        clear htm
        go_wp2_with fail
        go_big_region
        go_wp2
        go_ret2
        exact ⟨⟨_, _, rfl, by simp [HNR.out]⟩, below_drewN HBB.out _⟩
       ·have HTM := Lib.hid htm
        have d3 : decide (e.time < p.time) = false := by simpa using htm
        clear htm
        go_wp2_with fail
        go_big_region
        clear e1 e2 e3 e4 e5 e6
        go_wp2
        go_roundg (gk - 1)
        case measure => have := HJ.out; omega
        case rel =>
         refine ⟨j + 1, by have := HJ.out; omega, by go_num, HP.out.step HE.out HCK.out (fun q' p' hq' hp' => ?_), below_drewN HBB.out _⟩
         obtain rfl : q' = q := by have := HQ.out; omega
         rw [HPP.out] at hp'
         cases hp'
         exact ⟨HCP.out, by have := HSQ.out; omega, by have := HTM.out; omega⟩
     ·have HNR := Lib.hid (not_row_next HEJ.out HPP.out (fun h => hcp h.1))
      have d1 : (e.cpu != p.cpu) = true := by simp [hcp]
      clear hcp
      go_wp2_with fail
      go_big_region
      go_wp2
      go_ret2
      exact ⟨⟨_, _, rfl, by simp [HNR.out]⟩, below_drewN HBB.out _⟩
   ·have HNR := Lib.hid (not_row_at HE.out hck)
    have HCK := Lib.hid hck
    generalize chkEv e = ck at HCK hck ⊢
    have d1 : (ck != 0) = true := by simp [hck]
    clear hck
    go_wp2
    go_ret2
    exact ⟨⟨_, _, rfl, by simp [HNR.out, HCK.out]⟩, HBB.out⟩
  ·obtain rfl : n = j := by have := HJ.out; omega
   have HRO := Lib.hid (HP.out.all (by rw [HN.out]; exact Nat.le_refl _))
   go_wp2
   go_ret2
   exact ⟨⟨-1, 0, rfl, by simp [HRO.out]⟩, HB.out⟩
end Go.Proofs.YtalophngappkhaaGreatDoor
