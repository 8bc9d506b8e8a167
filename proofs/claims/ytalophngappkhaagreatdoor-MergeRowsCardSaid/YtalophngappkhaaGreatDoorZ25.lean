/- quantumlaw12.awake | quantumlaw06.Made, in plain words. -/
import Derived.Test.YtalophngappkhaaGreatDoorZ24
set_option linter.unusedVariables false
set_option linter.unusedSimpArgs false
set_option linter.unusedSectionVars false
namespace Go.Proofs.YtalophngappkhaaGreatDoor
open Go Go.RowKit Go.Shelf
attribute [local go_sem] Oper.semAt_some

theorem aft7 : aftL exR [(3, 1), (5, 2)] 8 false 7 = [pickE 7 1] := by decide
theorem aft8 : aftL exR [(3, 1), (5, 2)] 8 false 8 = [] := by decide
set_option maxRecDepth 100000 in
set_option maxHeartbeats 6400000 in
theorem awake_ok (w : World) (hla : LaidAt w) : Calls Tryz.prog 19 #[] w fun e w' => e = .returned (.bool true) ∧ Below w.heap.size w w' := by
  have HL := Lib.hid hla
  have HX := Lib.hid (example_ok w)
  clear hla
  go_enter Tryz.func19, Tryz.ntmps19
  go_wp2_with fail
  refine HX.out.mono ?_
  rintro r w1 ⟨v, va, vb, rfl, o1, o2, o3, b1⟩
  obtain ⟨g, cp, hv, _, _, _⟩ := o1.row_form encBk_len (n := 3) rfl (by omega)
  subst hv
  have HA := Lib.hid (show AB w w1 (.slice (some ⟨g, 0, none⟩) 3 cp) va vb 8 from ⟨b1, o1, o2, o3⟩)
  clear o1 o2 o3 b1 HX
  have HC := Lib.hid (blocks_good w1 _ _ HA.out.s3 (fun x hx => (all_ok (by omega) (by omega) x hx).1) (fun x hx => (all_ok (by omega) (by omega) x hx).2.2) (by simp) (by simp [flatR, rowsB, bkA, bkB, bkE]) (HL.out.below HA.out.bel) (exM [(3, 1), (5, 2)] 8 false) 0 (fun m c' hm => ex_res8 hm))
  unfold mgA exM at HC
  dsimp only at HC
  go_wp2_with fail
  refine HC.out.mono ?_
  rintro r w2 ⟨A1, n1, k1, A2, n2, k2, A3, n3, k3, rfl, o1, o2, o3, b1⟩
  obtain rfl : n2 = 0 := (o2.ev encI_len).nlen
  have ba := bel_alloc w2 (.cells #[.slice A1 n1 k1, .slice A2 0 k2, .slice A3 n3 k3, .int .i64 2, .int .i64 8, .bool false] 39)
  have HM := Lib.hid (show MB (w2.alloc (.cells #[.slice A1 n1 k1, .slice A2 0 k2, .slice A3 n3 k3, .int .i64 2, .int .i64 8, .bool false] 39)) w2.heap.size (.slice A1 n1 k1) (.slice A2 0 k2) (.slice A3 n3 k3) (exM [(3, 1), (5, 2)] 8 false) from ⟨MgBox.new w2 (.slice A1 n1 k1) (.slice A2 0 k2) (.slice A3 n3 k3) 2 8 false, (o1.ev encE_len).below ba, (o2.ev encI_len).below ba, (o3.ev encP_len).below ba⟩)
  replace HA := Lib.hid ((HA.out.below b1).below ba)
  clear o1 o2 o3 b1 ba HC
  go_upto_region 3 with fail
  generalize w2.alloc (.cells #[.slice A1 n1 k1, .slice A2 0 k2, .slice A3 n3 k3, .int .i64 2, .int .i64 8, .bool false] 39) = w3 at HM HA ⊢
  generalize w2.heap.size = X at HM ⊢
  have c0 := HM.out.box.c0
  have c1 := HM.out.box.c1
  have c2 := HM.out.box.c2
  have c3 := HM.out.box.c3
  have c4 := HM.out.box.c4
  have c5 := HM.out.box.c5
  unfold exM at c3 c4 c5
  dsimp only at c3 c4 c5
  have HF := Lib.hid (first_ok w3 (.slice A1 n1 k1) (.slice A2 0 k2) (.slice A3 n3 k3) 2 8 1 false [(3, 1), (5, 2)] HM.out.eg (by decide))
  rw [show frsE [(3, 1), (5, 2)] 8 false 1 = (3, 122) by decide] at HF
  unfold mgA at HF
  dsimp only at HF
  go_wp2_with fail
  refine HF.out.mono ?_
  rintro r w4 ⟨rfl, b1⟩
  replace HA := Lib.hid (HA.out.below b1)
  replace HM := Lib.hid (HM.out.below b1)
  clear c0 c1 c2 c3 c4 c5 HF b1
  have c0 := HM.out.box.c0
  have c1 := HM.out.box.c1
  have c2 := HM.out.box.c2
  have c3 := HM.out.box.c3
  have c4 := HM.out.box.c4
  have c5 := HM.out.box.c5
  unfold exM at c3 c4 c5
  dsimp only at c3 c4 c5
  have HF := Lib.hid (first_ok w4 (.slice A1 n1 k1) (.slice A2 0 k2) (.slice A3 n3 k3) 2 8 7 false [(3, 1), (5, 2)] HM.out.eg (by decide))
  rw [show frsE [(3, 1), (5, 2)] 8 false 7 = (0, 0) by decide] at HF
  unfold mgA at HF
  dsimp only at HF
  go_wp2_with fail
  refine HF.out.mono ?_
  rintro r w5 ⟨rfl, b1⟩
  replace HA := Lib.hid (HA.out.below b1)
  replace HM := Lib.hid (HM.out.below b1)
  clear c0 c1 c2 c3 c4 c5 HF b1
  have c0 := HM.out.box.c0
  have c1 := HM.out.box.c1
  have c2 := HM.out.box.c2
  have c3 := HM.out.box.c3
  have c4 := HM.out.box.c4
  have c5 := HM.out.box.c5
  unfold exM at c3 c4 c5
  dsimp only at c3 c4 c5
  have HF := Lib.hid (after_ok w5 (.slice A1 n1 k1) (.slice A2 0 k2) (.slice A3 n3 k3) 2 8 7 false exR [(3, 1), (5, 2)] HM.out.eg (by decide) HM.out.ee (by decide))
  rw [show frsE [(3, 1), (5, 2)] 8 false 7 = (0, 0) by decide, aft7] at HF
  unfold mgA at HF
  dsimp only at HF
  go_wp2_with fail
  refine HF.out.mono ?_
  rintro r w6 ⟨v7, rfl, o7, b1⟩
  have HV7 := Lib.hid (o7.ev encE_len)
  replace HA := Lib.hid (HA.out.below b1)
  replace HM := Lib.hid (HM.out.below b1)
  clear c0 c1 c2 c3 c4 c5 HF b1 o7
  have HV := HV7
  clear HV7
  have c0 := HM.out.box.c0
  have c1 := HM.out.box.c1
  have c2 := HM.out.box.c2
  have c3 := HM.out.box.c3
  have c4 := HM.out.box.c4
  have c5 := HM.out.box.c5
  unfold exM at c3 c4 c5
  dsimp only at c3 c4 c5
  have HF := Lib.hid (first_ok w6 (.slice A1 n1 k1) (.slice A2 0 k2) (.slice A3 n3 k3) 2 8 8 false [(3, 1), (5, 2)] HM.out.eg (by decide))
  rw [show frsE [(3, 1), (5, 2)] 8 false 8 = (0, 0) by decide] at HF
  unfold mgA at HF
  dsimp only at HF
  go_wp2_with fail
  refine HF.out.mono ?_
  rintro r w7 ⟨rfl, b1⟩
  replace HA := Lib.hid (HA.out.below b1)
  replace HM := Lib.hid (HM.out.below b1)
  replace HV := Lib.hid (HV.out.below b1)
  clear c0 c1 c2 c3 c4 c5 HF b1
  have c0 := HM.out.box.c0
  have c1 := HM.out.box.c1
  have c2 := HM.out.box.c2
  have c3 := HM.out.box.c3
  have c4 := HM.out.box.c4
  have c5 := HM.out.box.c5
  unfold exM at c3 c4 c5
  dsimp only at c3 c4 c5
  have HF := Lib.hid (after_ok w7 (.slice A1 n1 k1) (.slice A2 0 k2) (.slice A3 n3 k3) 2 8 8 false exR [(3, 1), (5, 2)] HM.out.eg (by decide) HM.out.ee (by decide))
  rw [show frsE [(3, 1), (5, 2)] 8 false 8 = (0, 0) by decide, aft8] at HF
  unfold mgA at HF
  dsimp only at HF
  go_wp2_with fail
  refine HF.out.mono ?_
  rintro r w8 ⟨v8, rfl, o8, b1⟩
  obtain ⟨A8, k8, hv8⟩ := (o8.ev encE_len).shape
  rw [List.length_nil] at hv8
  subst hv8
  replace HA := Lib.hid (HA.out.below b1)
  replace HM := Lib.hid (HM.out.below b1)
  replace HV := Lib.hid (HV.out.below b1)
  clear c0 c1 c2 c3 c4 c5 HF b1 o8
  have F4 := Lib.hid (pick_ok w8 7 1)
  unfold evA pickE at F4
  dsimp only at F4
  go_wp2_with fail
  refine F4.out.mono ?_
  rintro r w9 ⟨rfl, b1⟩
  replace HA := Lib.hid (HA.out.below b1)
  replace HM := Lib.hid (HM.out.below b1)
  have HE := Lib.hid (eqe_lit w9 v7 [pickE 7 1] [pickE 7 1] 1 w9.heap.size #[.int .i64 7, .int .i64 0, .int .u8 1, .int .u8 6, .int .i64 0, .int .i64 0, .int .i64 0, .int .i64 0, .int .i64 0, .int .u64 0, .int .i64 0] (HV.out.below b1) rfl rfl rfl (by omega) rfl)
  clear b1 F4 HV
  go_wp2_with fail
  refine HE.out.mono ?_
  rintro r w10 ⟨rfl, b1⟩
  replace HA := Lib.hid (HA.out.below b1)
  replace HM := Lib.hid (HM.out.below b1)
  clear b1 HE
  go_upto_if 84 with fail
  go_cut [] (fun wx => wx = w10)
  case first =>
    go_wp2
    go_meet
    rfl
  case rest =>
    subst hcut
    exact (‹∀ (a : Act) (w : World), Code.wp _ _ _ a w → _› : ∀ (a : Act) (w : World), _ → _) _ _ (awake_t10 w _ g cp X n1 k1 k2 n3 k3 A1 A2 A3 va vb HA.out HM.out HL.out)
end Go.Proofs.YtalophngappkhaaGreatDoor
namespace Go.Proofs.YtalophngappkhaaGreatDoor
open Go Go.RowKit

/-- The numbers that an event is made of. -/
structure S6 where
  kind : Int
  cpu : Int
  seq : Int
  time : Int
  task : Int
  grp : Int
  tgt : Int
  wt : Int
  ticks : Int
  got : Int
  mask : Int
structure S6Ok (x : S6) : Prop where
  kind : 0 ≤ x.kind ∧ x.kind ≤ 255
  cpu : 0 ≤ x.cpu ∧ x.cpu ≤ 255
  seq : 0 ≤ x.seq ∧ x.seq ≤ 4294967295
  time : 0 ≤ x.time ∧ x.time ≤ 4294967295
  task : 0 ≤ x.task ∧ x.task ≤ 4294967295
  grp : 0 ≤ x.grp ∧ x.grp ≤ 4294967295
  tgt : 0 ≤ x.tgt ∧ x.tgt ≤ 4294967295
  wt : 0 ≤ x.wt ∧ x.wt ≤ 4294967295
  ticks : 0 ≤ x.ticks ∧ x.ticks ≤ 4294967295
  got : 0 ≤ x.got ∧ x.got ≤ 4294967295
  mask : 0 ≤ x.mask ∧ x.mask ≤ 18446744073709551615
def S6.base (x : S6) : Ev := ⟨1 + x.seq, x.time, x.cpu % 64, 1 + x.kind % 10, 0, 0, 0, 0, 0, 0, 0⟩
def S6.ta (x : S6) : Int := 1 + x.task % 65535
def S6.we (x : S6) : Int := 1 + x.wt % 65536
def S6.go (x : S6) : Int := 1 + x.got % 65535
/-- The event, where m is the mask of a spawn. -/
def made6 (x : S6) (m : Int) : Ev :=
  let e := x.base
  if x.kind % 10 = 0 then { e with task := x.ta, grp := x.grp % 256, wt := x.we, mask := m }
  else if x.kind % 10 = 1 then { e with task := x.ta }
  else if x.kind % 10 = 4 then { e with ticks := max x.ticks 1, got := x.go - 1 }
  else if x.kind % 10 = 5 then { e with got := x.go - 1 }
  else if x.kind % 10 = 6 then { e with task := x.ta, wt := x.we }
  else if x.kind % 10 = 7 then { e with grp := 1 + x.grp % 255, wt := x.we }
  else if x.kind % 10 = 8 then { e with task := x.ta, «to» := (x.cpu % 64 + 1 + x.tgt % 63) % 64 }
  else { e with got := x.go }
theorem made6_facts (x : S6) (m : Int) : (made6 x m).seq = 1 + x.seq ∧ (made6 x m).time = x.time ∧ (made6 x m).cpu = x.cpu % 64 ∧ (made6 x m).kind = 1 + x.kind % 10 := by
  unfold made6 S6.base
  dsimp only
  (repeat' split) <;> exact ⟨rfl, rfl, rfl, rfl⟩
theorem made6_ok {x : S6} (h : S6Ok x) {m : Int} (hm : 0 ≤ m ∧ m ≤ 18446744073709551615) : EvOk (made6 x m) := by
  obtain ⟨h1, h2, h3, h4, h5, h6, h7, h8, h9, h10, h11⟩ := h
  unfold made6 S6.base S6.ta S6.we S6.go
  dsimp only
  (repeat' split) <;> constructor <;> dsimp only <;> omega
theorem made6_chk {x : S6} (h : S6Ok x) {m : Int} (hb : x.kind % 10 = 0 → m.toNat / 2 ^ (x.cpu % 64).toNat % 2 = 1) {s t : Int} (hs : 1 ≤ s ∧ s ≤ 281474976710656) (ht : 0 ≤ t ∧ t ≤ 281474976710656) : chkEv { made6 x m with seq := s, time := t } = 0 := by
  obtain ⟨h1, h2, h3, h4, h5, h6, h7, h8, h9, h10, h11⟩ := h
  have hk : x.kind % 10 = 0 ∨ x.kind % 10 = 1 ∨ x.kind % 10 = 2 ∨ x.kind % 10 = 3 ∨ x.kind % 10 = 4 ∨ x.kind % 10 = 5 ∨ x.kind % 10 = 6 ∨ x.kind % 10 = 7 ∨ x.kind % 10 = 8 ∨ x.kind % 10 = 9 := by omega
  obtain ⟨c, hc⟩ : ∃ c, x.cpu % 64 = c := ⟨_, rfl⟩
  have hcb : 0 ≤ c ∧ c < 64 := by omega
  rw [hc] at hb
  unfold made6 S6.base S6.ta S6.we S6.go
  dsimp only
  rw [hc]
  rcases hk with k | k | k | k | k | k | k | k | k | k
  all_goals
    rw [k]
    unfold chkEv
    simp (config := { decide := true }) only [if_true, if_false, reduceIte, Int.reduceEq, Int.reduceAdd]
    rw [if_neg (by omega), if_neg, if_neg]
    · simp [usesK, fieldV, List.range, List.range.loop]
    · rw [Bool.not_eq_false]
      simp [usesK, withinE]
      first
      | done
      | omega
      | (refine ⟨by omega, by omega, by omega, ?_⟩; exact hb k)
      | trace_state
theorem pow_u64 (c : Nat) (h : c < 64) : IntKind.u64.wrap ((2 : Int) ^ c) = 2 ^ c := by
  have : (2:Nat) ^ c < 2 ^ 64 := Nat.pow_lt_pow_right (by omega) h
  have h2 : ((2:Int) ^ c) = ((2 ^ c : Nat) : Int) := by simp
  rw [h2]
  generalize (2 ^ c : Nat) = p at this ⊢
  exact IntWalk.u64_in _ (by omega)
theorem or_bit (x : Int) (c : Nat) (h : c < 64) : (0 ≤ bits BinOp.or IntKind.u64 x (2 ^ c) ∧ bits BinOp.or IntKind.u64 x (2 ^ c) ≤ 18446744073709551615) ∧ (bits BinOp.or IntKind.u64 x (2 ^ c)).toNat / 2 ^ c % 2 = 1 := by
  have hb : (BitVec.ofInt 64 (2 ^ c)).getLsbD c = true := by
    have h2 : ((2:Int) ^ c) = ((2 ^ c : Nat) : Int) := by simp
    rw [h2, BitVec.ofInt_natCast, BitVec.getLsbD_ofNat]
    simp [h, Nat.testBit_two_pow_self]
  have e : bits BinOp.or IntKind.u64 x (2 ^ c) = (((BitVec.ofInt 64 x) ||| (BitVec.ofInt 64 (2 ^ c))).toNat : Int) := by
    unfold bits
    show IntKind.u64.wrap (((BitVec.ofInt 64 x) ||| (BitVec.ofInt 64 (2 ^ c))).toNat : Int) = _
    have := ((BitVec.ofInt 64 x) ||| (BitVec.ofInt 64 (2 ^ c))).isLt
    exact IntWalk.u64_in _ (by omega)
  have ht : (((BitVec.ofInt 64 x) ||| (BitVec.ofInt 64 (2 ^ c))).toNat).testBit c = true := by
    have : ((BitVec.ofInt 64 x) ||| (BitVec.ofInt 64 (2 ^ c))).getLsbD c = true := by rw [BitVec.getLsbD_or, hb]; simp
    exact this
  have hl := ((BitVec.ofInt 64 x) ||| (BitVec.ofInt 64 (2 ^ c))).isLt
  rw [e]
  generalize ((BitVec.ofInt 64 x) ||| (BitVec.ofInt 64 (2 ^ c))).toNat = M at ht hl ⊢
  rw [Nat.testBit_eq_decide_div_mod_eq] at ht
  exact ⟨by omega, by simpa using ht⟩
end Go.Proofs.YtalophngappkhaaGreatDoor
