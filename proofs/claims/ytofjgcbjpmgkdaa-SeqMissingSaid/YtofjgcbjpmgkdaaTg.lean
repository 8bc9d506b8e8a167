/- The walk of the law SeqMissing. -/
import Derived.Test.YtofjgcbjpmgkdaaTe
set_option linter.unusedVariables false
set_option linter.unusedSimpArgs false
set_option linter.unusedSectionVars false
namespace Go.Proofs.Ytofjgcbjpmgkdaa
open Go.RowKit Go.Shelf

set_option maxHeartbeats 1000000 in
theorem within_ok (w : World) (n : Int) : Calls Try.prog 15 #[.int .i64 n] w fun e w' => e = .returned (.int .i64 (1 + (n.tmod 16384 + 16384) % 16384)) ∧ w = w' := by
  have h1 : -16384 < n.tmod 16384 := by have := Int.lt_tmod_of_pos n (b := 16384) (by omega); omega
  have h2 : n.tmod 16384 < 16384 := Int.tmod_lt_of_pos n (by omega)
  obtain ⟨m, hm⟩ : ∃ m, n.tmod 16384 = m := ⟨_, rfl⟩
  rw [hm] at h1 h2 ⊢
  have e1 : IntKind.i64.wrap (m + 16384) = m + 16384 := IntWalk.i64_in _ (by omega)
  have h3 : 0 ≤ m + 16384 := by omega
  have hm2 : n.tmod 16384 = m := hm
  clear hm
  go_enter Try.func15, Try.ntmps15
  go_wp2
  go_ret
  exact ⟨ret_int (by omega), rfl⟩
theorem miss_facts {A : List (Int × Int)} {f n : Int} (hA : rightB A = true) (lA : A.length ≤ 30) (h1 : 1 ≤ f) (h2 : f ≤ n) (h3 : n ≤ 100000) :
    missE A f n = 0 ∧ rightB (missL A f n) = true ∧ (missL A f n).length ≤ 100 ∧ (missL A f n = [] → firstE A f n = 6) ∧ (∀ r M, missL A f n = r :: M → firstE A f n = 0 ∧ firstV A f n = r.1) ∧ (f = n → missL A f n = []) ∧
    (f ≠ n → rightB [(f, n - f)] = true ∧ missL A f n = bothL tkW [(f, n - f)] A) := by
  have hE : missE A f n = 0 := by unfold missE; rw [rerr_one0 hA, if_neg (by simp), if_neg (by omega)]
  have hL : missL A f n = if f = n then [] else bothL tkW [(f, n - f)] A := by unfold missL; rw [hE, if_neg (by simp)]
  have h4 : f ≠ n → rightB [(f, n - f)] = true := fun h => right_span h1 (by omega) (by omega)
  refine ⟨hE, ?_, ?_, fun h => ?_, fun r M h => ?_, fun h => ?_, fun h => ⟨h4 h, ?_⟩⟩
  · rw [hL]; split
    · rfl
    · rename_i h; exact both_right rfl (h4 h) hA (by simp) (by omega)
  · rw [hL]; split
    · simp
    · have := bothL_len (tk := tkW) [(f, n - f)] A; simp at this; omega
  · unfold firstE; rw [hE, if_neg (by simp), if_pos h]
  · have : firstE A f n = 0 := by unfold firstE; rw [hE, if_neg (by simp), if_neg (by rw [h]; simp)]
    refine ⟨this, ?_⟩
    unfold firstV; rw [this, if_neg (by simp), h]; rfl
  · rw [hL, if_pos h]
  · rw [hL, if_neg h]
theorem miss_laws {A S M : List (Int × Int)} (hA : rightB A = true) (lA : A.length ≤ 30) (hS : rightB S = true) (lS : S.length ≤ 30) (hM : M = bothL tkW S A) :
    rightB (bothL tkC A S) = true ∧ bothL tkU M (bothL tkC A S) = S ∧ bothL tkC M (bothL tkC A S) = [] := by
  subst hM
  have l1 := bothL_len (tk := tkW) S A
  have l2 := bothL_len (tk := tkC) A S
  have r1 := both_right (tk := tkW) rfl hS hA (by omega) (by omega)
  have r2 := both_right (tk := tkC) rfl hA hS (by omega) (by omega)
  refine ⟨r2, ?_, ?_⟩
  · exact can_unique (both_spec (take := tkU) rfl (right_len r1).2 (right_len r2).2).1 (right_len hS).2 fun n => by rw [both_has rfl r1 r2, both_has rfl hS hA, both_has rfl hA hS]; cases hasR A n <;> cases hasR S n <;> rfl
  · exact can_unique (both_spec (take := tkC) rfl (right_len r1).2 (right_len r2).2).1 (can_nil 0) fun n => by rw [both_has rfl r1 r2, both_has rfl hS hA, both_has rfl hA hS]; cases hasR A n <;> cases hasR S n <;> rfl

theorem lit_common (w : World) (v : Value) (A S C : List (Int × Int)) (x y : Int) {m : Nat} (hm : w.heap.size = m) (hv : EV encP 2 w v A) (hA : rightB A = true) (hS : rightB S = true) (hl : S = [(x, y)]) (hC : bothL tkC A S = C) :
    Calls Try.prog 19 #[v, .slice (some ⟨m, 0, none⟩) 1 1] (w.alloc (.cells #[.int .i64 x, .int .i64 y] 35)) fun e w' => ∃ r, e = .returned (.tuple #[r, .int .i64 0]) ∧ OV encP 2 35 w.heap.size w' r C ∧ Below w.heap.size w w' := by
  subst hC
  subst hl
  exact (common_r _ v _ A [(x, y)] (hv.below (bel_alloc _ _)) (EV.newM encP_len rfl rfl hm) hA hS).mono fun e w' ⟨r, h1, h2, h3⟩ => ⟨r, h1, h2.base_le (by simp), (bel_alloc _ _).trans (h3.mono (by simp))⟩
set_option maxRecDepth 100000 in
set_option maxHeartbeats 4000000 in
theorem missW_a (w : World) (a1 : Option Addr) (n1 c1 : Nat) (p q : Int) (A : List (Int × Int)) (f r V : Int)
    (MA : Hid (∀ w2, Below w.heap.size w w2 → Calls Try.prog 14 #[.slice a1 n1 c1] w2 fun e w' => ∃ r, e = .returned r ∧ OV encP 2 35 w2.heap.size w' r A ∧ Below w2.heap.size w2 w'))
    (hf : 1 + (p.tmod 16384 + 16384) % 16384 = f) (f1 : 1 ≤ f) (f2 : f ≤ 16384) (hr : 1 + (q.tmod 16384 + 16384) % 16384 = r) (r1 : 1 ≤ r) (r2 : r ≤ 16384)
    (RM : Hid (rightB [] = true)) (RA : Hid (rightB A = true))
    (MI : Hid (∀ (w : World) (v : Value), EV encP 2 w v A → Calls Try.prog 16 #[v, .int .i64 f, .int .i64 (f + r - 1)] w fun e w' => ∃ r, e = .returned (.tuple #[r, .int .i64 0]) ∧ OV encP 2 35 w.heap.size w' r [] ∧ Below w.heap.size w w'))
    (FI : Hid (∀ (w : World) (v : Value), EV encP 2 w v A → Calls Try.prog 17 #[v, .int .i64 f, .int .i64 (f + r - 1)] w fun e w' => e = .returned (.tuple #[.int .i64 V, .int .i64 6]) ∧ Below w.heap.size w w'))
    (hc : f = f + r - 1) :
    Calls Try.prog 4 #[.slice a1 n1 c1, .int .i64 p, .int .i64 q] w fun e w' => e = .returned (.bool true) ∧ Below w.heap.size w w' := by
  have F := (Facts.nil w).snoc (sB w) (Below.refl _ _)
  have hd : (f == f + r - 1) = true := by simp; omega
  clear hc
  go_enter Try.func4, Try.ntmps4
  go_wp2_with fail
  refine (awake_ok w).mono ?_
  rintro e w1 ⟨rfl, bb⟩
  replace F := F.below bb
  clear bb
  go_wp2_with fail
  refine (MA.out w1 (F.get 0)).mono ?_
  rintro e w2 ⟨a, rfl, o, bb⟩
  replace F := (F.below bb).snoc (sOV encP 2 35 w1.heap.size a A) o
  clear bb o
  go_wp2_with fail
  refine (within_ok w2 p).mono ?_
  rintro e w2 ⟨rfl, rfl⟩
  rw [hf]
  go_wp2_with fail
  refine (within_ok _ q).mono ?_
  rintro e w2 ⟨rfl, rfl⟩
  rw [hr]
  go_wp2_with fail
  refine (MI.out _ _ (OV.ev (F.get 1) encP_len)).mono ?_
  rintro e w3 ⟨m, rfl, o, bb⟩
  replace F := (F.below bb).snoc (sOV encP 2 35 _ m _) o
  clear bb o
  go_wp2_with fail
  refine (FI.out w3 a (OV.ev (F.get 1) encP_len)).mono ?_
  rintro e w4 ⟨rfl, bb⟩
  replace F := F.below bb
  clear bb
  go_wp2_with fail
  refine (right_t w4 m _ (OV.ev (F.get 2) encP_len) RM.out).mono ?_
  rintro e w5 ⟨rfl, bb⟩
  replace F := F.below bb
  clear bb
  obtain ⟨Am, cm, hsh⟩ := (OV.ev (F.get 2 : OV encP 2 35 _ _ m []) encP_len).shape
  subst hsh
  have hfin : Below w.heap.size w w5 := F.get 0
  clear F
  go_wp2
  go_ret
  exact ⟨rfl, hfin⟩
set_option maxRecDepth 100000 in
set_option maxHeartbeats 4000000 in
theorem missW_b (w : World) (a1 : Option Addr) (n1 c1 : Nat) (p q : Int) (A : List (Int × Int)) (f r V : Int)
    (MA : Hid (∀ w2, Below w.heap.size w w2 → Calls Try.prog 14 #[.slice a1 n1 c1] w2 fun e w' => ∃ r, e = .returned r ∧ OV encP 2 35 w2.heap.size w' r A ∧ Below w2.heap.size w2 w'))
    (hf : 1 + (p.tmod 16384 + 16384) % 16384 = f) (f1 : 1 ≤ f) (f2 : f ≤ 16384) (hr : 1 + (q.tmod 16384 + 16384) % 16384 = r) (r1 : 1 ≤ r) (r2 : r ≤ 16384)
    (RM : Hid (rightB [] = true)) (RA : Hid (rightB A = true))
    (MI : Hid (∀ (w : World) (v : Value), EV encP 2 w v A → Calls Try.prog 16 #[v, .int .i64 f, .int .i64 (f + r - 1)] w fun e w' => ∃ r, e = .returned (.tuple #[r, .int .i64 0]) ∧ OV encP 2 35 w.heap.size w' r [] ∧ Below w.heap.size w w'))
    (FI : Hid (∀ (w : World) (v : Value), EV encP 2 w v A → Calls Try.prog 17 #[v, .int .i64 f, .int .i64 (f + r - 1)] w fun e w' => e = .returned (.tuple #[.int .i64 V, .int .i64 6]) ∧ Below w.heap.size w w'))
    (lA : A.length ≤ 30) (hc : ¬ f = f + r - 1) (hc2 : rightB [(f, f + r - 1 - f)] = true ∧ [] = bothL tkW [(f, f + r - 1 - f)] A) :
    Calls Try.prog 4 #[.slice a1 n1 c1, .int .i64 p, .int .i64 q] w fun e w' => e = .returned (.bool true) ∧ Below w.heap.size w w' := by
  have F := (Facts.nil w).snoc (sB w) (Below.refl _ _)
  have hd : (f == f + r - 1) = false := by simp; omega
  clear hc
  have LW := miss_laws RA.out lA hc2.1 (by simp) hc2.2
  have RS := Lib.hid hc2.1
  obtain ⟨C, hC⟩ : ∃ C, bothL tkC A [(f, f + r - 1 - f)] = C := ⟨_, rfl⟩
  rw [hC] at LW
  have L1 := Lib.hid (And.intro LW.1 (And.intro hC LW.2))
  have UN := Lib.hid (fun (w : World) (v u : Value) hv hu => (union_r w v u _ _ hv hu RM.out L1.out.1))
  have CN := Lib.hid (fun (w : World) (v u : Value) hv hu => (common_r w v u _ _ hv hu RM.out L1.out.1))
  rw [L1.out.2.2.1] at UN
  rw [L1.out.2.2.2] at CN
  clear LW hC hc2

  go_enter Try.func4, Try.ntmps4
  go_wp2_with fail
  refine (awake_ok w).mono ?_
  rintro e w1 ⟨rfl, bb⟩
  replace F := F.below bb
  clear bb
  go_wp2_with fail
  refine (MA.out w1 (F.get 0)).mono ?_
  rintro e w2 ⟨a, rfl, o, bb⟩
  replace F := (F.below bb).snoc (sOV encP 2 35 w1.heap.size a A) o
  clear bb o
  go_wp2_with fail
  refine (within_ok w2 p).mono ?_
  rintro e w2 ⟨rfl, rfl⟩
  rw [hf]
  go_wp2_with fail
  refine (within_ok _ q).mono ?_
  rintro e w2 ⟨rfl, rfl⟩
  rw [hr]
  go_wp2_with fail
  refine (MI.out _ _ (OV.ev (F.get 1) encP_len)).mono ?_
  rintro e w3 ⟨m, rfl, o, bb⟩
  replace F := (F.below bb).snoc (sOV encP 2 35 _ m _) o
  clear bb o
  go_wp2_with fail
  refine (FI.out w3 a (OV.ev (F.get 1) encP_len)).mono ?_
  rintro e w4 ⟨rfl, bb⟩
  replace F := F.below bb
  clear bb
  go_wp2_with fail
  refine (right_t w4 m _ (OV.ev (F.get 2) encP_len) RM.out).mono ?_
  rintro e w5 ⟨rfl, bb⟩
  replace F := F.below bb
  clear bb
  obtain ⟨Am, cm, hsh⟩ := (OV.ev (F.get 2 : OV encP 2 35 _ _ m []) encP_len).shape
  subst hsh
  have CO := Lib.hid (lit_common w5 a A [(f, f + r - 1 - f)] _ f (f + r - 1 - f) rfl (OV.ev (F.get 1) encP_len) RA.out RS.out rfl L1.out.2.1)
  go_wp2_with fail
  refine CO.out.mono ?_
  rintro e w6 ⟨c, rfl, o, bb⟩
  replace F := (F.below bb).snoc (sOV encP 2 35 w5.heap.size c C) o
  clear bb o CO
  go_wp2_with fail
  refine (UN.out w6 _ c (OV.ev (F.get 2) encP_len) (OV.ev (F.get 3) encP_len)).mono ?_
  rintro e w7 ⟨u, rfl, o, bb⟩
  replace F := (F.below bb).snoc (sOV encP 2 35 w6.heap.size u [(f, f + r - 1 - f)]) o
  clear bb o
  go_wp2_with fail
  refine (CN.out w7 _ c (OV.ev (F.get 2) encP_len) (OV.ev (F.get 3) encP_len)).mono ?_
  rintro e w8 ⟨x, rfl, o, bb⟩
  replace F := (F.below bb).snoc (sOV encP 2 35 w7.heap.size x []) o
  clear bb o
  obtain ⟨Ax, cx, hx⟩ := (OV.ev (F.get 5 : OV encP 2 35 _ _ x []) encP_len).shape
  subst hx
  go_wp2_with fail
  refine (eqr_lit w8 u _ [(f, f + r - 1 - f)] 1 _ _ (OV.ev (F.get 4) encP_len) rfl rfl rfl (by simp) (by decide) rfl).mono ?_
  rintro e w9 ⟨rfl, bb⟩
  have hfin : Below w.heap.size w w9 := (F.below bb).get 0
  clear F bb
  go_wp2
  go_ret
  exact ⟨rfl, hfin⟩
set_option maxRecDepth 100000 in
set_option maxHeartbeats 4000000 in
theorem missW_c (w : World) (a1 : Option Addr) (n1 c1 : Nat) (p q : Int) (A : List (Int × Int)) (t : Int × Int) (M : List (Int × Int)) (f r V : Int)
    (MA : Hid (∀ w2, Below w.heap.size w w2 → Calls Try.prog 14 #[.slice a1 n1 c1] w2 fun e w' => ∃ r, e = .returned r ∧ OV encP 2 35 w2.heap.size w' r A ∧ Below w2.heap.size w2 w'))
    (hf : 1 + (p.tmod 16384 + 16384) % 16384 = f) (f1 : 1 ≤ f) (f2 : f ≤ 16384) (hr : 1 + (q.tmod 16384 + 16384) % 16384 = r) (r1 : 1 ≤ r) (r2 : r ≤ 16384)
    (RM : Hid (rightB (t :: M) = true)) (RA : Hid (rightB A = true))
    (MI : Hid (∀ (w : World) (v : Value), EV encP 2 w v A → Calls Try.prog 16 #[v, .int .i64 f, .int .i64 (f + r - 1)] w fun e w' => ∃ r, e = .returned (.tuple #[r, .int .i64 0]) ∧ OV encP 2 35 w.heap.size w' r (t :: M) ∧ Below w.heap.size w w'))
    (FI : Hid (∀ (w : World) (v : Value), EV encP 2 w v A → Calls Try.prog 17 #[v, .int .i64 f, .int .i64 (f + r - 1)] w fun e w' => e = .returned (.tuple #[.int .i64 V, .int .i64 0]) ∧ Below w.heap.size w w'))
    (hV : V = t.1) (lM : M.length ≤ 1000) (lA : A.length ≤ 30) (hc : ¬ f = f + r - 1) (hc2 : rightB [(f, f + r - 1 - f)] = true ∧ t :: M = bothL tkW [(f, f + r - 1 - f)] A) :
    Calls Try.prog 4 #[.slice a1 n1 c1, .int .i64 p, .int .i64 q] w fun e w' => e = .returned (.bool true) ∧ Below w.heap.size w w' := by
  have F := (Facts.nil w).snoc (sB w) (Below.refl _ _)
  have hd : (f == f + r - 1) = false := by simp; omega
  clear hc
  obtain ⟨t1, t2⟩ := t
  subst hV
  have LW := miss_laws RA.out lA hc2.1 (by simp) hc2.2
  have RS := Lib.hid hc2.1
  obtain ⟨C, hC⟩ : ∃ C, bothL tkC A [(f, f + r - 1 - f)] = C := ⟨_, rfl⟩
  rw [hC] at LW
  have L1 := Lib.hid (And.intro LW.1 (And.intro hC LW.2))
  have UN := Lib.hid (fun (w : World) (v u : Value) hv hu => (union_r w v u _ _ hv hu RM.out L1.out.1))
  have CN := Lib.hid (fun (w : World) (v u : Value) hv hu => (common_r w v u _ _ hv hu RM.out L1.out.1))
  rw [L1.out.2.2.1] at UN
  rw [L1.out.2.2.2] at CN
  clear LW hC hc2

  go_enter Try.func4, Try.ntmps4
  go_wp2_with fail
  refine (awake_ok w).mono ?_
  rintro e w1 ⟨rfl, bb⟩
  replace F := F.below bb
  clear bb
  go_wp2_with fail
  refine (MA.out w1 (F.get 0)).mono ?_
  rintro e w2 ⟨a, rfl, o, bb⟩
  replace F := (F.below bb).snoc (sOV encP 2 35 w1.heap.size a A) o
  clear bb o
  go_wp2_with fail
  refine (within_ok w2 p).mono ?_
  rintro e w2 ⟨rfl, rfl⟩
  rw [hf]
  go_wp2_with fail
  refine (within_ok _ q).mono ?_
  rintro e w2 ⟨rfl, rfl⟩
  rw [hr]
  go_wp2_with fail
  refine (MI.out _ _ (OV.ev (F.get 1) encP_len)).mono ?_
  rintro e w3 ⟨m, rfl, o, bb⟩
  replace F := (F.below bb).snoc (sOV encP 2 35 _ m _) o
  clear bb o
  go_wp2_with fail
  refine (FI.out w3 a (OV.ev (F.get 1) encP_len)).mono ?_
  rintro e w4 ⟨rfl, bb⟩
  replace F := F.below bb
  clear bb
  go_wp2_with fail
  refine (right_t w4 m _ (OV.ev (F.get 2) encP_len) RM.out).mono ?_
  rintro e w5 ⟨rfl, bb⟩
  replace F := F.below bb
  clear bb
  have EM := (OV.ev (F.get 2 : OV encP 2 35 _ _ m ((V, t2) :: M)) encP_len)
  obtain ⟨bm, om, cm, hsh, hcm, rm⟩ := EM.row (by simp)
  subst hsh
  obtain ⟨y0, y1⟩ := rm.prs (i := 0) (g := (V, t2)) rfl
  simp only [Nat.zero_mul, Nat.add_zero] at y0 y1
  have d5 : decide ((0 : Int) < (M.length : Int) + 1) = true := by rw [decide_eq_true_eq]; omega
  have d6 : (((M.length : Int) + 1) == 0) = false := by simp; omega
  clear EM rm
  have CO := Lib.hid (lit_common w5 a A [(f, f + r - 1 - f)] _ f (f + r - 1 - f) rfl (OV.ev (F.get 1) encP_len) RA.out RS.out rfl L1.out.2.1)
  go_wp2_with fail
  refine CO.out.mono ?_
  rintro e w6 ⟨c, rfl, o, bb⟩
  replace F := (F.below bb).snoc (sOV encP 2 35 w5.heap.size c C) o
  clear bb o CO
  go_wp2_with fail
  refine (UN.out w6 _ c (OV.ev (F.get 2) encP_len) (OV.ev (F.get 3) encP_len)).mono ?_
  rintro e w7 ⟨u, rfl, o, bb⟩
  replace F := (F.below bb).snoc (sOV encP 2 35 w6.heap.size u [(f, f + r - 1 - f)]) o
  clear bb o
  go_wp2_with fail
  refine (CN.out w7 _ c (OV.ev (F.get 2) encP_len) (OV.ev (F.get 3) encP_len)).mono ?_
  rintro e w8 ⟨x, rfl, o, bb⟩
  replace F := (F.below bb).snoc (sOV encP 2 35 w7.heap.size x []) o
  clear bb o
  obtain ⟨Ax, cx, hx⟩ := (OV.ev (F.get 5 : OV encP 2 35 _ _ x []) encP_len).shape
  subst hx
  go_wp2_with fail
  refine (eqr_lit w8 u _ [(f, f + r - 1 - f)] 1 _ _ (OV.ev (F.get 4) encP_len) rfl rfl rfl (by simp) (by decide) rfl).mono ?_
  rintro e w9 ⟨rfl, bb⟩
  have hfin : Below w.heap.size w w9 := (F.below bb).get 0
  clear F bb
  go_wp2
  go_ret
  exact ⟨rfl, hfin⟩

theorem missingLaw_walk (w : World) (a1 : Option Addr) (n1 c1 : Nat) (z1 : List Int) (p q : Int) (h1 : IsRow .u8 w a1 n1 c1 z1) :
    Calls Try.prog 4 #[.slice a1 n1 c1, .int .i64 p, .int .i64 q] w fun e w' => e = .returned (.bool true) ∧ Below w.heap.size w w' := by
  obtain ⟨A, rA, lA, MA⟩ := made_arg h1
  obtain ⟨f, hf, f1, f2⟩ : ∃ f, 1 + (p.tmod 16384 + 16384) % 16384 = f ∧ 1 ≤ f ∧ f ≤ 16384 := ⟨_, rfl, by omega, by omega⟩
  obtain ⟨r, hr, r1, r2⟩ : ∃ f, 1 + (q.tmod 16384 + 16384) % 16384 = f ∧ 1 ≤ f ∧ f ≤ 16384 := ⟨_, rfl, by omega, by omega⟩
  obtain ⟨x1, x2, x3, x4, x5, x6, x7⟩ := miss_facts (A := A) (f := f) (n := f + r - 1) rA lA (by omega) (by omega) (by omega)
  have MI := fun (w : World) (v : Value) hv => missing_ok w v A f (f + r - 1) hv (by omega)
  have FI := fun (w : World) (v : Value) hv => first_ok w v A f (f + r - 1) hv (by omega)
  rw [x1] at MI
  cases hM : missL A f (f + r - 1) with
  | nil =>
    rw [x4 hM] at FI
    rw [hM] at MI x2
    by_cases hfn : f = f + r - 1
    · exact missW_a w a1 n1 c1 p q A f r _ (Lib.hid MA) hf f1 f2 hr r1 r2 (Lib.hid x2) (Lib.hid rA) (Lib.hid MI) (Lib.hid FI) hfn
    · exact missW_b w a1 n1 c1 p q A f r _ (Lib.hid MA) hf f1 f2 hr r1 r2 (Lib.hid x2) (Lib.hid rA) (Lib.hid MI) (Lib.hid FI) lA hfn ⟨(x7 hfn).1, hM.symm.trans (x7 hfn).2⟩
  | cons t M =>
    obtain ⟨e1, e2⟩ := x5 t M hM
    rw [e1] at FI
    rw [hM] at MI x2 x3
    have hfn : ¬ f = f + r - 1 := fun h => by have := x6 h; rw [hM] at this; cases this
    exact missW_c w a1 n1 c1 p q A t M f r _ (Lib.hid MA) hf f1 f2 hr r1 r2 (Lib.hid x2) (Lib.hid rA) (Lib.hid MI) (Lib.hid FI) e2 (by simp at x3; omega) lA hfn ⟨(x7 hfn).1, hM.symm.trans (x7 hfn).2⟩
end Go.Proofs.Ytofjgcbjpmgkdaa
