/- The laws' helper two: what is made of two sets is what the reference makes. -/
import Derived.Test.YtofjgcbjpmgkdaaTm
import Derived.Test.YtofjgcbjpmgkdaaSv
set_option linter.unusedVariables false
set_option linter.unusedSimpArgs false
set_option linter.unusedSectionVars false
namespace Go.Proofs.Ytofjgcbjpmgkdaa
open Go.RowKit Go.Shelf

theorem rboth7 (w : World) (v u : Value) (a b : List (Int × Int)) (hv : EV encP 2 w v a) (hu : EV encP 2 w u b) (hla : a.length ≤ 100000000) (hlb : b.length ≤ 100000000) :
    Calls Try.prog 33 #[v, u, .int .i64 7] w fun e w' => ∃ r, e = .returned (.tuple #[r, .int .i64 (rerr [a, b])]) ∧ OV encP 2 61 w.heap.size w' r (if rerr [a, b] = 0 then bothL tkU a b else []) ∧ Below w.heap.size w w' := by
  have := rboth_ok w v u a b 7 hv hu hla hlb (by omega) (by omega); rwa [tkT7] at this
theorem rboth4 (w : World) (v u : Value) (a b : List (Int × Int)) (hv : EV encP 2 w v a) (hu : EV encP 2 w u b) (hla : a.length ≤ 100000000) (hlb : b.length ≤ 100000000) :
    Calls Try.prog 33 #[v, u, .int .i64 4] w fun e w' => ∃ r, e = .returned (.tuple #[r, .int .i64 (rerr [a, b])]) ∧ OV encP 2 61 w.heap.size w' r (if rerr [a, b] = 0 then bothL tkC a b else []) ∧ Below w.heap.size w w' := by
  have := rboth_ok w v u a b 4 hv hu hla hlb (by omega) (by omega); rwa [tkT4] at this
theorem rboth1 (w : World) (v u : Value) (a b : List (Int × Int)) (hv : EV encP 2 w v a) (hu : EV encP 2 w u b) (hla : a.length ≤ 100000000) (hlb : b.length ≤ 100000000) :
    Calls Try.prog 33 #[v, u, .int .i64 1] w fun e w' => ∃ r, e = .returned (.tuple #[r, .int .i64 (rerr [a, b])]) ∧ OV encP 2 61 w.heap.size w' r (if rerr [a, b] = 0 then bothL tkW a b else []) ∧ Below w.heap.size w w' := by
  have := rboth_ok w v u a b 1 hv hu hla hlb (by omega) (by omega); rwa [tkT1] at this

set_option maxRecDepth 100000 in
set_option maxHeartbeats 4000000 in
theorem two_ok (w : World) (v v2 : Value) (a b : List (Int × Int)) (hv : EV encP 2 w v a) (hv2 : EV encP 2 w v2 b) (hla : a.length ≤ 100000) (hlb : b.length ≤ 100000) :
    Calls Try.prog 12 #[v, v2] w fun e w' => e = .returned (.bool true) ∧ Below w.heap.size w w' := by
  have F := (Facts.nil w).snoc (sB w) (Below.refl _ _)
  have HA := Lib.hid hv
  have HB := Lib.hid hv2
  have la : a.length ≤ 100000000 := by omega
  have lb : b.length ≤ 100000000 := by omega
  have LU : (if rerr [a, b] = 0 then bothL tkU a b else []).length ≤ 100000000 := by have := bothI_len (tk := tkU) (c := rerr [a, b] = 0) a b; omega
  have LC : (if rerr [a, b] = 0 then bothL tkC a b else []).length ≤ 100000000 := by have := bothI_len (tk := tkC) (c := rerr [a, b] = 0) a b; omega
  have LW : (if rerr [a, b] = 0 then bothL tkW a b else []).length ≤ 100000000 := by have := bothI_len (tk := tkW) (c := rerr [a, b] = 0) a b; omega
  have U1 := Lib.hid (union_ok (a := a) (b := b))
  have U2 := Lib.hid (common_ok (a := a) (b := b))
  have U3 := Lib.hid (without_ok (a := a) (b := b))
  have R1 := Lib.hid (rboth7 (a := a) (b := b))
  have R2 := Lib.hid (rboth4 (a := a) (b := b))
  have R3 := Lib.hid (rboth1 (a := a) (b := b))
  generalize (if rerr [a, b] = 0 then bothL tkU a b else []) = lU at *
  generalize (if rerr [a, b] = 0 then bothL tkC a b else []) = lC at *
  generalize (if rerr [a, b] = 0 then bothL tkW a b else []) = lW at *
  generalize rerr [a, b] = re at *
  clear hv hv2
  go_enter Try.func12, Try.ntmps12
  go_wp2_with fail
  refine (theirs_ok w v a (HA.out.below (F.get 0)) la).mono ?_
  rintro e w1 ⟨x, rfl, o, bb⟩
  replace F := (F.below bb).snoc (sOV encP 2 61 w.heap.size x a) o
  have sw1 := bb.size
  have Kx := Lib.hid o.block
  clear bb o
  have HX := Lib.hid (OV.ev (F.get 1) encP_len : EV encP 2 w1 x a)
  replace F := F.snoc (sB w1) (Below.refl _ _)
  go_wp2_with fail
  refine (theirs_ok w1 v2 b (HB.out.below (F.get 0)) lb).mono ?_
  rintro e w2 ⟨y, rfl, o, bb⟩
  replace F := (F.below bb).snoc (sOV encP 2 61 w1.heap.size y b) o
  have sw2 := bb.size
  have Ky := Lib.hid o.block
  clear bb o
  have HY := Lib.hid (OV.ev (F.get 3) encP_len : EV encP 2 w2 y b)
  replace F := F.snoc (sB w2) (Below.refl _ _)
  go_wp2_with fail
  refine (U1.out w2 v v2 (HA.out.below (F.get 0)) (HB.out.below (F.get 0)) la lb).mono ?_
  rintro e w3 ⟨u, rfl, o, bb⟩
  replace F := (F.below bb).snoc (sOV encP 2 35 w2.heap.size u lU) o
  have sw3 := bb.size
  have Ku := Lib.hid o.block
  clear bb o
  go_wp2_with fail
  refine (U2.out w3 v v2 (HA.out.below (F.get 0)) (HB.out.below (F.get 0)) la lb).mono ?_
  rintro e w4 ⟨c, rfl, o, bb⟩
  replace F := (F.below bb).snoc (sOV encP 2 35 w3.heap.size c lC) o
  have sw4 := bb.size
  have Kc := Lib.hid o.block
  clear bb o
  go_wp2_with fail
  refine (U3.out w4 v v2 (HA.out.below (F.get 0)) (HB.out.below (F.get 0)) la lb).mono ?_
  rintro e w5 ⟨d, rfl, o, bb⟩
  replace F := (F.below bb).snoc (sOV encP 2 35 w4.heap.size d lW) o
  have sw5 := bb.size
  have Kd := Lib.hid o.block
  clear bb o
  go_wp2_with fail
  refine (R1.out w5 x y (HX.out.below (F.get 2)) (HY.out.below (F.get 4)) la lb).mono ?_
  rintro e w6 ⟨p, rfl, o, bb⟩
  replace F := (F.below bb).snoc (sOV encP 2 61 w5.heap.size p lU) o
  have sw6 := bb.size
  have Kp := Lib.hid o.block
  clear bb o
  go_wp2_with fail
  refine (R2.out w6 x y (HX.out.below (F.get 2)) (HY.out.below (F.get 4)) la lb).mono ?_
  rintro e w7 ⟨q, rfl, o, bb⟩
  replace F := (F.below bb).snoc (sOV encP 2 61 w6.heap.size q lC) o
  have sw7 := bb.size
  have Kq := Lib.hid o.block
  clear bb o
  go_wp2_with fail
  refine (R3.out w7 x y (HX.out.below (F.get 2)) (HY.out.below (F.get 4)) la lb).mono ?_
  rintro e w8 ⟨s, rfl, o, bb⟩
  replace F := (F.below bb).snoc (sOV encP 2 61 w7.heap.size s lW) o
  have sw8 := bb.size
  have Ks := Lib.hid o.block
  clear bb o
  go_wp2_with fail
  refine (same_true w8 u p lU (OV.ev (F.get 5) encP_len) (OV.ev (F.get 8) encP_len) LU).mono ?_
  rintro e w9 ⟨rfl, bb⟩
  replace F := F.below bb
  have sw9 := bb.size
  clear bb
  go_wp2_with fail
  refine (same_true w9 c q lC (OV.ev (F.get 6) encP_len) (OV.ev (F.get 9) encP_len) LC).mono ?_
  rintro e w10 ⟨rfl, bb⟩
  replace F := F.below bb
  have sw10 := bb.size
  clear bb
  go_wp2_with fail
  refine (same_true w10 d s lW (OV.ev (F.get 7) encP_len) (OV.ev (F.get 10) encP_len) LW).mono ?_
  rintro e w11 ⟨rfl, bb⟩
  replace F := F.below bb
  have sw11 := bb.size
  clear bb
  obtain ⟨Au, cu, rfl⟩ := (OV.ev (F.get 5 : OV encP 2 35 w2.heap.size w11 u lU) encP_len).shape
  have WM := OV.wrt encP_len (F.get 5 : OV encP 2 35 w2.heap.size w11 _ lU)
  have SP := Lib.hid (spoil_one w11 _ _ _ rfl WM (by omega) (fun g hg => by have := (Ku.out g hg).2; omega))
  clear WM
  go_wp2_with fail
  refine SP.out.mono ?_
  rintro e w12 ⟨rfl, hm⟩
  have G : Facts w12 [sB w, sB w1, sB w2, sOV encP 2 35 w3.heap.size c lC, sOV encP 2 35 w4.heap.size d lW, sOV encP 2 61 w6.heap.size q lC, sOV encP 2 61 w7.heap.size s lW] :=
    ⟨(F.get 0 : Below w.heap.size w w11).trans (hm.below (fun k hk t => by have := (Ku.out k t).1; omega) (by omega)),
     (F.get 2 : Below w1.heap.size w1 w11).trans (hm.below (fun k hk t => by have := (Ku.out k t).1; omega) (by omega)),
     (F.get 4 : Below w2.heap.size w2 w11).trans (hm.below (fun k hk t => by have := (Ku.out k t).1; omega) (by omega)),
     (F.get 6 : OV encP 2 35 w3.heap.size w11 c lC).mod_old hm (fun g hg => (Ku.out g hg).2),
     (F.get 7 : OV encP 2 35 w4.heap.size w11 d lW).mod_old hm (fun g hg => by have := (Ku.out g hg).2; omega),
     (F.get 9 : OV encP 2 61 w6.heap.size w11 q lC).mod_old hm (fun g hg => by have := (Ku.out g hg).2; omega),
     (F.get 10 : OV encP 2 61 w7.heap.size w11 s lW).mod_old hm (fun g hg => by have := (Ku.out g hg).2; omega), trivial⟩
  have sw12 := hm.size
  clear F hm SP
  have F := G
  clear G
  go_wp2_with fail
  refine (same_true w12 c q lC (OV.ev (F.get 3) encP_len) (OV.ev (F.get 5) encP_len) LC).mono ?_
  rintro e w13 ⟨rfl, bb⟩
  replace F := F.below bb
  have sw13 := bb.size
  clear bb
  go_wp2_with fail
  refine (same_true w13 d s lW (OV.ev (F.get 4) encP_len) (OV.ev (F.get 6) encP_len) LW).mono ?_
  rintro e w14 ⟨rfl, bb⟩
  replace F := F.below bb
  have sw14 := bb.size
  clear bb
  obtain ⟨Ac, cc, rfl⟩ := (OV.ev (F.get 3 : OV encP 2 35 w3.heap.size w14 c lC) encP_len).shape
  obtain ⟨Ad, cd, rfl⟩ := (OV.ev (F.get 4 : OV encP 2 35 w4.heap.size w14 d lW) encP_len).shape
  have WM := OV.wrt encP_len (F.get 3 : OV encP 2 35 w3.heap.size w14 _ lC)
  have WM2 := OV.wrt encP_len (F.get 4 : OV encP 2 35 w4.heap.size w14 _ lW)
  have SP := Lib.hid (spoil_two w14 _ _ _ _ _ rfl WM WM2 (by omega) (by omega) (fun g hg => by have := (Kc.out g hg).2; omega) (fun g hg => by have := (Kd.out g hg).2; omega))
  clear WM WM2
  go_wp2_with fail
  refine SP.out.mono ?_
  rintro e w15 ⟨rfl, hm⟩
  have hlo : ∀ g, (Value.ownBlock (.slice Ac lC.length cc) = some g ∨ Value.ownBlock (.slice Ad lW.length cd) = some g) → w2.heap.size ≤ g := fun g hg => by
    rcases hg with hg | hg
    · have := (Kc.out g hg).1; omega
    · have := (Kd.out g hg).1; omega
  have G : Facts w15 [sB w, sEV encP 2 v a, sEV encP 2 v2 b, sEV encP 2 x a, sEV encP 2 y b] :=
    ⟨(F.get 0 : Below w.heap.size w w14).trans (hm.below (fun k hk t => by have := hlo k t; omega) (by omega)),
     HA.out.mod_new (F.get 0) hm (fun g hg => by have := hlo g hg; omega),
     HB.out.mod_new (F.get 0) hm (fun g hg => by have := hlo g hg; omega),
     HX.out.mod_new (F.get 1) hm (fun g hg => by have := hlo g hg; omega),
     HY.out.mod_new (F.get 2) hm (fun g hg => by have := hlo g hg; omega), trivial⟩
  clear F hm SP hlo
  have F := G
  clear G
  go_wp2_with fail
  refine (same_true w15 v x a (F.get 1) (F.get 3) la).mono ?_
  rintro e w16 ⟨rfl, bb⟩
  replace F := F.below bb
  have sw16 := bb.size
  clear bb
  go_wp2_with fail
  refine (same_true w16 v2 y b (F.get 2) (F.get 4) lb).mono ?_
  rintro e w17 ⟨rfl, bb⟩
  replace F := F.below bb
  have sw17 := bb.size
  clear bb
  have hfin : Below w.heap.size w w17 := F.get 0
  clear F
  go_wp2
  go_ret
  exact ⟨rfl, hfin⟩
end Go.Proofs.Ytofjgcbjpmgkdaa
