/- The laws' helper one: what is told of a set is what the reference tells. -/
import Derived.Test.YtofjgcbjpmgkdaaTm
import Derived.Test.YtofjgcbjpmgkdaaSw
import Derived.Test.YtofjgcbjpmgkdaaSf
set_option linter.unusedVariables false
set_option linter.unusedSimpArgs false
set_option linter.unusedSectionVars false
namespace Go.Proofs.Ytofjgcbjpmgkdaa
open Go.RowKit Go.Shelf

set_option maxRecDepth 100000 in
set_option maxHeartbeats 4000000 in
theorem one_ok (w : World) (v : Value) (l : List (Int × Int)) (f n : Int) (hv : EV encP 2 w v l) (hl : l.length ≤ 100000) (f1 : -9223372036854775808 ≤ f) (f2 : f ≤ 9223372036854775807) :
    Calls Try.prog 32 #[v, .int .i64 f, .int .i64 n] w fun e w' => e = .returned (.bool true) ∧ Below w.heap.size w w' := by
  have F := (Facts.nil w).snoc (sB w) (Below.refl _ _)
  have HV := Lib.hid hv
  have hl8 : l.length ≤ 100000000 := by omega
  have hml : (missL l f n).length ≤ 100000000 := by have := missL_len l f n; omega
  clear hv
  go_enter Try.func32, Try.ntmps32
  go_wp2_with fail
  refine (theirs_ok w v l (HV.out.below (F.get 0)) hl8).mono ?_
  rintro e w1 ⟨r, rfl, o, bb⟩
  replace F := (F.below bb).snoc (sOV encP 2 61 w.heap.size r l) o
  have sw1 := bb.size
  have Kr := Lib.hid o.block
  clear bb o
  have HR := Lib.hid (OV.ev (F.get 1) encP_len : EV encP 2 w1 r l)
  replace F := F.snoc (sB w1) (Below.refl _ _)
  go_wp2_with fail
  refine (count_ok w1 v l (HV.out.below (F.get 0)) hl8).mono ?_
  rintro e w2 ⟨rfl, bb⟩
  replace F := F.below bb
  have sw2 := bb.size
  clear bb
  go_wp2_with fail
  refine (rcount_ok w2 r l (HR.out.below (F.get 2)) hl8).mono ?_
  rintro e w3 ⟨rfl, bb⟩
  replace F := F.below bb
  have sw3 := bb.size
  clear bb
  go_wp2_with fail
  refine (has_ok w3 v l f (HV.out.below (F.get 0)) hl8 f1 f2).mono ?_
  rintro e w4 ⟨rfl, bb⟩
  replace F := F.below bb
  have sw4 := bb.size
  clear bb
  go_wp2_with fail
  refine (rHas_ok w4 r l f (HR.out.below (F.get 2)) hl8).mono ?_
  rintro e w5 ⟨rfl, bb⟩
  replace F := F.below bb
  have sw5 := bb.size
  clear bb
  go_wp2_with fail
  refine (missing_ok w5 v l f n (HV.out.below (F.get 0)) hl8).mono ?_
  rintro e w6 ⟨m, rfl, o, bb⟩
  replace F := (F.below bb).snoc (sOV encP 2 35 w5.heap.size m (missL l f n)) o
  have sw6 := bb.size
  have Km := Lib.hid o.block
  clear bb o
  go_wp2_with fail
  refine (rmissing_ok w6 r l f n (HR.out.below (F.get 2)) hl8).mono ?_
  rintro e w7 ⟨k, rfl, o, bb⟩
  replace F := (F.below bb).snoc (sOV encP 2 61 w6.heap.size k (missL l f n)) o
  have sw7 := bb.size
  have Kk := Lib.hid o.block
  clear bb o
  go_wp2_with fail
  refine (first_ok w7 v l f n (HV.out.below (F.get 0)) hl8).mono ?_
  rintro e w8 ⟨rfl, bb⟩
  replace F := F.below bb
  have sw8 := bb.size
  clear bb
  go_wp2_with fail
  refine (rfirst_ok w8 r l f n (HR.out.below (F.get 2)) hl8).mono ?_
  rintro e w9 ⟨rfl, bb⟩
  replace F := F.below bb
  have sw9 := bb.size
  clear bb
  go_wp2_with fail
  refine (right_ok w9 v l (HV.out.below (F.get 0)) (by omega)).mono ?_
  rintro e w10 ⟨rfl, bb⟩
  replace F := F.below bb
  have sw10 := bb.size
  clear bb
  go_wp2_with fail
  refine (rright_ok w10 r l (HR.out.below (F.get 2)) (by omega)).mono ?_
  rintro e w11 ⟨rfl, bb⟩
  replace F := F.below bb
  have sw11 := bb.size
  clear bb
  go_wp2_with fail
  refine (same_true w11 m k (missL l f n) (OV.ev (F.get 3) encP_len) (OV.ev (F.get 4) encP_len) hml).mono ?_
  rintro e w12 ⟨rfl, bb⟩
  replace F := F.below bb
  have sw12 := bb.size
  clear bb
  obtain ⟨Am, cm, rfl⟩ := (OV.ev (F.get 3 : OV encP 2 35 w5.heap.size w12 m (missL l f n)) encP_len).shape
  have WM := OV.wrt encP_len (F.get 3 : OV encP 2 35 w5.heap.size w12 _ (missL l f n))
  have SP := Lib.hid (spoil_one w12 _ _ _ rfl WM (by omega) (fun g hg => by have := (Km.out g hg).2; omega))
  clear WM
  go_wp2_with fail
  refine SP.out.mono ?_
  rintro e w13 ⟨rfl, hm⟩
  have e1 := HV.out.mod_new (F.get 0) hm (fun g hg => by have := (Km.out g hg).1; omega)
  have e2 := HR.out.mod_new (F.get 2) hm (fun g hg => by have := (Km.out g hg).1; omega)
  have b1 : Below w.heap.size w w13 := (F.get 0 : Below w.heap.size w w12).trans (hm.below (fun k hk t => by have := (Km.out k t).1; omega) (by omega))
  have SM := Lib.hid (same_true w13 v r l e1 e2 hl8)
  clear e1 e2 hm F SP
  go_wp2_with fail
  refine SM.out.mono ?_
  rintro e w14 ⟨rfl, bb⟩
  have b2 := b1.trans (bb.mono b1.size)
  clear bb b1
  go_wp2
  go_ret
  exact ⟨rfl, b2⟩
end Go.Proofs.Ytofjgcbjpmgkdaa
