/- The walk of the law SeqLaws. -/
import Derived.Test.YtofjgcbjpmgkdaaTh
import Derived.Test.YtofjgcbjpmgkdaaSc
set_option linter.unusedVariables false
set_option linter.unusedSimpArgs false
set_option linter.unusedSectionVars false
namespace Go.Proofs.Ytofjgcbjpmgkdaa
open Go.RowKit Go.Shelf

theorem sets_laws {A B G : List (Int × Int)} (hA : rightB A = true) (hB : rightB B = true) (hG : rightB G = true) (lA : A.length ≤ 30) (lB : B.length ≤ 30) (lG : G.length ≤ 30) :
    (rightB (bothL tkU A B) = true ∧ rightB (bothL tkC A B) = true ∧ rightB (bothL tkW A B) = true ∧ rightB (bothL tkU B G) = true ∧ rightB (bothL tkC A G) = true) ∧
    (bothL tkU (bothL tkC A B) (bothL tkW A B) = A ∧ bothL tkC (bothL tkC A B) (bothL tkW A B) = [] ∧ bothL tkU B A = bothL tkU A B ∧ bothL tkC B A = bothL tkC A B ∧ bothL tkU A A = A ∧ bothL tkC A A = A ∧ bothL tkW A A = []) ∧
    (bothL tkU A (bothL tkU B G) = bothL tkU (bothL tkU A B) G ∧ bothL tkW (bothL tkW A B) G = bothL tkW A (bothL tkU B G) ∧ bothL tkU (bothL tkC A B) (bothL tkC A G) = bothL tkC A (bothL tkU B G)) ∧
    ((bothL tkU A B).length ≤ 120 ∧ (bothL tkC A B).length ≤ 120 ∧ (bothL tkW A B).length ≤ 120 ∧ (bothL tkU B G).length ≤ 120 ∧ (bothL tkC A G).length ≤ 120) := by
  have l1 := bothL_len (tk := tkU) A B
  have l2 := bothL_len (tk := tkC) A B
  have l3 := bothL_len (tk := tkW) A B
  have l4 := bothL_len (tk := tkU) B G
  have l5 := bothL_len (tk := tkC) A G
  have r1 := both_right (tk := tkU) rfl hA hB (by omega) (by omega)
  have r2 := both_right (tk := tkC) rfl hA hB (by omega) (by omega)
  have r3 := both_right (tk := tkW) rfl hA hB (by omega) (by omega)
  have r4 := both_right (tk := tkU) rfl hB hG (by omega) (by omega)
  have r5 := both_right (tk := tkC) rfl hA hG (by omega) (by omega)
  have h1 := fun n => both_has (tk := tkU) rfl hA hB n
  have h2 := fun n => both_has (tk := tkC) rfl hA hB n
  have h3 := fun n => both_has (tk := tkW) rfl hA hB n
  have h4 := fun n => both_has (tk := tkU) rfl hB hG n
  have h5 := fun n => both_has (tk := tkC) rfl hA hG n
  refine ⟨⟨r1, r2, r3, r4, r5⟩, ⟨?_, ?_, ?_, ?_, ?_, ?_, ?_⟩, ⟨?_, ?_, ?_⟩, ⟨by omega, by omega, by omega, by omega, by omega⟩⟩
  · exact right_ext (both_right rfl r2 r3 (by omega) (by omega)) hA fun n => by rw [both_has rfl r2 r3, h2, h3]; cases hasR A n <;> cases hasR B n <;> rfl
  · exact right_ext (both_right rfl r2 r3 (by omega) (by omega)) rfl fun n => by rw [both_has rfl r2 r3, h2, h3]; cases hasR A n <;> cases hasR B n <;> rfl
  · exact right_ext (both_right rfl hB hA (by omega) (by omega)) r1 fun n => by rw [both_has rfl hB hA, h1]; cases hasR A n <;> cases hasR B n <;> rfl
  · exact right_ext (both_right rfl hB hA (by omega) (by omega)) r2 fun n => by rw [both_has rfl hB hA, h2]; cases hasR A n <;> cases hasR B n <;> rfl
  · exact right_ext (both_right rfl hA hA (by omega) (by omega)) hA fun n => by rw [both_has rfl hA hA]; cases hasR A n <;> rfl
  · exact right_ext (both_right rfl hA hA (by omega) (by omega)) hA fun n => by rw [both_has rfl hA hA]; cases hasR A n <;> rfl
  · exact right_ext (both_right rfl hA hA (by omega) (by omega)) rfl fun n => by rw [both_has rfl hA hA]; cases hasR A n <;> rfl
  · exact right_ext (both_right rfl hA r4 (by omega) (by omega)) (both_right rfl r1 hG (by omega) (by omega)) fun n => by rw [both_has rfl hA r4, both_has rfl r1 hG, h1, h4]; cases hasR A n <;> cases hasR B n <;> cases hasR G n <;> rfl
  · exact right_ext (both_right rfl r3 hG (by omega) (by omega)) (both_right rfl hA r4 (by omega) (by omega)) fun n => by rw [both_has rfl hA r4, both_has rfl r3 hG, h3, h4]; cases hasR A n <;> cases hasR B n <;> cases hasR G n <;> rfl
  · exact right_ext (both_right rfl r2 r5 (by omega) (by omega)) (both_right rfl hA r4 (by omega) (by omega)) fun n => by rw [both_has rfl hA r4, both_has rfl r2 r5, h2, h5, h4]; cases hasR A n <;> cases hasR B n <;> cases hasR G n <;> rfl

set_option maxRecDepth 100000 in
set_option maxHeartbeats 8000000 in
theorem lawsLaw_walk (w : World) (a1 : Option Addr) (n1 c1 : Nat) (z1 : List Int) (a2 : Option Addr) (n2 c2 : Nat) (z2 : List Int) (a3 : Option Addr) (n3 c3 : Nat) (z3 : List Int) (h1 : IsRow .u8 w a1 n1 c1 z1) (h2 : IsRow .u8 w a2 n2 c2 z2) (h3 : IsRow .u8 w a3 n3 c3 z3) :
    Calls Try.prog 7 #[.slice a1 n1 c1, .slice a2 n2 c2, .slice a3 n3 c3] w fun e w' => e = .returned (.bool true) ∧ Below w.heap.size w w' := by
  obtain ⟨A, rA, lA, MA⟩ := made_arg h1
  obtain ⟨B, rB, lB, MB⟩ := made_arg h2
  obtain ⟨G, rG, lG, MG⟩ := made_arg h3
  have F : Facts w [sB w] := ⟨Below.refl _ _, trivial⟩
  have RA := Lib.hid rA
  have RB := Lib.hid rB
  have RG := Lib.hid rG
  have MA := Lib.hid MA
  have MB := Lib.hid MB
  have MG := Lib.hid MG
  obtain ⟨⟨p1, p2, p3, p4, p5⟩, ⟨e1, e2, e3, e4, e5, e6, e7⟩, ⟨e8, e9, e10⟩, ⟨l1, l2, l3, l4, l5⟩⟩ := sets_laws rA rB rG lA lB lG
  have CL := cnt_law rA rB (by omega) (by omega)
  have q1 := cnt_rng p1
  have q2 := cnt_rng p2
  have q3 := cnt_rng rA
  have q4 := cnt_rng rB
  have NA := Lib.hid (fun (w : World) (X : Nat) (v : Value) hX hv => do_n w X v A hX hv rA)
  have NB := Lib.hid (fun (w : World) (X : Nat) (v : Value) hX hv => do_n w X v B hX hv rB)
  have NU := Lib.hid (fun (w : World) (X : Nat) (v : Value) hX hv => do_n w X v (bothL tkU A B) hX hv p1)
  have NC := Lib.hid (fun (w : World) (X : Nat) (v : Value) hX hv => do_n w X v (bothL tkC A B) hX hv p2)
  generalize cntR A = kA at *
  generalize cntR B = kB at *
  generalize cntR (bothL tkU A B) = kU at *
  generalize cntR (bothL tkC A B) = kC at *
  have hne : (kU + kC != kA + kB) = false := by simp; omega
  obtain ⟨U, hU⟩ : ∃ U, bothL tkU A B = U := ⟨_, rfl⟩
  obtain ⟨C, hC⟩ : ∃ U, bothL tkC A B = U := ⟨_, rfl⟩
  obtain ⟨D, hD⟩ : ∃ U, bothL tkW A B = U := ⟨_, rfl⟩
  obtain ⟨V, hV⟩ : ∃ U, bothL tkU B G = U := ⟨_, rfl⟩
  obtain ⟨K, hK⟩ : ∃ U, bothL tkC A G = U := ⟨_, rfl⟩
  rw [hU] at p1 l1 e3 e8 NU
  rw [hC] at p2 l2 e1 e2 e4 e10 NC
  rw [hD] at p3 l3 e1 e2 e9
  rw [hV] at p4 l4 e8 e9 e10
  rw [hK] at p5 l5 e10
  obtain ⟨S1, hS1⟩ : ∃ U', bothL tkU U G = U' := ⟨_, rfl⟩
  obtain ⟨S2, hS2⟩ : ∃ U', bothL tkW A V = U' := ⟨_, rfl⟩
  obtain ⟨S3, hS3⟩ : ∃ U', bothL tkC A V = U' := ⟨_, rfl⟩
  have ls1 := Lib.hid (show S1.length ≤ 1000000000 from by have := bothL_len (tk := tkU) U G; rw [hS1] at this; omega)
  have ls2 := Lib.hid (show S2.length ≤ 1000000000 from by have := bothL_len (tk := tkW) A V; rw [hS2] at this; omega)
  have ls3 := Lib.hid (show S3.length ≤ 1000000000 from by have := bothL_len (tk := tkC) A V; rw [hS3] at this; omega)
  rw [hS1] at e8
  rw [hS2] at e9
  rw [hS3] at e10
  have HU := Lib.hid hU
  have HC := Lib.hid hC
  have HD := Lib.hid hD
  have HV := Lib.hid hV
  have HK := Lib.hid hK
  have HS1 := Lib.hid hS1
  have HS2 := Lib.hid hS2
  have HS3 := Lib.hid hS3
  have E1 := Lib.hid e1
  have E2 := Lib.hid e2
  have E3 := Lib.hid e3
  have E4 := Lib.hid e4
  have E5 := Lib.hid e5
  have E6 := Lib.hid e6
  have E7 := Lib.hid e7
  have E8 := Lib.hid e8
  have E9 := Lib.hid e9
  have E10 := Lib.hid e10
  have RU := Lib.hid p1
  have mU := Lib.hid (show U.length ≤ 1000000000 from by omega)
  have RC := Lib.hid p2
  have mC := Lib.hid (show C.length ≤ 1000000000 from by omega)
  have RD := Lib.hid p3
  have mD := Lib.hid (show D.length ≤ 1000000000 from by omega)
  have RV := Lib.hid p4
  have mV := Lib.hid (show V.length ≤ 1000000000 from by omega)
  have RK := Lib.hid p5
  have mK := Lib.hid (show K.length ≤ 1000000000 from by omega)
  have mA := Lib.hid (show A.length ≤ 1000000000 from by omega)
  clear h1 h2 h3 rA rB rG lA lB lG p1 p2 p3 p4 p5 e1 e2 e3 e4 e5 e6 e7 e8 e9 e10 l1 l2 l3 l4 l5 hU hC hD hV hK hS1 hS2 hS3 CL
  go_enter Try.func7, Try.ntmps7
  go_wp2_with fail
  refine (awake_ok w).mono ?_
  rintro e w1 ⟨rfl, bb⟩
  replace F := F.below bb
  clear bb
  go_wp2_with fail
  refine (MA.out w1 (F.get 0)).mono ?_
  rintro e w2 ⟨a, rfl, o, bb⟩
  replace F : Facts w2 (sOV encP 2 35 w1.heap.size a A :: _) := ⟨o, F.below bb⟩
  clear bb o
  go_wp2_with fail
  refine (MB.out w2 (F.get 1)).mono ?_
  rintro e w3 ⟨b, rfl, o, bb⟩
  replace F : Facts w3 (sOV encP 2 35 w2.heap.size b B :: _) := ⟨o, F.below bb⟩
  clear bb o
  go_wp2_with fail
  refine (MG.out w3 (F.get 2)).mono ?_
  rintro e w4 ⟨g, rfl, o, bb⟩
  replace F : Facts w4 (sOV encP 2 35 w3.heap.size g G :: _) := ⟨o, F.below bb⟩
  clear bb o
  replace F : Facts (w4.alloc (.cells #[.int .i64 0] 28)) (sBox w4.heap.size :: _) := ⟨⟨(Blk.new w4 28 #[.int .i64 0]).cell 0 rfl, (Blk.new w4 28 #[.int .i64 0]).frozen 0⟩, F.below (bel_alloc w4 (.cells #[.int .i64 0] 28))⟩
  have sw5 : w4.heap.size ≤ (w4.alloc (.cells #[.int .i64 0] 28)).heap.size := by simp
  go_wp2_with fail
  generalize w4.alloc (.cells #[.int .i64 0] 28) = w5 at F sw5 ⊢
  obtain ⟨X, hX⟩ : ∃ X, w4.heap.size = X := ⟨_, rfl⟩
  rw [hX] at F ⊢
  clear hX
  go_wp2_with fail
  refine (do_union w5 X a b _ _ U (F.get 0) (OV.ev (F.get 3) encP_len) (OV.ev (F.get 2) encP_len) RA.out RB.out HU.out).mono ?_
  rintro e w6 ⟨u, rfl, o, bb⟩
  replace F : Facts w6 (sOV encP 2 35 w5.heap.size u U :: _) := ⟨o, F.below bb⟩
  clear bb o
  go_wp2_with fail
  refine (do_common w6 X a b _ _ C (F.get 1) (OV.ev (F.get 4) encP_len) (OV.ev (F.get 3) encP_len) RA.out RB.out HC.out).mono ?_
  rintro e w7 ⟨c, rfl, o, bb⟩
  replace F : Facts w7 (sOV encP 2 35 w6.heap.size c C :: _) := ⟨o, F.below bb⟩
  clear bb o
  go_wp2_with fail
  refine (do_without w7 X a b _ _ D (F.get 2) (OV.ev (F.get 5) encP_len) (OV.ev (F.get 4) encP_len) RA.out RB.out HD.out).mono ?_
  rintro e w8 ⟨d, rfl, o, bb⟩
  replace F : Facts w8 (sOV encP 2 35 w7.heap.size d D :: _) := ⟨o, F.below bb⟩
  clear bb o
  go_wp2_with fail
  refine (NU.out w8 X u (F.get 3) (OV.ev (F.get 2) encP_len)).mono ?_
  rintro e w9 ⟨rfl, bb⟩
  replace F := F.below bb
  clear bb
  go_wp2_with fail
  refine (NC.out w9 X c (F.get 3) (OV.ev (F.get 1) encP_len)).mono ?_
  rintro e w10 ⟨rfl, bb⟩
  replace F := F.below bb
  clear bb
  go_wp2_with fail
  refine (NA.out w10 X a (F.get 3) (OV.ev (F.get 6) encP_len)).mono ?_
  rintro e w11 ⟨rfl, bb⟩
  replace F := F.below bb
  clear bb
  go_wp2_with fail
  refine (NB.out w11 X b (F.get 3) (OV.ev (F.get 5) encP_len)).mono ?_
  rintro e w12 ⟨rfl, bb⟩
  replace F := F.below bb
  clear bb
  go_wp2_with fail
  refine (do_union w12 X c d _ _ A (F.get 3) (OV.ev (F.get 1) encP_len) (OV.ev (F.get 0) encP_len) RC.out RD.out E1.out).mono ?_
  rintro e w13 ⟨r1, rfl, o, bb⟩
  replace F : Facts w13 (sOV encP 2 35 w12.heap.size r1 A :: _) := ⟨o, F.below bb⟩
  clear bb o
  clear q1 q2 q3 q4 hne
  go_wp2_with fail
  refine (equal_run_same w13 r1 a A (OV.ev (F.get 0) encP_len) (OV.ev (F.get 7) encP_len) mA.out).mono ?_
  rintro e w14 ⟨rfl, bb⟩
  replace F := F.below bb
  clear bb
  go_wp2_with fail
  refine (do_common w14 X c d _ _ [] (F.get 4) (OV.ev (F.get 2) encP_len) (OV.ev (F.get 1) encP_len) RC.out RD.out E2.out).mono ?_
  rintro e w15 ⟨r2, rfl, o, bb⟩
  replace F : Facts w15 (sOV encP 2 35 w14.heap.size r2 [] :: _) := ⟨o, F.below bb⟩
  clear bb o
  obtain ⟨Ar2, cr2, hr2⟩ := (OV.ev (F.get 0 : OV encP 2 35 _ _ r2 []) encP_len).shape
  rw [hr2] at F ⊢
  clear hr2
  go_wp2_with fail
  refine (do_union w15 X b a _ _ U (F.get 5) (OV.ev (F.get 7) encP_len) (OV.ev (F.get 8) encP_len) RB.out RA.out E3.out).mono ?_
  rintro e w16 ⟨r3, rfl, o, bb⟩
  replace F : Facts w16 (sOV encP 2 35 w15.heap.size r3 U :: _) := ⟨o, F.below bb⟩
  clear bb o
  go_wp2_with fail
  refine (equal_run_same w16 r3 u U (OV.ev (F.get 0) encP_len) (OV.ev (F.get 5) encP_len) mU.out).mono ?_
  rintro e w17 ⟨rfl, bb⟩
  replace F := F.below bb
  clear bb
  go_wp2_with fail
  refine (do_common w17 X b a _ _ C (F.get 6) (OV.ev (F.get 8) encP_len) (OV.ev (F.get 9) encP_len) RB.out RA.out E4.out).mono ?_
  rintro e w18 ⟨r4, rfl, o, bb⟩
  replace F : Facts w18 (sOV encP 2 35 w17.heap.size r4 C :: _) := ⟨o, F.below bb⟩
  clear bb o
  go_wp2_with fail
  refine (equal_run_same w18 r4 c C (OV.ev (F.get 0) encP_len) (OV.ev (F.get 5) encP_len) mC.out).mono ?_
  rintro e w19 ⟨rfl, bb⟩
  replace F := F.below bb
  clear bb
  go_wp2_with fail
  refine (do_union w19 X a a _ _ A (F.get 7) (OV.ev (F.get 10) encP_len) (OV.ev (F.get 10) encP_len) RA.out RA.out E5.out).mono ?_
  rintro e w20 ⟨r5, rfl, o, bb⟩
  replace F : Facts w20 (sOV encP 2 35 w19.heap.size r5 A :: _) := ⟨o, F.below bb⟩
  clear bb o
  go_wp2_with fail
  refine (equal_run_same w20 r5 a A (OV.ev (F.get 0) encP_len) (OV.ev (F.get 11) encP_len) mA.out).mono ?_
  rintro e w21 ⟨rfl, bb⟩
  replace F := F.below bb
  clear bb
  go_wp2_with fail
  refine (do_common w21 X a a _ _ A (F.get 8) (OV.ev (F.get 11) encP_len) (OV.ev (F.get 11) encP_len) RA.out RA.out E6.out).mono ?_
  rintro e w22 ⟨r6, rfl, o, bb⟩
  replace F : Facts w22 (sOV encP 2 35 w21.heap.size r6 A :: _) := ⟨o, F.below bb⟩
  clear bb o
  go_wp2_with fail
  refine (equal_run_same w22 r6 a A (OV.ev (F.get 0) encP_len) (OV.ev (F.get 12) encP_len) mA.out).mono ?_
  rintro e w23 ⟨rfl, bb⟩
  replace F := F.below bb
  clear bb
  go_wp2_with fail
  refine (do_without w23 X a a _ _ [] (F.get 9) (OV.ev (F.get 12) encP_len) (OV.ev (F.get 12) encP_len) RA.out RA.out E7.out).mono ?_
  rintro e w24 ⟨r7, rfl, o, bb⟩
  replace F : Facts w24 (sOV encP 2 35 w23.heap.size r7 [] :: _) := ⟨o, F.below bb⟩
  clear bb o
  obtain ⟨Ar7, cr7, hr7⟩ := (OV.ev (F.get 0 : OV encP 2 35 _ _ r7 []) encP_len).shape
  rw [hr7] at F ⊢
  clear hr7
  go_wp2_with fail
  refine (do_union w24 X a b _ _ U (F.get 10) (OV.ev (F.get 13) encP_len) (OV.ev (F.get 12) encP_len) RA.out RB.out HU.out).mono ?_
  rintro e w25 ⟨r8, rfl, o, bb⟩
  replace F : Facts w25 (sOV encP 2 35 w24.heap.size r8 U :: _) := ⟨o, F.below bb⟩
  clear bb o
  go_wp2_with fail
  refine (do_union w25 X r8 g _ _ S1 (F.get 11) (OV.ev (F.get 0) encP_len) (OV.ev (F.get 12) encP_len) RU.out RG.out HS1.out).mono ?_
  rintro e w26 ⟨r9, rfl, o, bb⟩
  replace F : Facts w26 (sOV encP 2 35 w25.heap.size r9 S1 :: _) := ⟨o, F.below bb⟩
  clear bb o
  go_wp2_with fail
  refine (do_union w26 X b g _ _ V (F.get 12) (OV.ev (F.get 14) encP_len) (OV.ev (F.get 13) encP_len) RB.out RG.out HV.out).mono ?_
  rintro e w27 ⟨r10, rfl, o, bb⟩
  replace F : Facts w27 (sOV encP 2 35 w26.heap.size r10 V :: _) := ⟨o, F.below bb⟩
  clear bb o
  go_wp2_with fail
  refine (do_union w27 X a r10 _ _ S1 (F.get 13) (OV.ev (F.get 16) encP_len) (OV.ev (F.get 0) encP_len) RA.out RV.out E8.out).mono ?_
  rintro e w28 ⟨r11, rfl, o, bb⟩
  replace F : Facts w28 (sOV encP 2 35 w27.heap.size r11 S1 :: _) := ⟨o, F.below bb⟩
  clear bb o
  go_wp2_with fail
  refine (equal_run_same w28 r9 r11 S1 (OV.ev (F.get 2) encP_len) (OV.ev (F.get 0) encP_len) ls1.out).mono ?_
  rintro e w29 ⟨rfl, bb⟩
  replace F := F.below bb
  clear bb
  go_wp2_with fail
  refine (do_union w29 X b g _ _ V (F.get 14) (OV.ev (F.get 16) encP_len) (OV.ev (F.get 15) encP_len) RB.out RG.out HV.out).mono ?_
  rintro e w30 ⟨r12, rfl, o, bb⟩
  replace F : Facts w30 (sOV encP 2 35 w29.heap.size r12 V :: _) := ⟨o, F.below bb⟩
  clear bb o
  go_wp2_with fail
  refine (do_without w30 X a r12 _ _ S2 (F.get 15) (OV.ev (F.get 18) encP_len) (OV.ev (F.get 0) encP_len) RA.out RV.out HS2.out).mono ?_
  rintro e w31 ⟨r13, rfl, o, bb⟩
  replace F : Facts w31 (sOV encP 2 35 w30.heap.size r13 S2 :: _) := ⟨o, F.below bb⟩
  clear bb o
  go_wp2_with fail
  refine (do_without w31 X a b _ _ D (F.get 16) (OV.ev (F.get 19) encP_len) (OV.ev (F.get 18) encP_len) RA.out RB.out HD.out).mono ?_
  rintro e w32 ⟨r14, rfl, o, bb⟩
  replace F : Facts w32 (sOV encP 2 35 w31.heap.size r14 D :: _) := ⟨o, F.below bb⟩
  clear bb o
  go_wp2_with fail
  refine (do_without w32 X r14 g _ _ S2 (F.get 17) (OV.ev (F.get 0) encP_len) (OV.ev (F.get 18) encP_len) RD.out RG.out E9.out).mono ?_
  rintro e w33 ⟨r15, rfl, o, bb⟩
  replace F : Facts w33 (sOV encP 2 35 w32.heap.size r15 S2 :: _) := ⟨o, F.below bb⟩
  clear bb o
  go_wp2_with fail
  refine (equal_run_same w33 r13 r15 S2 (OV.ev (F.get 2) encP_len) (OV.ev (F.get 0) encP_len) ls2.out).mono ?_
  rintro e w34 ⟨rfl, bb⟩
  replace F := F.below bb
  clear bb
  go_wp2_with fail
  refine (do_union w34 X b g _ _ V (F.get 18) (OV.ev (F.get 20) encP_len) (OV.ev (F.get 19) encP_len) RB.out RG.out HV.out).mono ?_
  rintro e w35 ⟨r16, rfl, o, bb⟩
  replace F : Facts w35 (sOV encP 2 35 w34.heap.size r16 V :: _) := ⟨o, F.below bb⟩
  clear bb o
  go_wp2_with fail
  refine (do_common w35 X a r16 _ _ S3 (F.get 19) (OV.ev (F.get 22) encP_len) (OV.ev (F.get 0) encP_len) RA.out RV.out HS3.out).mono ?_
  rintro e w36 ⟨r17, rfl, o, bb⟩
  replace F : Facts w36 (sOV encP 2 35 w35.heap.size r17 S3 :: _) := ⟨o, F.below bb⟩
  clear bb o
  go_wp2_with fail
  refine (do_common w36 X a b _ _ C (F.get 20) (OV.ev (F.get 23) encP_len) (OV.ev (F.get 22) encP_len) RA.out RB.out HC.out).mono ?_
  rintro e w37 ⟨r18, rfl, o, bb⟩
  replace F : Facts w37 (sOV encP 2 35 w36.heap.size r18 C :: _) := ⟨o, F.below bb⟩
  clear bb o
  go_wp2_with fail
  refine (do_common w37 X a g _ _ K (F.get 21) (OV.ev (F.get 24) encP_len) (OV.ev (F.get 22) encP_len) RA.out RG.out HK.out).mono ?_
  rintro e w38 ⟨r19, rfl, o, bb⟩
  replace F : Facts w38 (sOV encP 2 35 w37.heap.size r19 K :: _) := ⟨o, F.below bb⟩
  clear bb o
  go_wp2_with fail
  refine (do_union w38 X r18 r19 _ _ S3 (F.get 22) (OV.ev (F.get 1) encP_len) (OV.ev (F.get 0) encP_len) RC.out RK.out E10.out).mono ?_
  rintro e w39 ⟨r20, rfl, o, bb⟩
  replace F : Facts w39 (sOV encP 2 35 w38.heap.size r20 S3 :: _) := ⟨o, F.below bb⟩
  clear bb o
  go_wp2_with fail
  refine (equal_run_same w39 r17 r20 S3 (OV.ev (F.get 3) encP_len) (OV.ev (F.get 0) encP_len) ls3.out).mono ?_
  rintro e w40 ⟨rfl, bb⟩
  replace F := F.below bb
  clear bb
  have hb : w40.cell? ⟨X, 0, none⟩ = some (.int .i64 0) := (F.get 23 : (sBox X).p w40).1
  have hfin : Below w.heap.size w w40 := F.get 27
  clear F
  go_wp2
  go_ret
  exact ⟨rfl, hfin⟩
end Go.Proofs.Ytofjgcbjpmgkdaa
