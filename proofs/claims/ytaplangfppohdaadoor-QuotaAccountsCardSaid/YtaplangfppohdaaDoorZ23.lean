/- Made of the laws of quotas: the walk through what happens. -/
import Derived.Test.YtaplangfppohdaaDoorZ22
import Derived.StillTailTactics
set_option linter.unusedVariables false
set_option linter.unusedSimpArgs false
set_option linter.unusedSectionVars false
namespace Go.Proofs.YtaplangfppohdaaDoor
open Go.RowKit Go.Shelf
attribute [local go_sem] Oper.semAt_some

/-- The event but for its time. -/
def mkEv0 (G : Nat) (m : Md) (x : Sq) : Ev := { mkEv G m x with time := 0 }
theorem encE_time (e : Ev) (t : Int) : encE { e with time := t } = (encE { e with time := 0 }).set 1 (.int .i64 t) := rfl
theorem mkEv_time (G : Nat) (m : Md) (x : Sq) : encE (mkEv G m x) = (encE (mkEv0 G m x)).set 1 (.int .i64 (mkEv G m x).time) := rfl
section
variable {G : Nat} {m : Md} {x : Sq}
theorem mk_spawn (h : x.k % 8 = 0) : mkEv0 G m x = ⟨1 + 2 * (m.ev.length : Int), 0, sqC x, 1, m.nx, ((x.g % G : Nat) : Int), 0, 1, 0, 7, 0⟩ ∧ (mkEv G m x).time = m.ck (sqC x) ∧ (mdStep G m x).th = m.th ++ [m.nx] ∧ (mdStep G m x).nx = m.nx + 1 := by
  unfold mdStep mkEv0 mkEv
  simp only [if_pos h]
  exact ⟨trivial, trivial, trivial, trivial⟩
theorem mk_exit (h0 : ¬ x.k % 8 = 0) (h : x.k % 8 = 1 ∧ 1 < m.th.length) : mkEv0 G m x = ⟨1 + 2 * (m.ev.length : Int), 0, sqC x, 4, 0, 0, 0, 0, 0, 0, pickT m x⟩ ∧ (mkEv G m x).time = m.ck (sqC x) ∧ (mdStep G m x).th = m.th.eraseIdx (x.t % m.th.length) ∧ (mdStep G m x).nx = m.nx := by
  unfold mdStep mkEv0 mkEv
  simp only [if_neg h0, if_pos h]
  exact ⟨trivial, trivial, trivial, trivial⟩
theorem mk_tick (h0 : ¬ x.k % 8 = 0) (h : ¬ (x.k % 8 = 1 ∧ 1 < m.th.length)) : mkEv0 G m x = ⟨1 + 2 * (m.ev.length : Int), 0, sqC x, 5, 0, 0, 0, 0, sqT x, 0, if 2 < x.k % 8 then pickT m x else 0⟩ ∧ (mkEv G m x).time = m.ck (sqC x) + sqT x ∧ (mdStep G m x).th = m.th ∧ (mdStep G m x).nx = m.nx := by
  unfold mdStep mkEv0 mkEv
  simp only [if_neg h0, if_neg h]
  exact ⟨trivial, trivial, trivial, trivial⟩
theorem ck_keep (h : (mkEv G m x).time = m.ck (sqC x)) (c : Int) : m.ck c = (mdStep G m x).ck c := by
  show m.ck c = if c = sqC x then (mkEv G m x).time else m.ck c
  rw [h]
  split
  · rename_i e; rw [e]
  · rfl
theorem ck_step (c : Int) : (mdStep G m x).ck c = if c = sqC x then (mkEv G m x).time else m.ck c := rfl
end
theorem elemEv : ElemT Tryd.prog 39 59 11 80 := ⟨Tryd.underlying39, by
  have h : (Tryd.prog.info? 59).map (fun i => (i.zero, i.size, i.bytes)) = some (some (.agg #[.int .i64 0, .int .i64 0, .int .u8 0, .int .u8 0, .int .i64 0, .int .i64 0, .int .i64 0, .int .i64 0, .int .i64 0, .int .u64 0, .int .i64 0]), 11, 80) := by kernel_rfl
  obtain ⟨i, h1, h2, h3, h4⟩ := info_parts h
  exact ⟨i, _, h1, h2, h3, h4, rfl⟩, by omega, by omega⟩
theorem ER.sq {w : World} {b off : Nat} {l : List Sq} (h : ER encSq 5 w b off l) {j : Nat} {x : Sq} (hx : l[j]? = some x) :
    w.cell? ⟨b, off + j * 5, none⟩ = some (.int .u8 (x.k : Nat)) ∧ w.cell? ⟨b, off + j * 5 + 1, none⟩ = some (.int .u8 (x.c : Nat)) ∧ w.cell? ⟨b, off + j * 5 + 2, none⟩ = some (.int .u8 (x.t : Nat)) ∧ w.cell? ⟨b, off + j * 5 + 3, none⟩ = some (.int .u8 (x.g : Nat)) ∧ w.cell? ⟨b, off + j * 5 + 4, none⟩ = some (.int .u16 (x.n : Nat)) :=
  ⟨h j x hx 0 _ rfl, h j x hx 1 _ rfl, h j x hx 2 _ rfl, h j x hx 3 _ rfl, h j x hx 4 _ rfl⟩
theorem OV.not_ev {base E : Nat} {w : World} {v : Value} {xs : List Int} {e : Ev} (h : OV encI 1 3 base w v xs) (he : EvB w E e) : v.ownBlock ≠ some E :=
  h.not_typ ⟨_, _, he.obj⟩ (by decide)
theorem new_evM {w : World} {e : Ev} {m : Nat} (hm : w.heap.size = m) : EV encE 11 (w.alloc (.cells (encE e).toArray 59)) (.slice (some ⟨m, 0, none⟩) 1 1) [e] := EV.newM (e := 59) (xs := [e]) (n := 1) encE_len (by simp) rfl hm
set_option maxRecDepth 100000 in
set_option maxHeartbeats 3200000 in
theorem md_tail (w wc : World) (G n L Y cg cl : Nat) (Ag Al : Option Addr) (vh th : Value) (gs hs : List (Int × Int)) (l : List Sq) (Post : Ending → World → Prop) {u0 u2 u3 u4 u5 u6 u10 u14 u15 u16 u17 u18 u19 u20 u21 u22 u23 u24 u25 u26 u27 u28 u29 u30 u31 u32 u33 u34 u35 u36 u37 u38 u39 u40 u41 u42 u43 u44 u45 u46 u47 u48 u49 u50 u51 u52 u53 u54 u55 u56 u57 u58 u59 u60 u61 u62 u63 u64 u65 u66 u67 u68 u69 u70 u71 u72 u73 u74 u75 u76 u77 u78 u79 u80 u81 u82 u83 u84 u85 u86 u87 u88 u89 u90 u91 u92 u93 u94 u95 u96 u97 u98 u99 u100 u101 u102 u103 u104 u105 u106 u107 u108 u109 u110 u111 u112 u113 u114 u115 u116 u117 u118 u119 u120 u121 u122 u123 u124 u125 u126 u127 u128 u129 u130 u131 u132 u133 u134 u135 u136 u137 u138 u139 u140 u141 u142 u143 u144 u145 u146 u147 u148 u149 u150 u151 u152 u153 u154 u155 u156 : Value}
    (HL : Hid (EV encSq 5 w (.slice Al n cl) l)) (HN : Hid (n = l.length ∧ n ≤ 60 ∧ n = min L 60 ∧ L ≤ 9223372036854775807 ∧ (0 < L → L ≤ cl) ∧ (Al = none → L = 0))) (HOK : Hid (∀ x ∈ l, SqOk x)) (HG : Hid (0 < G ∧ G ≤ 256))
    (HM : Hid (MW w Y (.slice Ag G cg) vh th (.slice none 0 0) gs hs (md0 G).th [] (md0 G).ck wc)) (FIN : Hid (∀ w' ve th', MW w Y (.slice Ag G cg) vh th' ve gs hs (mdJ G l n).th (mdJ G l n).ev (mdJ G l n).ck w' → Post (.returned (.tuple #[.slice Ag G cg, vh, ve])) w')) :
    Code.wp Tryd.prog (tailR Tryd.f15 13) (bodyPost Tryd.prog Tryd.f15 Post)
      ⟨#[u0, .slice Al L cl, u2, u3, u4, u5, u6, .slice Ag G cg, vh, th, u10, .slice none 0 0, .pointer (some ⟨Y, 0, none⟩), .int .i64 ((G : Int) + 1), u14, u15, u16, u17, u18, u19, u20, u21, u22, u23, u24, u25, u26, u27, u28, u29, u30, u31, u32, u33, u34, u35, u36, u37, u38, u39, u40, u41, u42, u43, u44, u45, u46, u47, u48, u49, u50, u51, u52, u53, u54, u55, u56, u57, u58, u59, u60, u61, u62, u63, u64, u65, u66, u67, u68, u69, u70, u71, u72, u73, u74, u75, u76, u77, u78, u79, u80, u81, u82, u83, u84, u85, u86, u87, u88, u89, u90, u91, u92, u93, u94, u95, u96, u97, u98, u99, u100, u101, u102, u103, u104, u105, u106, u107, u108, u109, u110, u111, u112, u113, u114, u115, u116, u117, u118, u119, u120, u121, u122, u123, u124, u125, u126, u127, u128, u129, u130, u131, u132, u133, u134, u135, u136, u137, u138, u139, u140, u141, u142, u143, u144, u145, u146, u147, u148, u149, u150, u151, u152, u153, u154, u155, u156], []⟩ wc := by
  conv => arg 2; whnf
  conv => arg 4; dsimp only
  have h1 := HN.out.2.1
  have h2 := HN.out.2.2.1
  have h3 := HN.out.2.2.2.1
  have h4 := HN.out.2.2.2.2.1
  have hAL := HN.out.2.2.2.2.2
  go_upto_block 2 with fail
  rw [show (min (L : Int) 60).toNat = min L 60 from by omega, show max (min (L : Int) 60) 0 = ((min L 60 : Nat) : Int) from by omega, ← h2]
  have HNL := Lib.hid HN.out.1
  have hnL : n ≤ L := by omega
  clear h2 h3 h4 hAL
  go_wp2
  go_loopg [9, 11, 13, 53] n (fun k tv ev nx i wr => ∃ j : Nat, j + k = n ∧ i = .int .i64 j ∧ nx = .int .i64 (mdJ G l j).nx ∧ MW w Y (.slice Ag G cg) vh tv ev gs hs (mdJ G l j).th (mdJ G l j).ev (mdJ G l j).ck wr)
  case atStart => exact ⟨0, by omega, rfl, rfl, HM.out⟩
  case round =>
    obtain ⟨j, hj, rfl, rfl, hm⟩ := hrel
    have HJ := Lib.hid hj
    have HMW := Lib.hid hm
    clear hj hm
    by_cases hlt : j < n
    · obtain ⟨x, hx⟩ : ∃ x, l[j]? = some x := ⟨_, List.getElem?_eq_getElem (by rw [← HNL.out]; exact hlt)⟩
      obtain ⟨b, off, c', hs, hc, hr⟩ := (HL.out.below HMW.out.low).row (by rw [← HNL.out]; omega)
      simp only [Value.slice.injEq] at hs
      obtain ⟨rfl, hz, rfl⟩ := hs
      clear hz
      obtain ⟨x0, x1, x2, x3, x4⟩ := hr.sq hx
      have HX := Lib.hid (HOK.out x (List.mem_of_getElem? hx))
      have HEQ := Lib.hid (mdJ_succ (G := G) hx)
      have HLN := Lib.hid (mdJ_evlen (G := G) (l := l) j (by rw [← HNL.out]; omega))
      have HIN := Lib.hid (show MdIn G (mdJ G l j) from by
        obtain ⟨s, hs⟩ := mdJ_all (G := G) (l := l) HG.out.1 HG.out.2 (by rw [← HNL.out]; omega) j (by rw [← HNL.out]; omega)
        exact hs.i)
      generalize mdJ G l j = m at HMW HEQ HLN HIN ⊢
      clear hx hr hc
      obtain ⟨k1, k2, k3, k4, k5⟩ := HX.out
      obtain ⟨c, hcc⟩ : ∃ c, x.c % 3 = c := ⟨_, rfl⟩
      have hci : (x.c : Int) % 3 = (c : Int) := by omega
      have hc3 : c < 3 := by omega
      have HC := Lib.hid (show sqC x = (c : Int) from by unfold sqC; rw [hcc])
      go_upto_block 4 with fail
      obtain ⟨X, hX⟩ : ∃ X, wr.heap.size = X := ⟨_, rfl⟩
      obtain ⟨w3, hw3⟩ : ∃ w3, w3 = (wr.alloc (.cells #[.int .u8 (x.k : Nat), .int .u8 (x.c : Nat), .int .u8 (x.t : Nat), .int .u8 (x.g : Nat), .int .u16 (x.n : Nat)] 56)).alloc (.cells #[.int .i64 (1 + 2 * (j : Int)), .int .i64 0, .int .u8 (c : Nat), .int .u8 5, .int .i64 0, .int .i64 0, .int .i64 0, .int .i64 0, .int .i64 0, .int .u64 0, .int .i64 0] 59) := ⟨_, rfl⟩
      have y0 : w3.cell? ⟨X, 0, none⟩ = some (.int .u8 (x.k : Nat)) := by rw [hw3, ← hX]; go_simp
      have y2 : w3.cell? ⟨X, 2, none⟩ = some (.int .u8 (x.t : Nat)) := by rw [hw3, ← hX]; go_simp
      have y3 : w3.cell? ⟨X, 3, none⟩ = some (.int .u8 (x.g : Nat)) := by rw [hw3, ← hX]; go_simp
      have y4 : w3.cell? ⟨X, 4, none⟩ = some (.int .u16 (x.n : Nat)) := by rw [hw3, ← hX]; go_simp
      have HW := Lib.hid (show MW w Y (.slice Ag G cg) vh u9 u11 gs hs m.th m.ev m.ck w3 from by rw [hw3]; exact HMW.out.below (bel_alloc2 wr _ _))
      have HE := Lib.hid (show EvB w3 (X + 1) ⟨1 + 2 * (j : Int), 0, (c : Int), 5, 0, 0, 0, 0, 0, 0, 0⟩ from by
        have := EvB.new (wr.alloc (.cells #[.int .u8 (x.k : Nat), .int .u8 (x.c : Nat), .int .u8 (x.t : Nat), .int .u8 (x.g : Nat), .int .u16 (x.n : Nat)] 56)) ⟨1 + 2 * (j : Int), 0, (c : Int), 5, 0, 0, 0, 0, 0, 0, 0⟩
        rw [World.size_alloc, hX] at this
        rw [hw3]; exact this)
      have HNE := Lib.hid (HMW.out.new_ne (E := X + 1) (by omega))
      have HYX := Lib.hid (show Y < X from by have := HMW.out.lt.2; omega)
      rw [hX, ← hw3]
      clear hw3 hX x0 x1 x2 x3 x4 HMW
      obtain ⟨TL, hTL⟩ : ∃ TL, m.th.length = TL := ⟨_, rfl⟩
      obtain ⟨g9, cap9, rfl, hcap9, _⟩ := HW.out.oth.row_form encI_len hTL (by have := HIN.out.pos; omega)
      have HTL := Lib.hid hTL
      have HTB := Lib.hid (show 0 < TL ∧ TL ≤ 400 from by have h1 := HIN.out.pos; have h2 := HIN.out.len; have := HG.out.2; rw [HLN.out] at h2; omega)
      have hTLi : (0 : Int) < (TL : Int) := by have := HTB.out; omega
      clear hTL
      rw [hci]
      go_cut [9, 13] (fun tv nx wx => nx = .int .i64 (mdStep G m x).nx ∧ MW w Y (.slice Ag G cg) vh tv u11 gs hs (mdStep G m x).th m.ev (mdStep G m x).ck wx ∧ EvB wx (X + 1) (mkEv0 G m x))
      case first =>
        by_cases e0 : x.k % 8 = 0
        · have hk8 : ((x.k : Int) % 8 == 0) = true := by simp; omega
          have hG0 : ((G : Int) == 0) = false := by have := HG.out; simp; omega
          have hG1 : (1 : Int) ≤ G := by have := HG.out; omega
          have c3 := HE.out.cell (j := 3) rfl
          have c4 := HE.out.cell (j := 4) rfl
          have c5 := HE.out.cell (j := 5) rfl
          have c7 := HE.out.cell (j := 7) rfl
          have c9 := HE.out.cell (j := 9) rfl
          have f3 := HE.out.frz 3
          have f4 := HE.out.frz 4
          have f5 := HE.out.frz 5
          have f7 := HE.out.frz 7
          have f9 := HE.out.frz 9
          go_upto_region 23 with fail
          go_region
          obtain ⟨w4, hw4⟩ : ∃ w4, w4 = (((((w3.setCell ⟨X + 1, 3, none⟩ (.int .u8 1)).setCell ⟨X + 1, 4, none⟩ (.int .i64 m.nx)).setCell ⟨X + 1, 5, none⟩ (.int .i64 ((x.g : Int) % (G : Int)))).setCell ⟨X + 1, 7, none⟩ (.int .i64 1)).setCell ⟨X + 1, 9, none⟩ (.int .u64 7)).drew := ⟨_, rfl⟩
          have HW4 := Lib.hid (show MW w Y (.slice Ag G cg) vh (.slice (some ⟨g9, 0, none⟩) TL cap9) u11 gs hs m.th m.ev m.ck w4 from by
            rw [hw4]
            exact (((((HW.out.set (p := ⟨X + 1, 3, none⟩) _ HNE.out.2.2 HNE.out.2.1 HNE.out.1).set (p := ⟨X + 1, 4, none⟩) _ HNE.out.2.2 HNE.out.2.1 HNE.out.1).set (p := ⟨X + 1, 5, none⟩) _ HNE.out.2.2 HNE.out.2.1 HNE.out.1).set (p := ⟨X + 1, 7, none⟩) _ HNE.out.2.2 HNE.out.2.1 HNE.out.1).set (p := ⟨X + 1, 9, none⟩) _ HNE.out.2.2 HNE.out.2.1 HNE.out.1).below (below_drew (Below.refl _ _)))
          have HE4 := Lib.hid (show EvB w4 (X + 1) (mkEv0 G m x) from by
            have h5 : EvB ((((w3.setCell ⟨X + 1, 3, none⟩ (.int .u8 1)).setCell ⟨X + 1, 4, none⟩ (.int .i64 m.nx)).setCell ⟨X + 1, 5, none⟩ (.int .i64 ((x.g : Int) % (G : Int)))).setCell ⟨X + 1, 7, none⟩ (.int .i64 1)) (X + 1) ⟨1 + 2 * (j : Int), 0, (c : Int), 1, m.nx, (x.g : Int) % (G : Int), 0, 1, 0, 0, 0⟩ :=
              (((HE.out.set (e' := ⟨1 + 2 * (j : Int), 0, (c : Int), 1, 0, 0, 0, 0, 0, 0, 0⟩) 3 _ rfl).set (e' := ⟨1 + 2 * (j : Int), 0, (c : Int), 1, m.nx, 0, 0, 0, 0, 0, 0⟩) 4 _ rfl).set (e' := ⟨1 + 2 * (j : Int), 0, (c : Int), 1, m.nx, (x.g : Int) % (G : Int), 0, 0, 0, 0, 0⟩) 5 _ rfl).set 7 _ rfl
            have h6 := h5.set (e' := ⟨1 + 2 * (j : Int), 0, (c : Int), 1, m.nx, (x.g : Int) % (G : Int), 0, 1, 0, 7, 0⟩) 9 (.int .u64 7) rfl
            rw [(mk_spawn e0).1, hw4, HLN.out, HC.out, Int.natCast_emod]
            exact h6.same rfl)
          rw [← hw4]
          have HTM := Lib.hid (mk_spawn (G := G) (m := m) e0).2
          clear hw4 c3 c4 c5 c7 c9 f3 f4 f5 f7 f9 y0 y2 y3 y4
          have hnx := HIN.out.nx
          rw [HLN.out] at hnx
          have hnx2 : m.nx + 1 ≤ 10000 := by have := HG.out.2; omega
          go_wp2_with (at_builtin; refine wpList_app elemI encI_len encI_one rfl _ _ rfl _ _ rfl rfl (HW4.out.oth.alloc _) (new_oneM (z := m.nx) (by simp)) ?q1 ?q2 ?_)
          case q1 => rw [HTL.out]; simp; have := HTB.out; omega
          case q2 => have := HW4.out.low.size; simp; omega
          intro v' w5 ho5 hg5
          have HA := (HW4.out.below (bel_alloc w4 (.cells #[.int .i64 m.nx] 3))).grow_th hg5 ho5
          have HE5 := Lib.hid ((HE4.out.same (Below.heap_alloc w4 (.cells #[.int .i64 m.nx] 3) _ HE4.out.lt)).same (hg5.block (X + 1) (by have := HE4.out.lt; simp; omega) (fun e => HNE.out.1 _ (.inr (.inr (.inl rfl))) e.symm)))
          have HA5 := Lib.hid HA
          clear HA ho5 hg5
          go_wp2
          go_meet
          refine ⟨by rw [HTM.out.2.2], ?_, HE5.out⟩
          rw [HTM.out.2.1]
          exact HA5.out.congr (fun q _ => ck_keep HTM.out.1 q)
        · by_cases e1 : x.k % 8 = 1 ∧ 1 < TL
          · have hk8 : ((x.k : Int) % 8 == 0) = false := by simp; omega
            have hk9 : ((x.k : Int) % 8 == 1) = true := by simp; omega
            have hTL1 : (1 : Int) < (TL : Int) := by omega
            have hTL0 : ((TL : Int) == 0) = false := by simp; omega
            obtain ⟨q, hq⟩ : ∃ q, x.t % TL = q := ⟨_, rfl⟩
            have hqi : (x.t : Int) % (TL : Int) = (q : Int) := by rw [← hq]; simp
            have hqt : q < TL := by rw [← hq]; exact Nat.mod_lt _ (by omega)
            have hq4 : q ≤ 1000 := by have := HTB.out; omega
            have HQ := Lib.hid hq
            have c3 := HE.out.cell (j := 3) rfl
            have c10 := HE.out.cell (j := 10) rfl
            have f3 := HE.out.frz 3
            have f10 := HE.out.frz 10
            have hp := ((HW.out.oth.ev encI_len).row3 (by rw [HTL.out]; omega)).i1 (lz_get (l := m.th) (j := q) (by rw [HTL.out]; exact hqt))
            rw [Nat.zero_add] at hp
            dsimp only at c3 c10
            clear hq
            go_upto_region 28 with fail
            rw [hqi]
            have hp2 : (w3.setCell ⟨X + 1, 3, none⟩ (.int .u8 4)).cell? ⟨g9, q, none⟩ = some (.int .i64 (lz m.th q)) := (World.cell?_setCell_other _ _ _ _ (by intro e; exact HNE.out.1 _ (.inr (.inr (.inl rfl))) (by have := congrArg Addr.block e; simp only at this; simp [Value.ownBlock, this]))).trans hp
            go_big_region
            obtain ⟨w4, hw4⟩ : ∃ w4, w4 = ((w3.setCell ⟨X + 1, 3, none⟩ (.int .u8 4)).setCell ⟨X + 1, 10, none⟩ (.int .i64 (lz m.th q))).drew := ⟨_, rfl⟩
            have HW4 := Lib.hid (show MW w Y (.slice Ag G cg) vh (.slice (some ⟨g9, 0, none⟩) TL cap9) u11 gs hs m.th m.ev m.ck w4 from by
              rw [hw4]
              exact ((HW.out.set (p := ⟨X + 1, 3, none⟩) _ HNE.out.2.2 HNE.out.2.1 HNE.out.1).set (p := ⟨X + 1, 10, none⟩) _ HNE.out.2.2 HNE.out.2.1 HNE.out.1).below (below_drew (Below.refl _ _)))
            have HPK := Lib.hid (show pickT m x = lz m.th q from by unfold pickT; rw [HTL.out, HQ.out])
            have HE4 := Lib.hid (show EvB w4 (X + 1) (mkEv0 G m x) from by
              have h5 := (HE.out.set (e' := ⟨1 + 2 * (j : Int), 0, (c : Int), 4, 0, 0, 0, 0, 0, 0, 0⟩) 3 (.int .u8 4) rfl).set (e' := ⟨1 + 2 * (j : Int), 0, (c : Int), 4, 0, 0, 0, 0, 0, 0, lz m.th q⟩) 10 (.int .i64 (lz m.th q)) rfl
              rw [(mk_exit e0 (by rw [HTL.out]; exact e1)).1, hw4, HLN.out, HC.out, HPK.out]
              exact h5.same rfl)
            rw [← hw4]
            have HTM := Lib.hid (mk_exit (G := G) (m := m) e0 (by rw [HTL.out]; exact e1)).2
            have HD := Lib.hid (delete_int w4 _ m.th w.heap.size q HW4.out.oth (by rw [HTL.out]; exact hqt) (by rw [HTL.out]; have := HTB.out; omega))
            clear hw4 c3 c10 f3 f10 y0 y2 y3 y4 hp hp2
            go_wp2_with fail
            refine HD.out.mono ?_
            rintro e w5 ⟨v', rfl, ho5, hg5, _⟩
            have HA5 := Lib.hid (HW4.out.grow_th hg5 ho5)
            have HE5 := Lib.hid (HE4.out.same (hg5.block (X + 1) HE4.out.lt (fun e => HNE.out.1 _ (.inr (.inr (.inl rfl))) e.symm)))
            clear ho5 hg5
            go_wp2
            go_meet
            refine ⟨by rw [HTM.out.2.2], ?_, HE5.out⟩
            rw [HTM.out.2.1, HTL.out, HQ.out]
            exact HA5.out.congr (fun q _ => ck_keep HTM.out.1 q)
          · have hk8 : ((x.k : Int) % 8 == 0) = false := by simp; omega
            have HTM := Lib.hid (mk_tick (G := G) (m := m) e0 (by rw [HTL.out]; exact e1))
            rcases (show (x.k % 8 = 1 ∧ ¬ 1 < TL) ∨ (¬ x.k % 8 = 1 ∧ ¬ 2 < x.k % 8) ∨ (¬ x.k % 8 = 1 ∧ 2 < x.k % 8) from by omega) with ⟨e2, e3⟩ | ⟨e2, e3⟩ | ⟨e2, e3⟩
            · have hk9 : ((x.k : Int) % 8 == 1) = true := by simp; omega
              have hTLd : decide ((1 : Int) < (TL : Int)) = false := by simp; omega
              have hTLe : decide (1 < TL) = false := by simp; omega
              have hk2 : decide ((2 : Int) < (x.k : Int) % 8) = false := by simp; omega
              have HK2 := Lib.hid (show ¬ 2 < x.k % 8 from by omega)
              clear e1 e2 e3 e0
              have c8 := HE.out.cell (j := 8) rfl
              have f8 := HE.out.frz 8
              obtain ⟨z, hz⟩ : ∃ z : Nat, x.n % 200 = z := ⟨_, rfl⟩
              have hzi : (x.n : Int) % 200 = (z : Int) := by omega
              have hz2 : z < 200 := by omega
              have HT := Lib.hid (show sqT x = 1 + (z : Int) from by unfold sqT; rw [hz])
              obtain ⟨q0, q1⟩ := HW.out.ck c hc3
              have hck := HIN.out.ck (c : Int)
              have hj6 : j ≤ 60 := by omega
              rw [HLN.out] at hck
              go_upto_region 19 with fail
              obtain ⟨w4, hw4⟩ : ∃ w4, w4 = w3.setCell ⟨X + 1, 8, none⟩ (.int .i64 (1 + (z : Int))) := ⟨_, rfl⟩
              have hyx := HYX.out
              have HW4 := Lib.hid (show MW w Y (.slice Ag G cg) vh (.slice (some ⟨g9, 0, none⟩) TL cap9) u11 gs hs m.th m.ev m.ck w4 from by rw [hw4]; exact HW.out.set (p := ⟨X + 1, 8, none⟩) _ HNE.out.2.2 HNE.out.2.1 HNE.out.1)
              have HE4 := Lib.hid (show EvB w4 (X + 1) ⟨1 + 2 * (j : Int), 0, (c : Int), 5, 0, 0, 0, 0, 1 + (z : Int), 0, 0⟩ from by rw [hw4]; exact HE.out.set 8 _ rfl)
              have z0 : w4.cell? ⟨X, 0, none⟩ = some (.int .u8 (x.k : Nat)) := by rw [hw4]; go_simp
              have z2 : w4.cell? ⟨X, 2, none⟩ = some (.int .u8 (x.t : Nat)) := by rw [hw4]; go_simp
              have q0 := (HW4.out.ck c hc3).1
              have q1 := (HW4.out.ck c hc3).2
              have e8 := HE4.out.cell (j := 8) rfl
              dsimp only at e8
              have hci2 : IntKind.i64.wrap (m.ck (c : Int) + (1 + (z : Int))) = m.ck (c : Int) + (1 + (z : Int)) := IntWalk.i64_in _ (by omega)
              have hs1 : (c : Int).toNat = c := by omega
              have hs2 : (c : Int) < 3 := by omega
              have hs3 : (0 : Int) ≤ (c : Int) := by omega
              have hs4 : IntKind.i64.wrap (c : Int) = (c : Int) := IntWalk.i64_in _ (by omega)
              rw [← hw4]
              clear hw4 c8 f8 y0 y2 y3 y4
              go_still_tail 7, (by kernel_rfl)
              change wpList _ _ _ _ _ w4.drew
              have HW5 := Lib.hid ((HW4.out.below (below_drew (Below.refl _ _))).clock hc3 (m.ck (c : Int) + (1 + (z : Int))))
              have HE5 := Lib.hid (show EvB (w4.drew.setCell ⟨Y, c, none⟩ (.int .i64 (m.ck (c : Int) + (1 + (z : Int))))) (X + 1) ⟨1 + 2 * (j : Int), 0, (c : Int), 5, 0, 0, 0, 0, 1 + (z : Int), 0, 0⟩ from (HE4.out.same (w' := w4.drew) rfl).same (Below.heap_setCell _ _ _ _ (by show X + 1 ≠ Y; omega)))
              have q2 : w4.drew.cell? ⟨Y, c, none⟩ = some (.int .i64 (m.ck (c : Int))) := q0
              have q3 : w4.drew.frozen? ⟨Y, c, none⟩ = false := q1
              have t0 : (w4.drew.setCell ⟨Y, c, none⟩ (.int .i64 (m.ck (c : Int) + (1 + (z : Int))))).cell? ⟨X, 0, none⟩ = some (.int .u8 (x.k : Nat)) := (World.cell?_setCell_other _ _ _ _ (by simp <;> omega)).trans z0
              have t2 : (w4.drew.setCell ⟨Y, c, none⟩ (.int .i64 (m.ck (c : Int) + (1 + (z : Int))))).cell? ⟨X, 2, none⟩ = some (.int .u8 (x.t : Nat)) := (World.cell?_setCell_other _ _ _ _ (by simp <;> omega)).trans z2
              clear q0 q1 e8 z0 z2
              generalize w4.drew = w5 at HW5 HE5 q2 q3 t0 t2 ⊢
              go_upto_region 20 with fail
              generalize w5.setCell ⟨Y, c, none⟩ (.int .i64 (m.ck (c : Int) + (1 + (z : Int)))) = w6 at HW5 HE5 t0 t2 ⊢
              clear q2 q3
              go_wp2
              go_meet
              refine ⟨by rw [HTM.out.2.2.2], ?_, ?_⟩
              · rw [HTM.out.2.2.1]
                exact HW5.out.congr (fun q _ => by rw [ck_step, HTM.out.2.1, HC.out, HT.out])
              · rw [HTM.out.1, HLN.out, HC.out, HT.out, if_neg HK2.out]
                exact HE5.out
            · have hk9 : ((x.k : Int) % 8 == 1) = false := by simp; omega
              have hk2 : decide ((2 : Int) < (x.k : Int) % 8) = false := by simp; omega
              have HK2 := Lib.hid e3
              clear e1 e2 e3 e0
              have c8 := HE.out.cell (j := 8) rfl
              have f8 := HE.out.frz 8
              obtain ⟨z, hz⟩ : ∃ z : Nat, x.n % 200 = z := ⟨_, rfl⟩
              have hzi : (x.n : Int) % 200 = (z : Int) := by omega
              have hz2 : z < 200 := by omega
              have HT := Lib.hid (show sqT x = 1 + (z : Int) from by unfold sqT; rw [hz])
              obtain ⟨q0, q1⟩ := HW.out.ck c hc3
              have hck := HIN.out.ck (c : Int)
              have hj6 : j ≤ 60 := by omega
              rw [HLN.out] at hck
              go_upto_region 19 with fail
              obtain ⟨w4, hw4⟩ : ∃ w4, w4 = w3.setCell ⟨X + 1, 8, none⟩ (.int .i64 (1 + (z : Int))) := ⟨_, rfl⟩
              have hyx := HYX.out
              have HW4 := Lib.hid (show MW w Y (.slice Ag G cg) vh (.slice (some ⟨g9, 0, none⟩) TL cap9) u11 gs hs m.th m.ev m.ck w4 from by rw [hw4]; exact HW.out.set (p := ⟨X + 1, 8, none⟩) _ HNE.out.2.2 HNE.out.2.1 HNE.out.1)
              have HE4 := Lib.hid (show EvB w4 (X + 1) ⟨1 + 2 * (j : Int), 0, (c : Int), 5, 0, 0, 0, 0, 1 + (z : Int), 0, 0⟩ from by rw [hw4]; exact HE.out.set 8 _ rfl)
              have z0 : w4.cell? ⟨X, 0, none⟩ = some (.int .u8 (x.k : Nat)) := by rw [hw4]; go_simp
              have z2 : w4.cell? ⟨X, 2, none⟩ = some (.int .u8 (x.t : Nat)) := by rw [hw4]; go_simp
              have q0 := (HW4.out.ck c hc3).1
              have q1 := (HW4.out.ck c hc3).2
              have e8 := HE4.out.cell (j := 8) rfl
              dsimp only at e8
              have hci2 : IntKind.i64.wrap (m.ck (c : Int) + (1 + (z : Int))) = m.ck (c : Int) + (1 + (z : Int)) := IntWalk.i64_in _ (by omega)
              have hs1 : (c : Int).toNat = c := by omega
              have hs2 : (c : Int) < 3 := by omega
              have hs3 : (0 : Int) ≤ (c : Int) := by omega
              have hs4 : IntKind.i64.wrap (c : Int) = (c : Int) := IntWalk.i64_in _ (by omega)
              rw [← hw4]
              clear hw4 c8 f8 y0 y2 y3 y4
              go_still_tail 7, (by kernel_rfl)
              change wpList _ _ _ _ _ w4.drew
              have HW5 := Lib.hid ((HW4.out.below (below_drew (Below.refl _ _))).clock hc3 (m.ck (c : Int) + (1 + (z : Int))))
              have HE5 := Lib.hid (show EvB (w4.drew.setCell ⟨Y, c, none⟩ (.int .i64 (m.ck (c : Int) + (1 + (z : Int))))) (X + 1) ⟨1 + 2 * (j : Int), 0, (c : Int), 5, 0, 0, 0, 0, 1 + (z : Int), 0, 0⟩ from (HE4.out.same (w' := w4.drew) rfl).same (Below.heap_setCell _ _ _ _ (by show X + 1 ≠ Y; omega)))
              have q2 : w4.drew.cell? ⟨Y, c, none⟩ = some (.int .i64 (m.ck (c : Int))) := q0
              have q3 : w4.drew.frozen? ⟨Y, c, none⟩ = false := q1
              have t0 : (w4.drew.setCell ⟨Y, c, none⟩ (.int .i64 (m.ck (c : Int) + (1 + (z : Int))))).cell? ⟨X, 0, none⟩ = some (.int .u8 (x.k : Nat)) := (World.cell?_setCell_other _ _ _ _ (by simp <;> omega)).trans z0
              have t2 : (w4.drew.setCell ⟨Y, c, none⟩ (.int .i64 (m.ck (c : Int) + (1 + (z : Int))))).cell? ⟨X, 2, none⟩ = some (.int .u8 (x.t : Nat)) := (World.cell?_setCell_other _ _ _ _ (by simp <;> omega)).trans z2
              clear q0 q1 e8 z0 z2
              generalize w4.drew = w5 at HW5 HE5 q2 q3 t0 t2 ⊢
              go_upto_region 20 with fail
              generalize w5.setCell ⟨Y, c, none⟩ (.int .i64 (m.ck (c : Int) + (1 + (z : Int)))) = w6 at HW5 HE5 t0 t2 ⊢
              clear q2 q3
              go_wp2
              go_meet
              refine ⟨by rw [HTM.out.2.2.2], ?_, ?_⟩
              · rw [HTM.out.2.2.1]
                exact HW5.out.congr (fun q _ => by rw [ck_step, HTM.out.2.1, HC.out, HT.out])
              · rw [HTM.out.1, HLN.out, HC.out, HT.out, if_neg HK2.out]
                exact HE5.out
            · have hk9 : ((x.k : Int) % 8 == 1) = false := by simp; omega
              have hk2 : decide ((2 : Int) < (x.k : Int) % 8) = true := by simp; omega
              have HK2 := Lib.hid e3
              clear e1 e2 e3 e0
              have c8 := HE.out.cell (j := 8) rfl
              have f8 := HE.out.frz 8
              obtain ⟨z, hz⟩ : ∃ z : Nat, x.n % 200 = z := ⟨_, rfl⟩
              have hzi : (x.n : Int) % 200 = (z : Int) := by omega
              have hz2 : z < 200 := by omega
              have HT := Lib.hid (show sqT x = 1 + (z : Int) from by unfold sqT; rw [hz])
              obtain ⟨q0, q1⟩ := HW.out.ck c hc3
              have hck := HIN.out.ck (c : Int)
              have hj6 : j ≤ 60 := by omega
              rw [HLN.out] at hck
              go_upto_region 19 with fail
              obtain ⟨w4, hw4⟩ : ∃ w4, w4 = w3.setCell ⟨X + 1, 8, none⟩ (.int .i64 (1 + (z : Int))) := ⟨_, rfl⟩
              have hyx := HYX.out
              have HW4 := Lib.hid (show MW w Y (.slice Ag G cg) vh (.slice (some ⟨g9, 0, none⟩) TL cap9) u11 gs hs m.th m.ev m.ck w4 from by rw [hw4]; exact HW.out.set (p := ⟨X + 1, 8, none⟩) _ HNE.out.2.2 HNE.out.2.1 HNE.out.1)
              have HE4 := Lib.hid (show EvB w4 (X + 1) ⟨1 + 2 * (j : Int), 0, (c : Int), 5, 0, 0, 0, 0, 1 + (z : Int), 0, 0⟩ from by rw [hw4]; exact HE.out.set 8 _ rfl)
              have z0 : w4.cell? ⟨X, 0, none⟩ = some (.int .u8 (x.k : Nat)) := by rw [hw4]; go_simp
              have z2 : w4.cell? ⟨X, 2, none⟩ = some (.int .u8 (x.t : Nat)) := by rw [hw4]; go_simp
              have q0 := (HW4.out.ck c hc3).1
              have q1 := (HW4.out.ck c hc3).2
              have e8 := HE4.out.cell (j := 8) rfl
              dsimp only at e8
              have hci2 : IntKind.i64.wrap (m.ck (c : Int) + (1 + (z : Int))) = m.ck (c : Int) + (1 + (z : Int)) := IntWalk.i64_in _ (by omega)
              have hs1 : (c : Int).toNat = c := by omega
              have hs2 : (c : Int) < 3 := by omega
              have hs3 : (0 : Int) ≤ (c : Int) := by omega
              have hs4 : IntKind.i64.wrap (c : Int) = (c : Int) := IntWalk.i64_in _ (by omega)
              rw [← hw4]
              clear hw4 c8 f8 y0 y2 y3 y4
              go_still_tail 7, (by kernel_rfl)
              change wpList _ _ _ _ _ w4.drew
              have HW5 := Lib.hid ((HW4.out.below (below_drew (Below.refl _ _))).clock hc3 (m.ck (c : Int) + (1 + (z : Int))))
              have HE5 := Lib.hid (show EvB (w4.drew.setCell ⟨Y, c, none⟩ (.int .i64 (m.ck (c : Int) + (1 + (z : Int))))) (X + 1) ⟨1 + 2 * (j : Int), 0, (c : Int), 5, 0, 0, 0, 0, 1 + (z : Int), 0, 0⟩ from (HE4.out.same (w' := w4.drew) rfl).same (Below.heap_setCell _ _ _ _ (by show X + 1 ≠ Y; omega)))
              have q2 : w4.drew.cell? ⟨Y, c, none⟩ = some (.int .i64 (m.ck (c : Int))) := q0
              have q3 : w4.drew.frozen? ⟨Y, c, none⟩ = false := q1
              have t0 : (w4.drew.setCell ⟨Y, c, none⟩ (.int .i64 (m.ck (c : Int) + (1 + (z : Int))))).cell? ⟨X, 0, none⟩ = some (.int .u8 (x.k : Nat)) := (World.cell?_setCell_other _ _ _ _ (by simp <;> omega)).trans z0
              have t2 : (w4.drew.setCell ⟨Y, c, none⟩ (.int .i64 (m.ck (c : Int) + (1 + (z : Int))))).cell? ⟨X, 2, none⟩ = some (.int .u8 (x.t : Nat)) := (World.cell?_setCell_other _ _ _ _ (by simp <;> omega)).trans z2
              clear q0 q1 e8 z0 z2
              generalize w4.drew = w5 at HW5 HE5 q2 q3 t0 t2 ⊢
              go_upto_region 20 with fail
              generalize w5.setCell ⟨Y, c, none⟩ (.int .i64 (m.ck (c : Int) + (1 + (z : Int)))) = w6 at HW5 HE5 t0 t2 ⊢
              clear q2 q3
              obtain ⟨q, hq⟩ : ∃ q, x.t % TL = q := ⟨_, rfl⟩
              have hqi : (x.t : Int) % (TL : Int) = (q : Int) := by rw [← hq]; simp
              have hqt : q < TL := by rw [← hq]; exact Nat.mod_lt _ (by have := HTB.out; omega)
              have hTL0 : ((TL : Int) == 0) = false := by simp; omega
              have HPK := Lib.hid (show pickT m x = lz m.th q from by unfold pickT; rw [HTL.out, hq])
              have hp := ((HW5.out.oth.ev encI_len).row3 (by rw [HTL.out]; omega)).i1 (lz_get (l := m.th) (j := q) (by rw [HTL.out]; exact hqt))
              rw [Nat.zero_add] at hp
              have c10 := HE5.out.cell (j := 10) rfl
              have f10 := HE5.out.frz 10
              dsimp only at c10
              clear hq
              go_wp2
              go_meet
              have HW5 := Lib.hid (HW5.out.set (p := ⟨X + 1, 10, none⟩) (.int .i64 (lz m.th q)) HNE.out.2.2 HNE.out.2.1 HNE.out.1)
              refine ⟨by rw [HTM.out.2.2.2], ?_, ?_⟩
              · rw [HTM.out.2.2.1]
                exact HW5.out.congr (fun q _ => by rw [ck_step, HTM.out.2.1, HC.out, HT.out])
              · rw [HTM.out.1, HLN.out, HC.out, HT.out, if_pos HK2.out, HPK.out]
                exact HE5.out.set 10 _ rfl
      case rest =>
        obtain ⟨rfl, hm4, he4⟩ := hcut
        have HNE2 := Lib.hid (show (∀ v, v = (.slice Ag G cg : Value) ∨ v = vh ∨ v = u9 ∨ v = u11 → v.ownBlock ≠ some (X + 1)) ∧ X + 1 ≠ Y ∧ w.heap.size ≤ X + 1 from ⟨fun v hv => by
          rcases hv with h | h | rfl | h
          · exact HNE.out.1 v (.inl h)
          · exact HNE.out.1 v (.inr (.inl h))
          · exact hm4.oth.not_ev he4
          · exact HNE.out.1 v (.inr (.inr (.inr h))), HNE.out.2⟩)
        have HM4 := Lib.hid hm4
        have HE4 := Lib.hid he4
        refine (‹∀ (a : Act) (w : World), Code.wp _ _ _ a w → _› : ∀ (a : Act) (w : World), _ → _) _ _ ?_
        have q0 := (hm4.ck c hc3).1
        have e1 := he4.cell (j := 1) rfl
        have f1 := he4.frz 1
        have hci : (c : Int).toNat = c := by omega
        have hci2 : (c : Int) < 3 := by omega
        have hci3 : (0 : Int) ≤ (c : Int) := by omega
        clear hm4 he4
        go_upto_region 31 with fail
        have HW5 := Lib.hid (HM4.out.set (p := ⟨X + 1, 1, none⟩) (.int .i64 ((mdStep G m x).ck (c : Int))) HNE2.out.2.2 HNE2.out.2.1 (fun v hv => HNE2.out.1 v hv))
        have HE5 := Lib.hid (show EvB (wc.setCell ⟨X + 1, 1, none⟩ (.int .i64 ((mdStep G m x).ck (c : Int)))) (X + 1) (mkEv G m x) from HE4.out.set 1 _ (by rw [mkEv_time, ck_step, HC.out, if_pos rfl]))
        clear q0 e1 f1
        generalize wc.setCell ⟨X + 1, 1, none⟩ (.int .i64 ((mdStep G m x).ck (c : Int))) = w5 at HW5 HE5 ⊢
        generalize hev : mkEv G m x = ev at HE5
        have HEV := Lib.hid hev
        clear hev
        obtain ⟨v0, v1, v2, v3, v4, v5, v6, v7, v8, v9, v10⟩ := ev
        have c0 := HE5.out.cell (j := 0) rfl
        have c1 := HE5.out.cell (j := 1) rfl
        have c2 := HE5.out.cell (j := 2) rfl
        have c3 := HE5.out.cell (j := 3) rfl
        have c4 := HE5.out.cell (j := 4) rfl
        have c5 := HE5.out.cell (j := 5) rfl
        have c6 := HE5.out.cell (j := 6) rfl
        have c7 := HE5.out.cell (j := 7) rfl
        have c8 := HE5.out.cell (j := 8) rfl
        have c9 := HE5.out.cell (j := 9) rfl
        have c10 := HE5.out.cell (j := 10) rfl
        dsimp only at c0 c1 c2 c3 c4 c5 c6 c7 c8 c9 c10
        clear hci hci2 hci3
        go_wp2_with (at_builtin; refine wpList_app elemEv encE_len encE_one rfl _ _ rfl _ _ rfl rfl (HW5.out.oev.alloc _) (new_evM (e := ⟨v0, v1, v2, v3, v4, v5, v6, v7, v8, v9, v10⟩) (by simp)) ?q1 ?q2 ?_)
        case q1 => rw [HLN.out]; simp; omega
        case q2 => have := HW5.out.low.size; simp; omega
        intro v' w6 ho6 hg6
        have HA6 := Lib.hid ((HW5.out.below (bel_alloc w5 (.cells (encE ⟨v0, v1, v2, v3, v4, v5, v6, v7, v8, v9, v10⟩).toArray 59))).grow_ev hg6 ho6)
        clear ho6 hg6 c0 c1 c2 c3 c4 c5 c6 c7 c8 c9 c10
        go_wp2
        go_roundg (gk - 1)
        case measure => have := HJ.out; omega
        case rel =>
          refine ⟨j + 1, by have := HJ.out; omega, by go_num, by rw [HEQ.out], ?_⟩
          rw [HEQ.out, show (mdStep G m x).ev = m.ev ++ [mkEv G m x] from rfl, HEV.out]
          exact HA6.out
    · obtain rfl : n = j := by have := HJ.out; omega
      go_wp2
      go_ret3
      exact FIN.out _ _ _ HMW.out
end Go.Proofs.YtaplangfppohdaaDoor
