/- The law's own check of the chapter's examples (awake): it returns true. -/
import Derived.Test.YtofjgcbjpmgkdaaTm
import Derived.Test.YtofjgcbjpmgkdaaSq
set_option linter.unusedVariables false
set_option linter.unusedSimpArgs false
set_option linter.unusedSectionVars false
namespace Go.Proofs.Ytofjgcbjpmgkdaa
open Go.RowKit Go.Shelf

theorem ofL_eq {ns : List Int} {L : List (Int × Int)} {T : List Int} (hl : ns.length ≤ 65536) (hk : ns.all okN = true) (hc : Can 0 L) (hh : ∀ n, hasR L n = decide (n ∈ ns)) (hp : T.Pairwise (· < ·)) (ht : ∀ n, n ∈ T ↔ 2 ≤ ns.count n) : ofE ns = 0 ∧ ofL ns = L ∧ ofT ns = T := by
  have hE : ofE ns = 0 := by unfold ofE; rw [if_neg (by omega), if_pos hk]
  have hk' : ∀ n ∈ ns, okN n = true := List.all_eq_true.1 hk
  have ho := ofS_ok (srtI ns) (srt_pw ns) (fun n hn => hk' n ((srt_mem ns n).1 hn))
  refine ⟨hE, ?_, ?_⟩
  · unfold ofL; rw [if_pos hE]
    refine can_unique ho.can hc fun n => ?_
    rw [hh n, ho.has n, Bool.eq_iff_iff, decide_eq_true_eq, decide_eq_true_eq, srt_mem]
  · unfold ofT; rw [if_pos hE]
    refine pw_ext ho.pw hp fun n => ?_
    rw [ht n, ho.tm n, srt_count]
theorem of_ex : ofE [5, 2, 1, 5, 9] = 0 ∧ ofL [5, 2, 1, 5, 9] = [(1, 2), (5, 1), (9, 1)] ∧ ofT [5, 2, 1, 5, 9] = [5] := by
  refine ofL_eq (by decide) (by decide) (show canB 0 _ = true by decide) (fun n => ?_) (by simp) (fun n => ?_)
  · rw [Bool.eq_iff_iff]
    simp only [hasR, List.any_cons, List.any_nil, Bool.or_false, Bool.or_eq_true, decide_eq_true_eq, List.mem_cons, List.not_mem_nil, or_false]
    simp only [nxt]
    constructor <;> intro h <;> omega
  · simp only [List.count_cons, List.count_nil, List.mem_singleton]
    by_cases h : n = 5
    · subst h; decide
    · constructor
      · intro h'; exact absurd h' h
      · intro h'
        exfalso
        by_cases h2 : n = 2
        · subst h2; revert h'; decide
        · by_cases h1 : n = 1
          · subst h1; revert h'; decide
          · by_cases h9 : n = 9
            · subst h9; revert h'; decide
            · have e1 : (5 == n) = false := by simp; omega
              have e2 : (2 == n) = false := by simp; omega
              have e3 : (1 == n) = false := by simp; omega
              have e4 : (9 == n) = false := by simp; omega
              simp only [e1, e2, e3, e4, Bool.false_eq_true, if_false] at h'
              omega
theorem EV.newM {α : Type} {enc : α → List Value} {k : Nat} {e : TypeId} {w : World} {xs : List α} {n m : Nat} {cs : Array Value} (hk : ∀ x, (enc x).length = k) (hcs : cs.toList = xs.flatMap enc) (hn : xs.length = n) (hm : w.heap.size = m) :
    EV enc k (w.alloc (.cells cs e)) (.slice (some ⟨m, 0, none⟩) n n) xs := by subst hm; exact EV.newL hk hcs hn (Nat.le_refl _)
theorem bel_alloc (w : World) (o : Obj) : Below w.heap.size w (w.alloc o) := (Below.refl _ _).alloc (Nat.le_refl _) _
theorem bel_alloc2 (w : World) (o o' : Obj) : Below w.heap.size w ((w.alloc o).alloc o') := ((Below.refl _ _).alloc (Nat.le_refl _) _).alloc (by simp) _
theorem aw_of (w : World) (m : Nat) (hm : w.heap.size = m) : Calls Try.prog 23 #[.slice (some ⟨m, 0, none⟩) 5 5] (w.alloc (.cells #[.int .i64 5, .int .i64 2, .int .i64 1, .int .i64 5, .int .i64 9] 3))
    fun e w' => ∃ a b, e = .returned (.tuple #[a, b, .int .i64 0]) ∧ OV encP 2 35 w.heap.size w' a [(1, 2), (5, 1), (9, 1)] ∧ OV encI 1 3 w.heap.size w' b [5] ∧ Below w.heap.size w w' := by
  have := of_ok (w.alloc (.cells #[.int .i64 5, .int .i64 2, .int .i64 1, .int .i64 5, .int .i64 9] 3)) (.slice (some ⟨m, 0, none⟩) 5 5) [5, 2, 1, 5, 9] (EV.newM encI_len rfl rfl hm) (by decide)
  rw [of_ex.1, of_ex.2.1, of_ex.2.2] at this
  refine this.mono fun e w' ⟨a, b, h1, h2, h3, h4⟩ => ⟨a, b, h1, h2.base_le (by simp), h3.base_le (by simp), (bel_alloc _ _).trans (h4.mono (by simp))⟩
theorem aw_un (w : World) (m : Nat) (hm : w.heap.size = m) : Calls Try.prog 20 #[.slice (some ⟨m, 0, none⟩) 1 1, .slice (some ⟨m + 1, 0, none⟩) 1 1] ((w.alloc (.cells #[.int .i64 1, .int .i64 2] 35)).alloc (.cells #[.int .i64 3, .int .i64 1] 35))
    fun e w' => ∃ r, e = .returned (.tuple #[r, .int .i64 0]) ∧ OV encP 2 35 w.heap.size w' r [(1, 3)] ∧ Below w.heap.size w w' := by
  have := union_ok _ _ _ [(1, 2)] [(3, 1)] ((EV.newM (e := 35) (cs := #[.int .i64 1, .int .i64 2]) (n := 1) encP_len rfl rfl hm).below (bel_alloc _ (.cells #[.int .i64 3, .int .i64 1] 35)))
    (EV.newM (e := 35) (cs := #[.int .i64 3, .int .i64 1]) (w := w.alloc (.cells #[.int .i64 1, .int .i64 2] 35)) (n := 1) (m := m + 1) encP_len rfl rfl (by simp [hm])) (by decide) (by decide)
  rw [show rerr [[((1 : Int), (2 : Int))], [(3, 1)]] = 0 by decide, if_pos rfl, show bothL tkU [(1, 2)] [(3, 1)] = [(1, 3)] by decide] at this
  exact this.mono fun e w' ⟨r, h1, h2, h3⟩ => ⟨r, h1, h2.base_le (by simp; omega), (bel_alloc2 _ _ _).trans (h3.mono (by simp; omega))⟩
theorem aw_wi (w : World) (m : Nat) (hm : w.heap.size = m) : Calls Try.prog 29 #[.slice (some ⟨m, 0, none⟩) 1 1, .slice (some ⟨m + 1, 0, none⟩) 1 1] ((w.alloc (.cells #[.int .i64 1, .int .i64 9] 35)).alloc (.cells #[.int .i64 4, .int .i64 2] 35))
    fun e w' => ∃ r, e = .returned (.tuple #[r, .int .i64 0]) ∧ OV encP 2 35 w.heap.size w' r [(1, 3), (6, 4)] ∧ Below w.heap.size w w' := by
  have := without_ok _ _ _ [(1, 9)] [(4, 2)] ((EV.newM (e := 35) (cs := #[.int .i64 1, .int .i64 9]) (n := 1) encP_len rfl rfl hm).below (bel_alloc _ (.cells #[.int .i64 4, .int .i64 2] 35)))
    (EV.newM (e := 35) (cs := #[.int .i64 4, .int .i64 2]) (w := w.alloc (.cells #[.int .i64 1, .int .i64 9] 35)) (n := 1) (m := m + 1) encP_len rfl rfl (by simp [hm])) (by decide) (by decide)
  rw [show rerr [[((1 : Int), (9 : Int))], [(4, 2)]] = 0 by decide, if_pos rfl, show bothL tkW [(1, 9)] [(4, 2)] = [(1, 3), (6, 4)] by decide] at this
  exact this.mono fun e w' ⟨r, h1, h2, h3⟩ => ⟨r, h1, h2.base_le (by simp; omega), (bel_alloc2 _ _ _).trans (h3.mono (by simp; omega))⟩
theorem aw_mi (w : World) (v : Value) (hv : EV encP 2 w v [(1, 2), (5, 1), (9, 1)]) : Calls Try.prog 16 #[v, .int .i64 1, .int .i64 11] w fun e w' => ∃ r, e = .returned (.tuple #[r, .int .i64 0]) ∧ OV encP 2 35 w.heap.size w' r [(3, 2), (6, 3), (10, 1)] ∧ Below w.heap.size w w' := by
  have := missing_ok w v _ 1 11 hv (by decide)
  rwa [show missE [((1 : Int), (2 : Int)), (5, 1), (9, 1)] 1 11 = 0 by decide, show missL [(1, 2), (5, 1), (9, 1)] 1 11 = [(3, 2), (6, 3), (10, 1)] by decide] at this
theorem aw_f1 (w : World) (v : Value) (hv : EV encP 2 w v [(1, 2), (5, 1), (9, 1)]) : Calls Try.prog 17 #[v, .int .i64 5, .int .i64 11] w fun e w' => e = .returned (.tuple #[.int .i64 6, .int .i64 0]) ∧ Below w.heap.size w w' := by
  have := first_ok w v _ 5 11 hv (by decide)
  rwa [show firstE [((1 : Int), (2 : Int)), (5, 1), (9, 1)] 5 11 = 0 by decide, show firstV [(1, 2), (5, 1), (9, 1)] 5 11 = 6 by decide] at this
theorem aw_f2 (w : World) (v : Value) (hv : EV encP 2 w v [(1, 2), (5, 1), (9, 1)]) : Calls Try.prog 17 #[v, .int .i64 5, .int .i64 6] w fun e w' => e = .returned (.tuple #[.int .i64 0, .int .i64 6]) ∧ Below w.heap.size w w' := by
  have := first_ok w v _ 5 6 hv (by decide)
  rwa [show firstE [((1 : Int), (2 : Int)), (5, 1), (9, 1)] 5 6 = 6 by decide, show firstV [(1, 2), (5, 1), (9, 1)] 5 6 = 0 by decide] at this
/-- slices.Equal of a slice and a literal, as the walk meets it. -/
theorem eqi_lit (w : World) (r : Value) (xs ys : List Int) (n m : Nat) (cs : Array Value) (h : EV encI 1 w r xs) (hm : w.heap.size = m) (hcs : cs.toList = ys.flatMap encI) (hn : ys.length = n) (hx : xs.length ≤ 1000) (hy : n ≤ 1000) (he : xs = ys) :
    Calls Try.prog 24 #[r, .slice (some ⟨m, 0, none⟩) n n] (w.alloc (.cells cs 3)) fun e w' => e = .returned (.bool true) ∧ Below w.heap.size w w' := by
  subst he
  exact (equal_same _ r _ xs (h.below (bel_alloc _ _)) (EV.newM encI_len hcs hn hm) (by omega)).mono fun e w' h => ⟨h.1, (bel_alloc _ _).trans (h.2.mono (by simp))⟩
theorem eqr_lit (w : World) (r : Value) (xs ys : List (Int × Int)) (n m : Nat) (cs : Array Value) (h : EV encP 2 w r xs) (hm : w.heap.size = m) (hcs : cs.toList = ys.flatMap encP) (hn : ys.length = n) (hx : xs.length ≤ 1000) (hy : n ≤ 1000) (he : xs = ys) :
    Calls Try.prog 21 #[r, .slice (some ⟨m, 0, none⟩) n n] (w.alloc (.cells cs 35)) fun e w' => e = .returned (.bool true) ∧ Below w.heap.size w w' := by
  subst he
  exact (equal_run_same _ r _ xs (h.below (bel_alloc _ _)) (EV.newM encP_len hcs hn hm) (by omega)).mono fun e w' h => ⟨h.1, (bel_alloc _ _).trans (h.2.mono (by simp))⟩
def badsR (X : Nat) : List (Value × List (Int × Int)) := [(.slice (some ⟨X, 0, none⟩) 1 1, [(1, 0)]), (.slice (some ⟨X + 1, 0, none⟩) 2 2, [(1, 2), (3, 1)]), (.slice (some ⟨X + 1 + 1, 0, none⟩) 2 2, [(5, 1), (2, 1)]), (.slice (some ⟨X + 1 + 1 + 1, 0, none⟩) 1 1, [(281474976710656, 2)])]
theorem bads_rows (w : World) (X : Nat) (hX : w.heap.size = X) :
    RowsOf (((((w.alloc (.cells #[.int .i64 1, .int .i64 0] 35)).alloc (.cells #[.int .i64 1, .int .i64 2, .int .i64 3, .int .i64 1] 35)).alloc (.cells #[.int .i64 5, .int .i64 1, .int .i64 2, .int .i64 1] 35)).alloc (.cells #[.int .i64 281474976710656, .int .i64 2] 35)).alloc
      (.cells #[.slice (some ⟨X, 0, none⟩) 1 1, .slice (some ⟨X + 1, 0, none⟩) 2 2, .slice (some ⟨X + 1 + 1, 0, none⟩) 2 2, .slice (some ⟨X + 1 + 1 + 1, 0, none⟩) 1 1] 22)) (.slice (some ⟨X + 1 + 1 + 1 + 1, 0, none⟩) 4 4) (badsR X) ∧
    Below w.heap.size w (((((w.alloc (.cells #[.int .i64 1, .int .i64 0] 35)).alloc (.cells #[.int .i64 1, .int .i64 2, .int .i64 3, .int .i64 1] 35)).alloc (.cells #[.int .i64 5, .int .i64 1, .int .i64 2, .int .i64 1] 35)).alloc (.cells #[.int .i64 281474976710656, .int .i64 2] 35)).alloc
      (.cells #[.slice (some ⟨X, 0, none⟩) 1 1, .slice (some ⟨X + 1, 0, none⟩) 2 2, .slice (some ⟨X + 1 + 1, 0, none⟩) 2 2, .slice (some ⟨X + 1 + 1 + 1, 0, none⟩) 1 1] 22)) := by
  refine ⟨⟨EV.newM encV_len rfl rfl (by simp [hX]), fun x hx => ?_⟩, ((((((Below.refl _ _).alloc (Nat.le_refl _) _).alloc (by simp) _).alloc (by simp; omega) _).alloc (by simp; omega) _).alloc (by simp; omega) _)⟩
  simp [badsR] at hx
  rcases hx with rfl | rfl | rfl | rfl
  · exact ⟨((((EV.newM encP_len rfl rfl hX).below (bel_alloc _ _)).below (bel_alloc _ _)).below (bel_alloc _ _)).below (bel_alloc _ _), by simp⟩
  · exact ⟨(((EV.newM encP_len rfl rfl (by simp [hX])).below (bel_alloc _ _)).below (bel_alloc _ _)).below (bel_alloc _ _), by simp⟩
  · exact ⟨((EV.newM encP_len rfl rfl (by simp [hX])).below (bel_alloc _ _)).below (bel_alloc _ _), by simp⟩
  · exact ⟨(EV.newM encP_len rfl rfl (by simp [hX])).below (bel_alloc _ _), by simp⟩

set_option maxRecDepth 100000 in
set_option maxHeartbeats 4000000 in
theorem awake_ok (w : World) : Calls Try.prog 13 #[] w fun e w' => e = .returned (.bool true) ∧ Below w.heap.size w w' := by
  have F := (Facts.nil w).snoc (sB w) (Below.refl _ _)
  go_enter Try.func13, Try.ntmps13
  go_wp2_with fail
  refine (aw_of w _ rfl).mono ?_
  rintro e w1 ⟨l, t, rfl, o, o2, bb⟩
  replace F := ((F.below bb).snoc (sOV encP 2 35 w.heap.size l [(1, 2), (5, 1), (9, 1)]) o).snoc (sOV encI 1 3 w.heap.size t [5]) o2
  clear bb o o2
  go_wp2_with fail
  refine (aw_mi w1 l (OV.ev (F.get 1) encP_len)).mono ?_
  rintro e w2 ⟨m, rfl, o, bb⟩
  replace F := (F.below bb).snoc (sOV encP 2 35 w1.heap.size m [(3, 2), (6, 3), (10, 1)]) o
  have sw2 := bb.size
  have Km := Lib.hid o.block
  clear bb o
  go_wp2_with fail
  refine (aw_f1 w2 l (OV.ev (F.get 1) encP_len)).mono ?_
  rintro e w3 ⟨rfl, bb⟩
  replace F := F.below bb
  have sw3 := bb.size
  clear bb
  go_wp2_with fail
  refine (aw_f2 w3 l (OV.ev (F.get 1) encP_len)).mono ?_
  rintro e w4 ⟨rfl, bb⟩
  replace F := F.below bb
  have sw4 := bb.size
  clear bb
  go_wp2_with fail
  refine (aw_un w4 _ rfl).mono ?_
  rintro e w5 ⟨u, rfl, o, bb⟩
  replace F := (F.below bb).snoc (sOV encP 2 35 w4.heap.size u [(1, 3)]) o
  have sw5 := bb.size
  have Ku := Lib.hid o.block
  clear bb o
  go_wp2_with fail
  refine (aw_wi w5 _ rfl).mono ?_
  rintro e w6 ⟨x, rfl, o, bb⟩
  replace F := (F.below bb).snoc (sOV encP 2 35 w5.heap.size x [(1, 3), (6, 4)]) o
  have sw6 := bb.size
  have Kx := Lib.hid o.block
  clear bb o
  go_wp2_with fail
  refine (eqi_lit w6 t _ [5] 1 _ _ (OV.ev (F.get 2) encI_len) rfl rfl rfl (by decide) (by decide) rfl).mono ?_
  rintro e w7 ⟨rfl, bb⟩
  replace F := F.below bb
  have sw7 := bb.size
  clear bb
  go_wp2_with fail
  refine (eqr_lit w7 l _ [(1, 2), (5, 1), (9, 1)] 3 _ _ (OV.ev (F.get 1) encP_len) rfl rfl rfl (by decide) (by decide) rfl).mono ?_
  rintro e w8 ⟨rfl, bb⟩
  replace F := F.below bb
  have sw8 := bb.size
  clear bb
  go_wp2_with fail
  obtain ⟨rw, bw⟩ := bads_rows w8 _ rfl
  generalize hwx : World.alloc _ _ = wx at rw bw ⊢
  replace F := F.below bw
  have swx := bw.size
  have RW := Lib.hid rw
  have F9 := Lib.hid F
  obtain ⟨X, hX⟩ : ∃ X, w8.heap.size + 1 + 1 + 1 + 1 = X := ⟨_, rfl⟩
  rw [hX] at RW ⊢
  clear rw bw hwx F hX
  go_loopg [15, 98] 4 (fun k _ i wr => ∃ j : Nat, j + k = 4 ∧ i = .int .i64 j ∧ Below wx.heap.size wx wr)
  case atStart => exact ⟨0, by omega, rfl, Below.refl _ _⟩
  case round =>
    obtain ⟨j, hj, rfl, hb⟩ := hrel
    have HJ := Lib.hid hj
    have HB := Lib.hid hb
    have hszr := hb.size
    clear hj hb
    by_cases hlt : j < 4
    · have hd : decide ((j : Int) < 4) = true := by rw [decide_eq_true_eq]; omega
      obtain ⟨xs, hxs⟩ : ∃ xs, badsR w8.heap.size = xs := ⟨_, rfl⟩
      have hlen : xs.length = 4 := by rw [← hxs]; rfl
      have hbad : ∀ x ∈ xs, rightB x.2 = false := by
        rw [← hxs]; intro x hx; simp [badsR] at hx
        rcases hx with rfl | rfl | rfl | rfl <;> (dsimp only; decide)
      have R2 := RW.out
      rw [hxs] at R2
      obtain ⟨⟨u, l'⟩, hx⟩ : ∃ x, xs[j]? = some x := ⟨_, List.getElem?_eq_getElem (by omega)⟩
      have hm := List.mem_of_getElem? hx
      have c0 := (R2.1.row3 (by omega)).below HB.out j (u, l') hx 0 u rfl
      simp only [Nat.mul_one, Nat.add_zero, Nat.zero_add] at c0
      have RK := right_ok wr u l' ((R2.2 _ hm).1.below HB.out) (R2.2 _ hm).2
      rw [show rightB l' = false from hbad _ hm] at RK
      have RK := Lib.hid RK
      clear hx R2 hm hbad hlen hxs
      go_wp2_with fail
      refine RK.out.mono ?_
      rintro e w9 ⟨rfl, bb⟩
      have b9 := HB.out.trans (bb.mono hszr)
      clear bb
      go_wp2
      go_roundg (gk - 1)
      case measure => have := HJ.out; omega
      case rel => exact ⟨j + 1, by have := HJ.out; omega, by go_num, b9⟩
    · have hd : decide ((j : Int) < 4) = false := by rw [decide_eq_false_iff_not]; omega
      have F := F9.out.below HB.out
      clear F9 HB RW
      go_wp2_with fail
      refine (eqr_lit wr m _ [(3, 2), (6, 3), (10, 1)] 3 _ _ (OV.ev (F.get 3) encP_len) rfl rfl rfl (by decide) (by decide) rfl).mono ?_
      rintro e x1 ⟨rfl, bb⟩
      replace F := F.below bb
      clear bb
      go_wp2_with fail
      refine (eqr_lit x1 u _ [(1, 3)] 1 _ _ (OV.ev (F.get 4) encP_len) rfl rfl rfl (by decide) (by decide) rfl).mono ?_
      rintro e x2 ⟨rfl, bb⟩
      replace F := F.below bb
      clear bb
      go_wp2_with fail
      refine (eqr_lit x2 x _ [(1, 3), (6, 4)] 2 _ _ (OV.ev (F.get 5) encP_len) rfl rfl rfl (by decide) (by decide) rfl).mono ?_
      rintro e x3 ⟨rfl, bb⟩
      have hfin : Below w.heap.size w x3 := (F.below bb).get 0
      clear bb F
      go_wp2
      go_ret
      exact ⟨rfl, hfin⟩
end Go.Proofs.Ytofjgcbjpmgkdaa
