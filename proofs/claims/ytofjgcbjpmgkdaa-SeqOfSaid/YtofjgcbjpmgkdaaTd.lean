/- The outright laws' helpers: Made, has, ends. -/
import Derived.Test.YtofjgcbjpmgkdaaTm
import Derived.Test.YtofjgcbjpmgkdaaSf
import Derived.Test.YtofjgcbjpmgkdaaSr
set_option linter.unusedVariables false
set_option linter.unusedSimpArgs false
set_option linter.unusedSectionVars false
namespace Go.Proofs.Ytofjgcbjpmgkdaa
open Go.RowKit Go.Shelf

def encB (z : Int) : List Value := [.int .u8 z]
theorem encB_len (z : Int) : (encB z).length = 1 := rfl
/-- How far a run may go on. -/
def mkP (b : Int) : Int := if b = 250 then 256 else if b = 251 then 4096 else if b = 252 then 65536 else if b = 253 then 1048576 else if b = 254 then 16777216 else 268435456
def mkR (e b : Int) : Int × Int := if 250 ≤ b then (e + 1 + b % 16 + (b - 249) * 1099511627776, mkP b) else (e + 1 + b % 16, 1 + b / 16)
def mk1 (s : List (Int × Int)) (b : Int) : List (Int × Int) := s ++ [mkR (endR 0 s) b]
def madeL (l : List Int) : List (Int × Int) := (l.take 30).foldl mk1 []
theorem mkP_rng (b : Int) : 256 ≤ mkP b ∧ mkP b ≤ 268435456 := by unfold mkP; repeat' split <;> try omega
theorem mk_fold {pre : List Int} (hl : ∀ b ∈ pre, 0 ≤ b ∧ b ≤ 255) (hn : pre.length ≤ 30) : Can 0 (pre.foldl mk1 []) ∧ (pre.foldl mk1 []).length = pre.length ∧ endR 0 (pre.foldl mk1 []) ≤ pre.length * 7696581394432 := by
  rcases List.eq_nil_or_concat pre with rfl | ⟨p, b, rfl⟩
  · exact ⟨can_nil _, rfl, by simp [endR]⟩
  · rw [List.concat_eq_append] at *
    obtain ⟨h1, h2, h3⟩ := mk_fold (pre := p) (fun x hx => hl x (by simp [hx])) (by simp at hn; omega)
    have hb := hl b (by simp)
    rw [List.foldl_append]
    show Can 0 (mk1 (p.foldl mk1 []) b) ∧ (mk1 (p.foldl mk1 []) b).length = _ ∧ endR 0 (mk1 (p.foldl mk1 []) b) ≤ _
    generalize p.foldl mk1 [] = s at *
    have he := end_ge h1
    have hp : p.length ≤ 29 := by simp at hn; omega
    have hP := mkP_rng b
    have hr : rokB (mkR (endR 0 s) b) = true ∧ endR 0 s < (mkR (endR 0 s) b).1 ∧ nxt (mkR (endR 0 s) b) ≤ endR 0 s + 7696581394432 := by
      unfold mkR
      split
      · refine ⟨rok_iff.2 ⟨?_, ?_, ?_, ?_⟩, ?_, ?_⟩ <;> (try unfold nxt) <;> dsimp only <;> omega
      · refine ⟨rok_iff.2 ⟨?_, ?_, ?_, ?_⟩, ?_, ?_⟩ <;> (try unfold nxt) <;> dsimp only <;> omega
    unfold mk1
    refine ⟨can_snoc.2 ⟨h1, hr.2.1, hr.1⟩, by simp [h2], ?_⟩
    rw [endR_append, List.length_append, List.length_singleton]
    have := hr.2.2
    push_cast
    omega
termination_by pre.length
decreasing_by all_goals (simp_all <;> omega)
theorem made_ok' {l : List Int} (hl : ∀ b ∈ l, 0 ≤ b ∧ b ≤ 255) : Can 0 (madeL l) ∧ (madeL l).length ≤ 30 ∧ rightB (madeL l) = true := by
  obtain ⟨h1, h2, h3⟩ := mk_fold (pre := l.take 30) (fun b hb => hl b (List.mem_of_mem_take hb)) (by simp; omega)
  have h4 : (madeL l).length ≤ 30 := by unfold madeL; rw [h2]; simp; omega
  exact ⟨h1, h4, right_iff.2 ⟨by omega, h1⟩⟩
theorem mk_take {l : List Int} {j : Nat} {b : Int} (h : l[j]? = some b) : (l.take (j + 1)).foldl mk1 [] = mk1 ((l.take j).foldl mk1 []) b := by
  rw [List.take_add_one, h, Option.toList_some, List.foldl_append]; rfl

theorem bel2 (w : World) (o : Obj) : Below w.heap.size w (w.alloc o) := (Below.refl _ _).alloc (Nat.le_refl _) _
theorem keep_new {w w2 : World} {cs cs2 : Array Value} {e e2 : TypeId} {row : Option Nat} (hg : ((w.alloc (.cells cs e)).alloc (.cells cs2 e2)).grownBy w2 row) (hr : ∀ g, row = some g → g < w.heap.size) (i : Nat) {u : Value} (hu : cs[i]? = some u) : w2.cell? ⟨w.heap.size, i, none⟩ = some u := by
  have h1 := cell_of_row (w.alloc (.cells cs e)) w.heap.size i cs e (0, 0) (heap_alloc_new w _)
  rw [hu] at h1
  have h2 := below_cell (bel2 (w.alloc (.cells cs e)) (.cells cs2 e2)) h1
  exact (World.cell?_of_block (hg.block w.heap.size (by simp; omega) (fun h => by have := hr _ h.symm; omega))).trans h2
theorem ov_cast {e : TypeId} {base : Nat} {w : World} {v : Value} {s : List (Int × Int)} {z z' : Int × Int} (h : OV encP 2 e base w v (s ++ [z])) (he : z = z') : OV encP 2 e base w v (s ++ [z']) := he ▸ h
set_option maxRecDepth 100000 in
set_option maxHeartbeats 2000000 in
theorem made_ok (w : World) (A : Option Addr) (n c : Nat) (l : List Int) (hv : EV encB 1 w (.slice A n c) l) (hn : l.length = n) (hnc : n ≤ c) (hA : A = none → c = 0) (hl : ∀ b ∈ l, 0 ≤ b ∧ b ≤ 255) (hlen : n ≤ 9223372036854775807) :
    Calls Try.prog 14 #[.slice A n c] w fun e w' => ∃ r, e = .returned r ∧ OV encP 2 35 w.heap.size w' r (madeL l) ∧ Below w.heap.size w w' := by
  obtain ⟨M, hM⟩ : ∃ M, min n 30 = M := ⟨_, rfl⟩
  have hM1 : M ≤ n := by omega
  have hM2 : M ≤ 30 := by omega
  have HV := Lib.hid hv
  have HN := Lib.hid hn
  have HML := Lib.hid (show madeL l = (l.take M).foldl mk1 [] from by
    unfold madeL; rw [← hM, ← hn]; congr 1
    rcases Nat.le_total l.length 30 with h | h
    · rw [Nat.min_eq_left h, List.take_of_length_le h, List.take_of_length_le (Nat.le_refl _)]
    · rw [Nat.min_eq_right h])
  have HL := Lib.hid hl
  have hmin : min (n : Int) 30 = (M : Int) := by omega
  have hmin2 : max (M : Int) 0 = (M : Int) := by omega
  have hmin3 : ((M : Int)).toNat = M := by omega
  have hmc : M ≤ c := by omega
  have hMi : (0 : Int) ≤ (M : Int) := by omega
  have hMc : (M : Int) ≤ (c : Int) := by omega
  clear hv hn hl hM
  cases A with
  | none =>
    obtain rfl : c = 0 := hA rfl
    obtain rfl : n = 0 := by omega
    obtain rfl : M = 0 := by omega
    clear hmin hmin2
    go_enter Try.func14, Try.ntmps14
    go_wp2_with fail
    refine wp_loop_rounds 1 ?_
    rw [rounds_succ]
    go_wp2
    go_ret
    exact ⟨_, rfl, by rw [HML.out]; exact OV.nil _ _, Below.refl _ _⟩
  | some ad =>
    clear hA
    go_enter Try.func14, Try.ntmps14
    go_wp2_with fail
    clear hmin hmin2 hmin3
    go_loopg [3, 4, 6, 7, 14] M (fun k s at_ _ _ i wr => ∃ j : Nat, j + k = M ∧ i = .int .i64 j ∧ at_ = .int .i64 (endR 0 ((l.take j).foldl mk1 [])) ∧ OV encP 2 35 w.heap.size wr s ((l.take j).foldl mk1 []) ∧ Below w.heap.size w wr)
    case atStart => exact ⟨0, by omega, rfl, rfl, OV.nil _ _, Below.refl _ _⟩
    case round =>
      obtain ⟨j, hj, rfl, rfl, ho, hb⟩ := hrel
      have HJ := Lib.hid hj
      have HO := Lib.hid ho
      have HB := Lib.hid hb
      have hsz := hb.size
      clear hj ho hb
      by_cases hlt : j < M
      · obtain ⟨b, off, c', hvv, -, rb⟩ := HV.out.row (by rw [HN.out]; omega)
        simp only [Value.slice.injEq] at hvv
        obtain ⟨hadr, -, rfl⟩ := hvv
        cases hadr
        obtain ⟨x, hx⟩ : ∃ x, l[j]? = some x := ⟨_, List.getElem?_eq_getElem (by rw [HN.out]; omega)⟩
        have cx := (rb.below HB.out) j x hx 0 _ rfl
        simp only [Nat.mul_one, Nat.add_zero] at cx
        obtain ⟨hx0, hx1⟩ := HL.out x (List.mem_of_getElem? hx)
        have MT := Lib.hid (mk_take hx)
        obtain ⟨f1, f2, f3⟩ := mk_fold (pre := l.take j) (fun b hb => HL.out b (List.mem_of_mem_take hb)) (by simp; omega)
        have hjl : (l.take j).length ≤ 29 := by simp; omega
        have he1 := end_ge f1
        have he2 : endR 0 ((l.take j).foldl mk1 []) ≤ 231000000000000 := by omega
        have hsl : ((l.take j).foldl mk1 []).length ≤ 30 := by omega
        have NX := Lib.hid (show ∀ (s : List (Int × Int)) (b : Int), endR 0 (mk1 s b) = nxt (mkR (endR 0 s) b) from fun s b => by unfold mk1; exact endR_append _ _ _)
        have MK := Lib.hid (show ∀ (s : List (Int × Int)) (b : Int), mk1 s b = s ++ [mkR (endR 0 s) b] from fun s b => rfl)
        clear hx rb f1 f2 f3 hjl
        generalize (l.take j).foldl mk1 [] = s at *
        have NX := Lib.hid (NX.out s x)
        have MK := Lib.hid (MK.out s x)
        obtain ⟨e0, he0⟩ : ∃ e0, endR 0 s = e0 := ⟨_, rfl⟩
        rw [he0] at NX MK he1 he2 ⊢
        clear he0
        by_cases h250 : 250 ≤ x
        · rcases (by omega : x = 250 ∨ x = 251 ∨ x = 252 ∨ x = 253 ∨ x = 254 ∨ x = 255) with rfl | rfl | rfl | rfl | rfl | rfl
          · go_wp2_with (at_builtin; refine wpList_app elemR encP_len encP_one rfl (.tmp 47) (.tmp 49) rfl _ _ rfl rfl ((HO.out.alloc _).alloc _) (new_pair2 (World.size_alloc _ _)) ?q01 ?q02 ?_)
            case q01 => (try simp); omega
            case q02 => (try simp); omega
            intro v' w2 o2 g2
            have B2 := Lib.hid (((HB.out.alloc hsz _).alloc (by simp; omega) _).grown g2 (by simp; omega) (fun k hk => (HO.out.block k hk).1))
            have O2 := Lib.hid o2
            have k0 := keep_new g2 (fun k hk => (HO.out.block k hk).2) 0 rfl
            have k1 := keep_new g2 (fun k hk => (HO.out.block k hk).2) 1 rfl
            clear g2 o2
            go_wp2
            go_roundg (gk - 1)
            case measure => have := HJ.out; omega
            case rel => exact ⟨j + 1, by have := HJ.out; omega, by go_num, by rw [MT.out]; exact congrArg (Value.int .i64) (by rw [NX.out]; unfold nxt mkR mkP; simp <;> omega), by rw [MT.out, MK.out]; exact ov_cast O2.out (Prod.ext (by unfold mkR; simp ; try omega) (by unfold mkR mkP; simp )), B2.out⟩
          · go_wp2_with (at_builtin; refine wpList_app elemR encP_len encP_one rfl (.tmp 47) (.tmp 49) rfl _ _ rfl rfl ((HO.out.alloc _).alloc _) (new_pair2 (World.size_alloc _ _)) ?q11 ?q12 ?_)
            case q11 => (try simp); omega
            case q12 => (try simp); omega
            intro v' w2 o2 g2
            have B2 := Lib.hid (((HB.out.alloc hsz _).alloc (by simp; omega) _).grown g2 (by simp; omega) (fun k hk => (HO.out.block k hk).1))
            have O2 := Lib.hid o2
            have k0 := keep_new g2 (fun k hk => (HO.out.block k hk).2) 0 rfl
            have k1 := keep_new g2 (fun k hk => (HO.out.block k hk).2) 1 rfl
            clear g2 o2
            go_wp2
            go_roundg (gk - 1)
            case measure => have := HJ.out; omega
            case rel => exact ⟨j + 1, by have := HJ.out; omega, by go_num, by rw [MT.out]; exact congrArg (Value.int .i64) (by rw [NX.out]; unfold nxt mkR mkP; simp <;> omega), by rw [MT.out, MK.out]; exact ov_cast O2.out (Prod.ext (by unfold mkR; simp ; try omega) (by unfold mkR mkP; simp )), B2.out⟩
          · go_wp2_with (at_builtin; refine wpList_app elemR encP_len encP_one rfl (.tmp 47) (.tmp 49) rfl _ _ rfl rfl ((HO.out.alloc _).alloc _) (new_pair2 (World.size_alloc _ _)) ?q21 ?q22 ?_)
            case q21 => (try simp); omega
            case q22 => (try simp); omega
            intro v' w2 o2 g2
            have B2 := Lib.hid (((HB.out.alloc hsz _).alloc (by simp; omega) _).grown g2 (by simp; omega) (fun k hk => (HO.out.block k hk).1))
            have O2 := Lib.hid o2
            have k0 := keep_new g2 (fun k hk => (HO.out.block k hk).2) 0 rfl
            have k1 := keep_new g2 (fun k hk => (HO.out.block k hk).2) 1 rfl
            clear g2 o2
            go_wp2
            go_roundg (gk - 1)
            case measure => have := HJ.out; omega
            case rel => exact ⟨j + 1, by have := HJ.out; omega, by go_num, by rw [MT.out]; exact congrArg (Value.int .i64) (by rw [NX.out]; unfold nxt mkR mkP; simp <;> omega), by rw [MT.out, MK.out]; exact ov_cast O2.out (Prod.ext (by unfold mkR; simp ; try omega) (by unfold mkR mkP; simp )), B2.out⟩
          · go_wp2_with (at_builtin; refine wpList_app elemR encP_len encP_one rfl (.tmp 47) (.tmp 49) rfl _ _ rfl rfl ((HO.out.alloc _).alloc _) (new_pair2 (World.size_alloc _ _)) ?q31 ?q32 ?_)
            case q31 => (try simp); omega
            case q32 => (try simp); omega
            intro v' w2 o2 g2
            have B2 := Lib.hid (((HB.out.alloc hsz _).alloc (by simp; omega) _).grown g2 (by simp; omega) (fun k hk => (HO.out.block k hk).1))
            have O2 := Lib.hid o2
            have k0 := keep_new g2 (fun k hk => (HO.out.block k hk).2) 0 rfl
            have k1 := keep_new g2 (fun k hk => (HO.out.block k hk).2) 1 rfl
            clear g2 o2
            go_wp2
            go_roundg (gk - 1)
            case measure => have := HJ.out; omega
            case rel => exact ⟨j + 1, by have := HJ.out; omega, by go_num, by rw [MT.out]; exact congrArg (Value.int .i64) (by rw [NX.out]; unfold nxt mkR mkP; simp <;> omega), by rw [MT.out, MK.out]; exact ov_cast O2.out (Prod.ext (by unfold mkR; simp ; try omega) (by unfold mkR mkP; simp )), B2.out⟩
          · go_wp2_with (at_builtin; refine wpList_app elemR encP_len encP_one rfl (.tmp 47) (.tmp 49) rfl _ _ rfl rfl ((HO.out.alloc _).alloc _) (new_pair2 (World.size_alloc _ _)) ?q41 ?q42 ?_)
            case q41 => (try simp); omega
            case q42 => (try simp); omega
            intro v' w2 o2 g2
            have B2 := Lib.hid (((HB.out.alloc hsz _).alloc (by simp; omega) _).grown g2 (by simp; omega) (fun k hk => (HO.out.block k hk).1))
            have O2 := Lib.hid o2
            have k0 := keep_new g2 (fun k hk => (HO.out.block k hk).2) 0 rfl
            have k1 := keep_new g2 (fun k hk => (HO.out.block k hk).2) 1 rfl
            clear g2 o2
            go_wp2
            go_roundg (gk - 1)
            case measure => have := HJ.out; omega
            case rel => exact ⟨j + 1, by have := HJ.out; omega, by go_num, by rw [MT.out]; exact congrArg (Value.int .i64) (by rw [NX.out]; unfold nxt mkR mkP; simp <;> omega), by rw [MT.out, MK.out]; exact ov_cast O2.out (Prod.ext (by unfold mkR; simp ; try omega) (by unfold mkR mkP; simp )), B2.out⟩
          · go_wp2_with (at_builtin; refine wpList_app elemR encP_len encP_one rfl (.tmp 47) (.tmp 49) rfl _ _ rfl rfl ((HO.out.alloc _).alloc _) (new_pair2 (World.size_alloc _ _)) ?q51 ?q52 ?_)
            case q51 => (try simp); omega
            case q52 => (try simp); omega
            intro v' w2 o2 g2
            have B2 := Lib.hid (((HB.out.alloc hsz _).alloc (by simp; omega) _).grown g2 (by simp; omega) (fun k hk => (HO.out.block k hk).1))
            have O2 := Lib.hid o2
            have k0 := keep_new g2 (fun k hk => (HO.out.block k hk).2) 0 rfl
            have k1 := keep_new g2 (fun k hk => (HO.out.block k hk).2) 1 rfl
            clear g2 o2
            go_wp2
            go_roundg (gk - 1)
            case measure => have := HJ.out; omega
            case rel => exact ⟨j + 1, by have := HJ.out; omega, by go_num, by rw [MT.out]; exact congrArg (Value.int .i64) (by rw [NX.out]; unfold nxt mkR mkP; simp <;> omega), by rw [MT.out, MK.out]; exact ov_cast O2.out (Prod.ext (by unfold mkR; simp ; try omega) (by unfold mkR mkP; simp )), B2.out⟩
        · have d1 : decide ((250 : Int) ≤ x) = false := by rw [decide_eq_false_iff_not]; exact h250
          go_wp2_with (at_builtin; refine wpList_app elemR encP_len encP_one rfl (.tmp 47) (.tmp 49) rfl _ _ rfl rfl ((HO.out.alloc _).alloc _) (new_pair2 (World.size_alloc _ _)) ?q71 ?q72 ?_)
          case q71 => (try simp); omega
          case q72 => (try simp); omega
          intro v' w2 o2 g2
          have B2 := Lib.hid (((HB.out.alloc hsz _).alloc (by simp; omega) _).grown g2 (by simp; omega) (fun k hk => (HO.out.block k hk).1))
          have O2 := Lib.hid o2
          have k0 := keep_new g2 (fun k hk => (HO.out.block k hk).2) 0 rfl
          have k1 := keep_new g2 (fun k hk => (HO.out.block k hk).2) 1 rfl
          clear g2 o2
          go_wp2
          go_roundg (gk - 1)
          case measure => have := HJ.out; omega
          case rel => exact ⟨j + 1, by have := HJ.out; omega, by go_num, by rw [MT.out]; exact congrArg (Value.int .i64) (by rw [NX.out]; unfold nxt mkR mkP; simp [show ¬ 250 ≤ x by omega]; try omega), by rw [MT.out, MK.out]; exact ov_cast O2.out (Prod.ext (by unfold mkR; simp [show ¬ 250 ≤ x by omega]; try omega) (by unfold mkR mkP; simp [show ¬ 250 ≤ x by omega])), B2.out⟩
      · have E := Lib.hid (show (l.take j).foldl mk1 [] = madeL l from by rw [HML.out]; congr 2; have := HJ.out; omega)
        go_wp2
        go_ret
        exact ⟨_, rfl, by have := HO.out; rwa [E.out] at this, HB.out⟩

set_option maxRecDepth 100000 in
set_option maxHeartbeats 2000000 in
theorem lhas_ok (w : World) (v : Value) (l : List (Int × Int)) (n : Int) (hv : EV encP 2 w v l) (hlen : l.length ≤ 1000000000) (hc : Can 0 l) :
    Calls Try.prog 25 #[v, .int .i64 n] w fun e w' => e = .returned (.bool (hasR l n)) ∧ Below w.heap.size w w' := by
  obtain ⟨A, c, rfl⟩ := hv.shape
  have HV := Lib.hid hv
  have HR := Lib.hid (show ∀ j : Nat, ∀ r : Int × Int, l[j]? = some r → rokB r = true from fun j r hr => can_mem_take (i := j + 1) (can_take hc _) (by omega) hr)
  obtain ⟨h, hh⟩ : ∃ h, hasR l n = h := ⟨_, rfl⟩
  rw [hh]
  have HH := Lib.hid hh
  clear hv hc hh
  go_enter Try.func25, Try.ntmps25
  go_wp2_with fail
  go_loopg [6, 9] l.length (fun k _ i wr => ∃ j : Nat, j + k = l.length ∧ i = .int .i64 j ∧ Below w.heap.size w wr ∧ hasR (l.take j) n = false)
  case atStart => exact ⟨0, by omega, rfl, Below.refl _ _, by simp [hasR_nil]⟩
  case round =>
    obtain ⟨j, hj, rfl, hb, hc⟩ := hrel
    have HJ := Lib.hid hj
    have HC := Lib.hid hc
    have HB := Lib.hid hb
    have hsz := hb.size
    clear hj hc hb
    by_cases hlt : j < l.length
    · obtain ⟨b, off, c', hvv, hcc, rr⟩ := HV.out.row (by omega)
      simp only [Value.slice.injEq] at hvv
      obtain ⟨rfl, -, rfl⟩ := hvv
      obtain ⟨⟨p, q⟩, hr⟩ : ∃ r, l[j]? = some r := ⟨_, List.getElem?_eq_getElem hlt⟩
      obtain ⟨c0, c1⟩ := (rr.below HB.out).prs hr
      dsimp only at c0 c1
      obtain ⟨h1, h2, h3, h4⟩ := rok_iff.1 (HR.out j _ hr)
      dsimp only at h1 h2 h3 h4
      have NO := Lib.hid (show decide (p ≤ n ∧ n < p + q) = false → hasR (l.take (j + 1)) n = false from fun h => has_take HC.out hr h)
      have YES := Lib.hid (show decide (p ≤ n ∧ n < p + q) = true → h = true from fun h => by rw [← HH.out]; exact has_at hr h)
      have BA := Lib.hid (HB.out.alloc hsz (.cells #[.int .i64 p, .int .i64 q] 35))
      clear hr rr
      by_cases k1 : p ≤ n
      · have d1 : decide (p ≤ n) = true := by simp; omega
        by_cases k2 : n < p + q
        · have d2 : decide (n < p + q) = true := by simp; omega
          have E := Lib.hid (YES.out (by simp; omega))
          go_wp2
          go_ret
          exact ⟨ret_bool E.out.symm, BA.out⟩
        · have d2 : decide (n < p + q) = false := by simp; omega
          have E := Lib.hid (NO.out (by simp; omega))
          go_wp2
          go_roundg (gk - 1)
          case measure => have := HJ.out; omega
          case rel => exact ⟨j + 1, by have := HJ.out; omega, by go_num, BA.out, E.out⟩
      · have d1 : decide (p ≤ n) = false := by simp; omega
        have E := Lib.hid (NO.out (by simp; omega))
        go_wp2
        go_roundg (gk - 1)
        case measure => have := HJ.out; omega
        case rel => exact ⟨j + 1, by have := HJ.out; omega, by go_num, BA.out, E.out⟩
    · have e : h = false := by
        rw [← HH.out]
        have := HC.out
        rwa [List.take_of_length_le (by omega)] at this
      have E := Lib.hid e
      clear e
      go_wp2
      go_ret
      exact ⟨ret_bool E.out.symm, HB.out⟩

theorem EV.newN {α : Type} {enc : α → List Value} {k : Nat} {e : TypeId} {w : World} {xs : List α} {n m : Nat} {cs : Array Value} (hk : ∀ x, (enc x).length = k) (hcs : cs.toList = xs.flatMap enc) (hn : xs.length = n) (hm : w.heap.size = m) :
    EV enc k (w.alloc (.cells cs e)) (.slice (some ⟨m, 0, none⟩) n n) xs := by subst hm; exact EV.newL hk hcs hn (Nat.le_refl _)
set_option maxRecDepth 100000 in
set_option maxHeartbeats 2000000 in
theorem ends_ok (w : World) (v : Value) (xs : List (Value × List (Int × Int))) (hv : RowsOf w v xs) (hx : ∀ x ∈ xs, x.2.length ≤ 65536 ∧ Can 0 x.2) (hlen : xs.length ≤ 10) :
    Calls Try.prog 30 #[v] w fun e w' => ∃ r zs, e = .returned r ∧ OV encI 1 3 w.heap.size w' r zs ∧ zs.length ≤ 4000000 ∧ (∀ z ∈ zs, -1 ≤ z ∧ z ≤ 562949953421312) ∧ Below w.heap.size w w' := by
  obtain ⟨A, c, rfl⟩ := hv.1.shape
  have HV := Lib.hid hv
  have HX := Lib.hid hx
  clear hv hx
  go_enter Try.func30, Try.ntmps30
  go_wp2_with fail
  go_loopg [3, 5, 7, 10, 14, 15, 16] xs.length (fun k s _ _ i _ _ _ wr => ∃ (t : Nat) (zs : List Int), t + k = xs.length ∧ i = .int .i64 t ∧ OV encI 1 3 w.heap.size wr s zs ∧ zs.length ≤ 393216 * t ∧ (∀ z ∈ zs, -1 ≤ z ∧ z ≤ 562949953421312) ∧ Below w.heap.size w wr)
  case atStart => exact ⟨0, [], by omega, rfl, OV.nil _ _, by simp, by simp, Below.refl _ _⟩
  case round =>
    obtain ⟨t, zs, ht, rfl, ho, hl, hz, hb⟩ := hrel
    have HT := Lib.hid ht
    have HO := Lib.hid ho
    have HL := Lib.hid hl
    have HZ := Lib.hid hz
    have HB := Lib.hid hb
    have hsz := hb.size
    clear ht ho hl hz hb
    by_cases hlt : t < xs.length
    · obtain ⟨b, off, c', hvv, hcc, rr⟩ := HV.out.1.row (by omega)
      simp only [Value.slice.injEq] at hvv
      obtain ⟨rfl, -, rfl⟩ := hvv
      obtain ⟨⟨u, l⟩, hx⟩ : ∃ x, xs[t]? = some x := ⟨_, List.getElem?_eq_getElem hlt⟩
      have hm := List.mem_of_getElem? hx
      have c0 := (rr.below HB.out) t (u, l) hx 0 u rfl
      simp only [Nat.mul_one, Nat.add_zero] at c0
      have hev := (HV.out.2 _ hm).1
      have hcl := HX.out _ hm
      dsimp only at hev hcl
      obtain ⟨Au, cu, rfl⟩ := hev.shape
      have HEV := Lib.hid hev
      have HCL := Lib.hid hcl
      clear hx rr hm hev hcl
      go_wp2_with fail
      go_loopg [3, 7, 16] l.length (fun k s _ i wq => ∃ (q : Nat) (zs : List Int), q + k = l.length ∧ i = .int .i64 q ∧ OV encI 1 3 w.heap.size wq s zs ∧ zs.length ≤ 393216 * t + 6 * q ∧ (∀ z ∈ zs, -1 ≤ z ∧ z ≤ 562949953421312) ∧ Below w.heap.size w wq)
      case atStart => exact ⟨0, zs, by omega, rfl, HO.out, by have := HL.out; omega, HZ.out, HB.out⟩
      case round =>
        obtain ⟨q, zs2, hq, rfl, ho, hl, hz, hb⟩ := hrel
        have HQ := Lib.hid hq
        have HO := Lib.hid ho
        have HL2 := Lib.hid hl
        have HZ := Lib.hid hz
        have HB := Lib.hid hb
        have hsz := hb.size
        clear hq ho hl hz hb c0
        by_cases hql : q < l.length
        · obtain ⟨b2, off2, c2, hvv, -, rb⟩ := HEV.out.row (by omega)
          simp only [Value.slice.injEq] at hvv
          obtain ⟨rfl, -, rfl⟩ := hvv
          obtain ⟨⟨p, d⟩, hr⟩ : ∃ r, l[q]? = some r := ⟨_, List.getElem?_eq_getElem hql⟩
          obtain ⟨x0, x1⟩ := (rb.below HB.out).prs hr
          obtain ⟨h1, h2, h3, h4⟩ := rok_iff.1 (can_get HCL.out.2 hr).1
          dsimp only at x0 x1 h1 h2 h3 h4
          have hl9 : l.length ≤ 1000000000 := by have := HCL.out.1; omega
          have hz2 : zs2.length ≤ 4000000 := by have := HL2.out; have := HCL.out.1; omega
          clear hr rb
          go_wp2_with (at_builtin; refine wpList_app elemI encI_len encI_one rfl (.tmp 20) (.tmp 46) rfl _ _ rfl rfl ((HO.out.alloc _).alloc _) (EV.newN (xs := [p - 1, p, p + 1, p + d - 1, p + d, p + d + 1]) encI_len rfl rfl (World.size_alloc _ _)) ?q1 ?q2 ?_)
          case q1 => (try simp); omega
          case q2 => (try simp); omega
          intro v' w2 o2 g2
          have B2 := Lib.hid (((HB.out.alloc hsz _).alloc (by simp; omega) _).grown g2 (by simp; omega) (fun k hk => (HO.out.block k hk).1))
          have O2 := Lib.hid o2
          clear g2 o2
          go_wp2
          go_roundg (gk - 1)
          case measure => have := HQ.out; omega
          case rel => exact ⟨q + 1, _, by have := HQ.out; omega, by go_num, O2.out, by have := HL2.out; simp; omega, fun z hz => by
              rcases List.mem_append.1 hz with hz | hz
              · exact HZ.out z hz
              · simp at hz; omega, B2.out⟩
        · go_wp2
          go_roundg (xs.length - (t + 1))
          case measure => have := HT.out; omega
          case rel => exact ⟨t + 1, zs2, by have := HT.out; omega, by go_num, HO.out, by have := HL2.out; have := HCL.out.1; have := HQ.out; omega, HZ.out, HB.out⟩
    · go_wp2
      go_ret
      exact ⟨_, zs, rfl, HO.out, by have := HL.out; have := HT.out; omega, HZ.out, HB.out⟩
end Go.Proofs.Ytofjgcbjpmgkdaa
