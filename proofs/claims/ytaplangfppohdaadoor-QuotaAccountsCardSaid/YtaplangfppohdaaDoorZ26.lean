/- QuotaOver: the law. -/
import Derived.Test.YtaplangfppohdaaDoorZ25
import Derived.Test.YtaplangfppohdaaDoorZ19
set_option linter.unusedVariables false
set_option linter.unusedSimpArgs false
set_option linter.unusedSectionVars false
namespace Go.Proofs.YtaplangfppohdaaDoor
open Go.RowKit Go.Shelf
attribute [local go_sem] Oper.semAt_some

theorem flat_le {α β : Type} {f : α → List β} {B : Nat} : ∀ l : List α, (∀ x ∈ l, (f x).length ≤ B) → (l.flatMap f).length ≤ l.length * B
  | [], _ => by simp
  | x :: r, h => by
    have ih := flat_le r (fun y hy => h y (by simp [hy]))
    have h1 := h x (by simp)
    rw [List.flatMap_cons, List.length_append, List.length_cons, Nat.add_mul]
    omega
theorem uses_len {gs : List (Int × Int)} {rs : List Ru} {o : List Rn} : (usesL gs rs o).length ≤ rs.length * (64 * allN gs rs o) := by
  unfold usesL
  refine Nat.le_trans (flat_le (B := 64 * allN gs rs o) _ fun i hi => ?_) (by simp)
  refine Nat.le_trans (flat_le (B := allN gs rs o) _ fun c _ => ?_) (by simp)
  have := used_len (gs := gs) (rs := rs) (i := i) (List.mem_range.1 hi) (c : Int) o
  simpa [usesOf] using this
theorem accL_len {gs : List (Int × Int)} {rs : List Ru} {hs : List (Int × Int)} {l : List Ev} (hr : rs.length ≤ 100) : (accL gs rs hs l).length ≤ 1000000000 := by
  unfold accL
  split
  · rename_i h
    unfold accE at h
    split at h
    · rename_i h2; exact absurd h h2
    · split
      · simp
      · rename_i o ho
        rw [ho] at h
        dsimp only at h
        split at h
        · cases h
        · have h1 := uses_len (gs := gs) (rs := rs) (o := o)
          have h2 : rs.length * (64 * allN gs rs o) ≤ 100 * (64 * 65536) := Nat.mul_le_mul hr (Nat.mul_le_mul_left _ (by omega))
          omega
  · simp
/-- The debts that are over, so far. -/
def ovN (us : List Us) (j : Nat) : Nat := ((us.take j).filter fun u => decide (0 < u.d)).length
theorem ovN_succ {us : List Us} {j : Nat} {u : Us} (h : us[j]? = some u) : ovN us (j + 1) = ovN us j + if 0 < u.d then 1 else 0 := by
  unfold ovN
  rw [List.take_add_one, h, List.filter_append, List.length_append]
  by_cases hd : 0 < u.d <;> simp [hd]
theorem ovN_all {us : List Us} : ovN us us.length = (overL us).length := by
  unfold ovN overL; rw [List.take_of_length_le (Nat.le_refl _)]
theorem ovN_le (us : List Us) (j : Nat) : ovN us j ≤ j := Nat.le_trans (List.length_filter_le _ _) (by simp; exact Nat.min_le_left _ _)
theorem ov_get {us : List Us} {j : Nat} {u : Us} (h : us[j]? = some u) (hd : 0 < u.d) : (overL us)[ovN us j]? = some u := by
  have hj := (List.getElem?_eq_some_iff.1 h).1
  have hsp : us.filter (fun u => decide (0 < u.d)) = (us.take j).filter (fun u => decide (0 < u.d)) ++ (us.drop j).filter (fun u => decide (0 < u.d)) := by rw [← List.filter_append, List.take_append_drop]
  unfold overL ovN
  rw [hsp, List.getElem?_append_right (Nat.le_refl _), Nat.sub_self, List.drop_eq_getElem_cons hj]
  have : us[j] = u := by rw [List.getElem?_eq_getElem hj] at h; exact Option.some.inj h
  rw [this, List.filter_cons, if_pos (by simpa using hd)]
  rfl
theorem over_last {d l : Int} (hd : 0 ≤ d) (hl : 0 < l) : untE d l = 0 ∧ 0 ≤ untN d l ∧ d ≤ untN d l * l ∧ (untN d l = 0 ∨ (untN d l - 1) * l < d) ∧ untN d l ≤ d ∧ (untN d l = 0 → d = 0) := by
  by_cases h0 : d = 0
  · subst h0
    simp [untE, untN, show ¬ l < 0 by omega]
  · unfold untE untN
    rw [if_neg (by omega), if_neg h0, if_neg (by omega), if_neg (by omega), if_neg h0, if_neg (by omega)]
    have h1 : (d - 1) / l * l ≤ d - 1 := Int.ediv_mul_le _ (by omega)
    have h2 : d - 1 < ((d - 1) / l + 1) * l := Int.lt_ediv_add_one_mul_self _ hl
    have h3 : 0 ≤ (d - 1) / l := Int.ediv_nonneg (by omega) (by omega)
    have h4 : (d - 1) / l ≤ d - 1 := Int.ediv_le_self _ (by omega)
    refine ⟨rfl, by omega, by omega, .inr ?_, by omega, by omega⟩
    rw [Int.add_sub_cancel]; omega
theorem new_ruM {w : World} {r : Ru} {m : Nat} (hm : w.heap.size = m) : EV encRu 3 (w.alloc (.cells #[.int .i64 r.g, .int .i64 r.p, .int .i64 r.l] 44)) (.slice (some ⟨m, 0, none⟩) 1 1) [r] := EV.newM (e := 44) (xs := [r]) (n := 1) encRu_len (by simp [encRu]) rfl hm
def U16 (w : World) (v : Value) (ns : List Nat) : Prop := EV encU16 1 w v ns ∧ (∀ n ∈ ns, n < 65536) ∧ ns.length ≤ 9223372036854775807
theorem U16.below {w w' : World} {v : Value} {ns : List Nat} (h : U16 w v ns) (hb : Below w.heap.size w w') : U16 w' v ns := ⟨h.1.below hb, h.2⟩
theorem u16_of {w : World} {a : Option Addr} {len cap : Nat} {zs : List Int} (h : IsRow .u16 w a len cap zs) : U16 w (.slice a len cap) ((zs.take len).map Int.toNat) := by
  obtain ⟨h1, h2, h3, h4⟩ := row_ev encU16 Int.toNat (fun z hz => by have := wf_u16 hz; simp [encU16, Int.toNat_of_nonneg this.1]) h
  refine ⟨h1, fun n hn => ?_, by rw [h2]; exact h3⟩
  obtain ⟨z, hz, rfl⟩ := List.mem_map.1 hn
  have := wf_u16 (h4 z (List.mem_of_mem_take hz))
  omega
theorem SqArg.below {w w' : World} {v : Value} {ts : List Sq} (h : SqArg w v ts) (hb : Below w.heap.size w w') : SqArg w' v ts := ⟨h.1.below hb, h.2⟩
theorem homesG_i64 {G : Nat} (hG : G ≤ 256) : ∀ h ∈ homesG G, (-9223372036854775808 ≤ h.1 ∧ h.1 ≤ 9223372036854775807) ∧ (-9223372036854775808 ≤ h.2 ∧ h.2 ≤ 9223372036854775807) := by
  intro h hh
  unfold homesG at hh
  obtain ⟨i, hi, rfl⟩ := List.mem_map.1 hh
  have := List.mem_range.1 hi
  dsimp only
  omega
set_option maxRecDepth 100000 in
set_option maxHeartbeats 3200000 in
theorem over_walk (w : World) (vn vl : Value) (ns : List Nat) (sq : List Sq) (period limit debt : Nat) (hU : UsesAt w) (hn : U16 w vn ns) (hs : SqArg w vl sq) (h1 : period < 65536) (h2 : limit < 65536) (h3 : debt < 4294967296) :
    Calls Tryd.prog 10 #[vn, vl, .int .u16 (period : Nat), .int .u16 (limit : Nat), .int .u32 (debt : Nat)] w fun e w' => e = .returned (.bool true) ∧ Below w.heap.size w w' := by
  have HAW := Lib.hid (awake_ok w hU)
  have HU := Lib.hid hU
  have HN := Lib.hid hn
  have HS := Lib.hid hs
  clear hU hn hs
  obtain ⟨p, hp⟩ : ∃ p, p = 1 + period % 300 := ⟨_, rfl⟩
  obtain ⟨q, hq⟩ : ∃ q, q = limit % (p + 1) := ⟨_, rfl⟩
  have HPI := Lib.hid (show 1 + (period : Int) % 300 = (p : Int) from by omega)
  have hp2 : 1 ≤ p ∧ p ≤ 300 := by omega
  have hqi : (limit : Int) % ((p : Int) + 1) = (q : Int) := by rw [hq]; simp
  have hq2 : q ≤ p := by have := Nat.mod_lt limit (show 0 < p + 1 by omega); omega
  have HPQ := Lib.hid (And.intro hp2 hq2)
  clear hp hq
  go_enter Tryd.func10, Tryd.ntmps10
  go_wp2_with fail
  refine HAW.out.mono ?_
  rintro e w1 ⟨rfl, hb1⟩
  have HB1 := Lib.hid hb1
  clear HAW
  go_wp2_with fail
  refine (made28_ok w1 vn vl ns sq (HN.out.below hb1).1 HN.out.2.1 HN.out.2.2 (HS.out.below hb1)).mono ?_
  rintro e w2 ⟨vg, vh, ve, rfl, og, oh, oe, b2⟩
  have hgok := made_ok (l := ns.take 8) (fun n hn => HN.out.2.1 n (List.mem_of_mem_take hn))
  generalize madG (ns.take 8) = gs at hgok og oh oe
  have HG := Lib.hid hgok
  have hG : gs.length ≤ 256 := by have := hgok.2; omega
  have HACC := Lib.hid (acc_one (l := sq.take 60) (r := ⟨0, p, q⟩) hgok.1 ⟨⟨by dsimp only; omega, by have := hgok.1.pos; dsimp only; omega⟩, ⟨by dsimp only; omega, by dsimp only; omega⟩, ⟨by dsimp only; omega, by dsimp only; omega⟩⟩ hG (by simp; omega))
  have F : Facts w2 [sOV encG 2 53 w1.heap.size vg gs, sOV encG 2 61 w1.heap.size vh (homesG gs.length), sOV encE 11 59 w1.heap.size ve (madE gs.length (sq.take 60)), sB w] := ⟨og, oh, oe, HB1.out.trans (b2.mono HB1.out.size), trivial⟩
  have HHI := Lib.hid (homesG_i64 hG)
  have HGL := Lib.hid hG
  clear hb1 og oh oe b2 hgok hG HN HS HB1
  obtain ⟨o, _, _, _, _, hae, hal⟩ := HACC.out
  have hbw : Below w.heap.size w w2 := F.get 3
  have hal2 := bel_alloc w2 (.cells #[.int .i64 0, .int .i64 (p : Int), .int .i64 (q : Int)] 44)
  have HCA := Lib.hid (account_ok (w2.alloc (.cells #[.int .i64 0, .int .i64 (p : Int), .int .i64 (q : Int)] 44)) vg (.slice (some ⟨w2.heap.size, 0, none⟩) 1 1) vh ve gs [⟨0, p, q⟩] (homesG gs.length) (madE gs.length (sq.take 60))
    ((OV.ev (F.get 0) encG_len).below hal2) (new_ruM (r := ⟨0, p, q⟩) rfl) ((OV.ev (F.get 1) encG_len).below hal2) ((OV.ev (F.get 2) encE_len).below hal2) (HU.out.below (hbw.trans (hal2.mono hbw.size)))
    (by have := HGL.out; omega) (by simp) (by rw [homesG_len]; have := HGL.out; omega) (by rw [madE_len]; simp; omega) (by
      obtain ⟨_, _, _, _, _, h⟩ := madE_look (l := sq.take 60) HG.out.1.pos HGL.out (by simp; omega)
      exact h) HHI.out)
  rw [hae] at HCA
  have HLEN := Lib.hid (accL_len (gs := gs) (rs := [⟨0, p, q⟩]) (hs := homesG gs.length) (l := madE gs.length (sq.take 60)) (by simp))
  generalize accL gs [⟨0, p, q⟩] (homesG gs.length) (madE gs.length (sq.take 60)) = us at HCA HLEN
  replace F := F.below hal2
  clear hae hal hbw hal2 HACC
  have hp1 := HPQ.out.1
  have hp0 : (((p : Int) + 1) == 0) = false := by simp; omega
  go_upto_region 5 with fail
  rw [HPI.out]
  go_wp2_with fail
  refine HCA.out.mono ?_
  rintro e w3 ⟨vu, rfl, o3, b3⟩
  replace F : Facts w3 (sOV encUs 5 50 (w2.alloc (.cells #[.int .i64 0, .int .i64 (p : Int), .int .i64 (q : Int)] 44)).heap.size vu us :: _) := ⟨o3, F.below b3⟩
  clear o3 b3 HCA hp0 hp1
  go_wp2_with fail
  refine (over_ok w3 vu us (OV.ev (F.get 0) encUs_len) HLEN.out).mono ?_
  rintro e w4 ⟨vo, rfl, o, bb⟩
  replace F : Facts w4 (sOV encUs 5 50 w3.heap.size vo (overL us) :: _) := ⟨o, F.below bb⟩
  clear bb o
  obtain ⟨Au, cu, hvu⟩ := (OV.ev (F.get 1 : OV encUs 5 50 _ w4 vu us) encUs_len).shape
  obtain ⟨Ao, co, hvo⟩ := (OV.ev (F.get 0 : OV encUs 5 50 _ w4 vo (overL us)) encUs_len).shape
  obtain ⟨n, hn⟩ : ∃ n, us.length = n := ⟨_, rfl⟩
  obtain ⟨M, hM⟩ : ∃ M, (overL us).length = M := ⟨_, rfl⟩
  rw [hn] at hvu
  rw [hM] at hvo
  subst hvu hvo
  have HNU := Lib.hid hn
  have HMO := Lib.hid hM
  have HEU := Lib.hid (OV.ev (F.get 1 : OV encUs 5 50 _ w4 _ us) encUs_len)
  have HEO := Lib.hid (OV.ev (F.get 0 : OV encUs 5 50 _ w4 _ (overL us)) encUs_len)
  have HB4 := Lib.hid (F.get 5 : Below w.heap.size w w4)
  have hnb := HLEN.out
  rw [hn] at hnb
  have HU2 := Lib.hid (over_last (d := (debt : Int)) (l := 1 + (limit : Int)) (by omega) (by omega))
  have hMn : M ≤ n := by rw [← hM, ← hn]; exact List.length_filter_le _ _
  clear F hn hM hp2 hqi hq2 HLEN HHI HG HPQ
  go_wp2
  go_loopg [18, 57] n (fun k kv i wr => ∃ j : Nat, j + k = n ∧ i = .int .i64 j ∧ kv = .int .i64 (ovN us j : Nat) ∧ Below w4.heap.size w4 wr)
  case atStart => exact ⟨0, by omega, rfl, rfl, Below.refl _ _⟩
  case round =>
    obtain ⟨j, hj, rfl, rfl, hb⟩ := hrel
    have HJ := Lib.hid hj
    have HB := Lib.hid hb
    clear hj hb
    have hkj := ovN_le us j
    by_cases hlt : j < n
    · obtain ⟨u, hu⟩ : ∃ u, us[j]? = some u := ⟨_, List.getElem?_eq_getElem (by rw [HNU.out]; exact hlt)⟩
      obtain ⟨b, off, c', hs, hc, hr⟩ := (HEU.out.below HB.out).row (by rw [HNU.out]; omega)
      rw [HNU.out] at hs hc
      simp only [Value.slice.injEq, true_and] at hs
      obtain ⟨rfl, rfl⟩ := hs
      obtain ⟨c0, c1, c2, c3, c4⟩ := hr.us hu
      have HSU := Lib.hid (ovN_succ hu)
      have hbel := bel_alloc wr (.cells #[.int .i64 u.r, .int .i64 u.c, .int .i64 u.p, .int .i64 u.t, .int .i64 u.d] 50)
      have HB2 := Lib.hid (HB.out.trans (hbel.mono HB.out.size))
      by_cases hd : 0 < u.d
      · have hg := ov_get hu hd
        have hkM : ovN us j < M := by rw [← HMO.out]; exact (List.getElem?_eq_some_iff.1 hg).1
        have HK := Lib.hid (show ovN us (j + 1) = ovN us j + 1 from by rw [HSU.out, if_pos hd])
        obtain ⟨b2, off2, c2', hs2, hc2, hr2⟩ := (HEO.out.below HB2.out).row (by rw [HMO.out]; omega)
        rw [HMO.out] at hs2 hc2
        simp only [Value.slice.injEq, true_and] at hs2
        obtain ⟨rfl, rfl⟩ := hs2
        obtain ⟨e0, e1, e2, e3, e4⟩ := hr2.us hg
        clear hr hr2 hg hu HSU
        generalize ovN us j = k at hkM hkj HK e0 e1 e2 e3 e4 ⊢
        go_upto_region 14 with fail
        have d0 : (wr.alloc (.cells #[.int .i64 u.r, .int .i64 u.c, .int .i64 u.p, .int .i64 u.t, .int .i64 u.d] 50)).cell? ⟨wr.heap.size, 0, none⟩ = some (.int .i64 u.r) := by go_simp
        have d1 : (wr.alloc (.cells #[.int .i64 u.r, .int .i64 u.c, .int .i64 u.p, .int .i64 u.t, .int .i64 u.d] 50)).cell? ⟨wr.heap.size, 1, none⟩ = some (.int .i64 u.c) := by go_simp
        have d2 : (wr.alloc (.cells #[.int .i64 u.r, .int .i64 u.c, .int .i64 u.p, .int .i64 u.t, .int .i64 u.d] 50)).cell? ⟨wr.heap.size, 2, none⟩ = some (.int .i64 u.p) := by go_simp
        have d3 : (wr.alloc (.cells #[.int .i64 u.r, .int .i64 u.c, .int .i64 u.p, .int .i64 u.t, .int .i64 u.d] 50)).cell? ⟨wr.heap.size, 3, none⟩ = some (.int .i64 u.t) := by go_simp
        have d4 : (wr.alloc (.cells #[.int .i64 u.r, .int .i64 u.c, .int .i64 u.p, .int .i64 u.t, .int .i64 u.d] 50)).cell? ⟨wr.heap.size, 4, none⟩ = some (.int .i64 u.d) := by go_simp
        clear c0 c1 c2 c3 c4 hbel
        generalize wr.alloc (.cells #[.int .i64 u.r, .int .i64 u.c, .int .i64 u.p, .int .i64 u.t, .int .i64 u.d] 50) = w5 at HB2 d0 d1 d2 d3 d4 e0 e1 e2 e3 e4 ⊢
        generalize wr.heap.size = X at d0 d1 d2 d3 d4 ⊢
        have g1 : decide ((M : Int) ≤ (k : Int)) = false := by simp; omega
        have g2 : decide (M ≤ k) = false := by simp; omega
        go_wp2_with fail
        go_quiet (fail)
        go_wp2
        go_roundg (gk - 1)
        case measure => have := HJ.out; omega
        case rel => exact ⟨j + 1, by have := HJ.out; omega, by go_num, by rw [HK.out]; go_num, below_drewN HB2.out _⟩
      · have HK := Lib.hid (show ovN us (j + 1) = ovN us j from by rw [HSU.out, if_neg hd]; rfl)
        clear hr hu HSU
        go_wp2
        go_roundg (gk - 1)
        case measure => have := HJ.out; omega
        case rel => exact ⟨j + 1, by have := HJ.out; omega, by go_num, by rw [HK.out], HB2.out⟩
    · obtain rfl : n = j := by have := HJ.out; omega
      have hkM : ovN us n = M := by rw [← HNU.out, ovN_all, HMO.out]
      rw [hkM]
      obtain ⟨u1, u2, u3, u4, u5, u6⟩ := HU2.out
      have HUN := Lib.hid (fun W => until_ok W (debt : Int) (1 + (limit : Int)) (by omega))
      rw [u1] at HUN
      generalize untN (debt : Int) (1 + (limit : Int)) = m at HUN u2 u3 u4 u5 u6
      clear hkM hkj hlt HJ
      go_wp2_with fail
      refine (HUN.out _).mono ?_
      rintro e w6 ⟨rfl, rfl⟩
      have v1 : m * (1 + (limit : Int)) ≤ 4294967296 * 65536 := Int.mul_le_mul (by omega) (by omega) (by omega) (by omega)
      have v2 : 0 ≤ m * (1 + (limit : Int)) := Int.mul_nonneg u2 (by omega)
      have v3 : (m - 1) * (1 + (limit : Int)) = m * (1 + (limit : Int)) - (1 + (limit : Int)) := by rw [Int.sub_mul, Int.one_mul]
      obtain ⟨P, hP⟩ : ∃ P, m * (1 + (limit : Int)) = P := ⟨_, rfl⟩
      rw [hP] at v1 v2 v3 u3
      by_cases hm0 : m = 0
      · subst hm0
        obtain rfl : debt = 0 := by have := u6 rfl; omega
        rw [Int.zero_mul] at hP
        clear hP v1 v2 v3 u2 u3 u4 u5 u6
        go_wp2
        go_ret
        exact ⟨rfl, HB4.out.trans (HB.out.mono HB4.out.size)⟩
      · have hm1 : (m == 0) = false := by simp [hm0]
        obtain ⟨Q, hQ⟩ : ∃ Q, (m - 1) * (1 + (limit : Int)) = Q := ⟨_, rfl⟩
        have u4' : Q < (debt : Int) := by rcases u4 with h | h; exact absurd h hm0; rw [← hQ]; exact h
        rw [hQ] at v3
        have hQ0 : -65537 ≤ Q := by omega
        clear v3 u4 u6
        go_wp2
        go_ret
        exact ⟨rfl, HB4.out.trans (HB.out.mono HB4.out.size)⟩
end Go.Proofs.YtaplangfppohdaaDoor
