/- MergeSplits: the walk. -/
import Derived.Test.YtalophngappkhaaGreatDoorMsc
import Derived.Test.YtalophngappkhaaGreatDoorZ28
import Derived.Test.YtalophngappkhaaGreatDoorZ27
import Derived.Test.YtalophngappkhaaGreatDoorZ25
set_option linter.unusedVariables false
set_option linter.unusedSimpArgs false
set_option linter.unusedSectionVars false
namespace Go.Proofs.YtalophngappkhaaGreatDoor
open Go Go.RowKit Go.Shelf
attribute [local go_sem] Oper.semAt_some

theorem cpuL_at {tr : List Ev} (ht : Tr tr) {q j : Nat} {e : Ev} (h : (cpuL tr q)[j]? = some e) : e ∈ tr ∧ e.cpu = (q : Int) ∧ (∀ i p, j = i + 1 → (cpuL tr q)[i]? = some p → p.seq < e.seq) := by
  have hm := List.mem_of_getElem? h
  unfold cpuL at hm
  obtain ⟨h1, h2⟩ := List.mem_filter.1 hm
  refine ⟨h1, by simpa using h2, fun i p hj hp => ?_⟩
  have hs : (cpuL tr q).Pairwise (fun a b => a.seq < b.seq) := ht.srt'.srt.sublist List.filter_sublist
  obtain ⟨h3, rfl⟩ := List.getElem?_eq_some_iff.1 h
  obtain ⟨h4, rfl⟩ := List.getElem?_eq_some_iff.1 hp
  exact List.pairwise_iff_getElem.1 hs i j h4 h3 (by omega)
set_option maxRecDepth 100000 in
set_option maxHeartbeats 6400000 in
theorem splits_walk (w : World) (v : Value) (xs : List S6) (by_ from_ : Int) (hx : S6Arg w v xs) (hU : LaidAt w) (s1 : 0 ≤ by_ ∧ by_ ≤ 255) (m1 : 0 ≤ from_ ∧ from_ ≤ 255) :
    Calls Tryz.prog 11 #[v, .int .u8 by_, .int .u8 from_] w fun r w' => r = .returned (.bool true) ∧ Below w.heap.size w w' := by
  have HX := Lib.hid hx
  have HU := Lib.hid hU
  have HAW := Lib.hid (awake_ok w hU)
  have HS := Lib.hid s1
  have HM := Lib.hid m1
  clear hx hU s1 m1
  go_enter Tryz.func11, Tryz.ntmps11
  go_wp2_with fail
  refine HAW.out.mono ?_
  rintro r w1 ⟨rfl, b1⟩
  have HB1 := Lib.hid b1
  have HX1 := Lib.hid (HX.out.below b1)
  clear HAW HX b1
  go_wp2_with fail
  refine (trace_ok w1 v xs HX1.out.1 HX1.out.2.1 HX1.out.2.2).mono ?_
  rintro r w2 ⟨vt, tr, rfl, o2, ht, hlen, b2⟩
  have HT := Lib.hid ht
  have HTV := Lib.hid (o2.ev encE_len)
  have HOV := Lib.hid o2
  have HB2 := Lib.hid (bstep HB1.out b2)
  clear HX1 HB1 b2 o2 ht hlen
  have HUS := Lib.hid (show UsesAt w2 from (HU.out.below HB2.out).uses)
  go_wp2_with fail
  refine (split_ok w2 vt tr HTV.out (fun e he => (HT.out.ok e he).1) (by have := HT.out.len; omega) HUS.out).mono ?_
  rintro r w3 ⟨b3, ⟨hn, _⟩ | ⟨_, Z, A, rfl, hz, hfam⟩⟩
  · exact absurd HT.out.row hn
  have HTV3 := Lib.hid (HTV.out.below b3)
  have HB3 := Lib.hid (bstep HB2.out b3)
  have HUS3 := Lib.hid (HUS.out.below b3)
  have HF := Lib.hid hfam
  clear HTV HB2 HUS b3 hz hfam
  obtain ⟨At, ct, hAt⟩ := HTV3.out.shape
  subst hAt
  obtain ⟨n, hn⟩ : ∃ n, tr.length = n := ⟨_, rfl⟩
  have HN := Lib.hid (show tr.length = n ∧ n ≤ 40 from ⟨hn, by have := HT.out.len; omega⟩)
  rw [hn] at HTV3 ⊢
  have hn40 := HN.out.2
  clear hn
  obtain ⟨s, hs⟩ : ∃ s : Nat → Sl3, ∀ q, q < 64 → A.getD q undef = slV (s q) ∧ (s q).2.1 = (cpuL tr q).length := ⟨fun q => slOf (A.getD q undef), fun q hq => by
    have h1 := (HF.out.rows q hq).ev encE_len
    refine ⟨slOf_eq h1, ?_⟩
    obtain ⟨a, c, e⟩ := h1.shape
    show (slOf (A.getD q undef)).2.1 = _
    rw [e]; rfl⟩
  have HSQ := Lib.hid hs
  clear hs
  go_upto_block 0 with fail
  go_cut [10] (fun c wz => ∃ wq, wq = wz ∧ c = .int .i64 (n : Nat) ∧ Below w3.heap.size w3 wq)
  case first =>
    go_wp2
    go_loopg [10, 40] 64 (fun k c i wr => ∃ q m : Nat, q + k = 64 ∧ i = .int .i64 q ∧ c = .int .i64 m ∧ m = (cpusL tr q).length ∧ Below w3.heap.size w3 wr)
    case atStart => exact ⟨0, 0, by omega, rfl, rfl, rfl, Below.refl _ _⟩
    case round =>
      obtain ⟨q, m, hq, rfl, rfl, hm, hb⟩ := hrel
      have HQ := Lib.hid hq
      have HMC := Lib.hid hm
      have HBR := Lib.hid hb
      have hm40 : m ≤ 40 := by have := cpus_len tr q; have := HN.out; omega
      clear hq hm hb
      by_cases hlt : q < 64
      · obtain ⟨hs1, hs2⟩ := HSQ.out q hlt
        have hev := (HF.out.rows q hlt).ev encE_len
        have hcell := HF.out.at hlt
        rw [hs1] at hev hcell
        obtain ⟨sq, hsq⟩ : ∃ sq, s q = sq := ⟨_, rfl⟩
        rw [hsq] at hs2 hev hcell
        obtain ⟨Aq, lq, cq⟩ := sq
        unfold slV at hev hcell
        dsimp only at hs2 hev hcell
        have hq0 := (below_cell HBR.out hcell)
        have HEV := Lib.hid (hev.below HBR.out)
        have HLQ := Lib.hid hs2
        have hlq : lq ≤ 40 := by have h := cpus_len tr (q + 1); rw [cpus_len_succ] at h; have := HN.out; omega
        have HSU := Lib.hid (show (cpusL tr (q + 1)).length = m + lq by rw [cpus_len_succ, ← HMC.out, ← hs2])
        have hq64 : decide (q < 64) = true := by simpa using hlt
        have hq64' : decide ((q : Int) < 64) = true := by simp; omega
        clear hs1 hs2 hev hcell hsq
        obtain ⟨ws, hws⟩ : ∃ ws, ws = wr := ⟨_, rfl⟩
        rw [← hws] at HBR HEV hq0
        rw [← hws]
        clear hws
        go_wp2
        clear hq0
        go_loopg [51] lq (fun k i wy => ∃ j : Nat, j + k = lq ∧ i = .int .i64 j ∧ Below ws.heap.size ws wy)
        case atStart => exact ⟨0, by omega, rfl, Below.refl _ _⟩
        case round =>
          obtain ⟨j, hj, rfl, hb⟩ := hrel
          have HJ := Lib.hid hj
          have HBY := Lib.hid hb
          clear hj hb
          by_cases hjl : j < lq
          · obtain ⟨b, off, c', hsl, hcc, hrr⟩ := (HEV.out.below HBY.out).row (by rw [← HLQ.out]; omega)
            rw [← HLQ.out] at hsl
            cases hsl
            obtain ⟨e, he⟩ : ∃ e, (cpuL tr q)[j]? = some e := ⟨_, List.getElem?_eq_getElem (by rw [← HLQ.out]; exact hjl)⟩
            obtain ⟨g0, g1, g2, g3, g4, g5, g6, g7, g8, g9, g10⟩ := hrr.ev he
            have HE := Lib.hid he
            have HEB := Lib.hid (evp_new wr e)
            have HA := Lib.hid (bel_alloc wr (.cells #[.int .i64 e.seq, .int .i64 e.time, .int .u8 e.cpu, .int .u8 e.kind, .int .i64 e.task, .int .i64 e.grp, .int .i64 e.to, .int .i64 e.wt, .int .i64 e.ticks, .int .u64 e.mask, .int .i64 e.got] 28))
            clear hrr hcc he
            go_upto_region 15 with fail
            obtain ⟨hin, hcpu, hprev⟩ := cpuL_at HT.out HE.out
            have h1 := HEB.out
            have h2 := HA.out
            clear HEB HA g0 g1 g2 g3 g4 g5 g6 g7 g8 g9 g10
            generalize wr.alloc (.cells #[.int .i64 e.seq, .int .i64 e.time, .int .u8 e.cpu, .int .u8 e.kind, .int .i64 e.task, .int .i64 e.grp, .int .i64 e.to, .int .i64 e.wt, .int .i64 e.ticks, .int .u64 e.mask, .int .i64 e.got] 28) = wa at h1 h2 ⊢
            generalize wr.heap.size = X at h1 ⊢
            have HEB := Lib.hid h1
            have HB3 := Lib.hid (bstep HBY.out h2)
            have HIN := Lib.hid hin
            have HCPU := Lib.hid hcpu
            have HPREV := Lib.hid hprev
            have HEV3 := Lib.hid (HEV.out.below HB3.out)
            have HTR3 := Lib.hid ((HTV3.out.below HBR.out).below HB3.out)
            clear h1 h2 HBY hin hcpu hprev
            rcases Nat.eq_zero_or_pos j with hj0 | hj0
            · have hd0 : decide (0 < j) = false := by simp; omega
              have hd0' : decide ((0 : Int) < (j : Int)) = false := by simp; omega
              clear hj0
              go_wp2_with fail
              refine wp_region_dagG (by kernel_rfl) 26 rfl (fun i => i == 23) (fun i => !(i == 9 || i == 10 || i == 11 || i == 12 || i == 13 || i == 14 || i == 15 || i == 16 || i == 17)) ?hMw (fun x => ⟨#[v, .int .u8 by_, .int .u8 from_, undef, undef, undef, u6, .slice At n ct, .slice (some ⟨Z, 0, none⟩) 64 64, .int .i64 0, .int .i64 (↑m + ↑lq), .int .i64 ↑q, .slice (some ⟨b, off, none⟩) lq cq, .int .i64 ↑j, .pointer (some ⟨X, 0, none⟩), undef, undef, undef, undef, undef, undef, undef, .bool true, .bool false, v, .slice At n ct, .tuple #[.slice (some ⟨Z, 0, none⟩) 64 64, .int .i64 0], .slice At n ct, .tuple #[.slice (some ⟨Z, 0, none⟩) 64 64, .int .i64 0], .slice (some ⟨Z, 0, none⟩) 64 64, .int .i64 0, .int .i64 0, .bool false, .bool false, .slice (some ⟨Z, 0, none⟩) 64 64, .int .i64 64, .bool false, .bool false, .slice (some ⟨Z, 0, none⟩) 64 64, .int .i64 64, .int .i64 ↑q, .bool true, .int .i64 ↑q, .pointer (some ⟨Z, q, none⟩), .slice (some ⟨b, off, none⟩) lq cq, .int .i64 ↑m, .slice (some ⟨b, off, none⟩) lq cq, .int .i64 ↑lq, .int .i64 (↑m + ↑lq), .slice (some ⟨b, off, none⟩) lq cq, .int .i64 ↑lq, .int .i64 ↑j, .bool true, .int .i64 ↑j, .pointer (some ⟨b, off + j * 11, none⟩), .agg #[.int .i64 e.seq, .int .i64 e.time, .int .u8 e.cpu, .int .u8 e.kind, .int .i64 e.task, .int .i64 e.grp, .int .i64 e.to, .int .i64 e.wt, .int .i64 e.ticks, .int .u64 e.mask, .int .i64 e.got], x 0, x 1, x 2, x 3, x 4, x 5, x 6, x 7, x 8, x 9, x 10, x 11, x 12, x 13, x 14, x 15, x 16, x 17, x 18, x 19, x 20, x 21, x 22, x 23, x 24, x 25, u82, u83, undef, undef, undef, undef, undef, undef, undef, undef, undef, undef, undef, undef, undef, undef, undef, undef, undef, undef, undef, undef, undef, undef, undef, undef, undef, undef, undef, undef, undef, undef, undef, undef, undef, undef, undef, undef, undef, undef, undef, undef, undef, undef, undef, undef, undef, undef, undef, undef, undef, undef, undef, undef, undef, undef, undef, undef, undef, undef, undef, undef, undef, undef, undef, undef], []⟩) (fun iF vF => match iF with | 0 => vF = .pointer (some ⟨X, 2, none⟩) | 1 => vF = .int .u8 (q : Nat) | 2 => vF = .int .i64 (q : Nat) | 3 => vF = .int .i64 ↑q | 4 => vF = .bool false | 5 => vF = .bool false | 6 => vF = .int .i64 ↑j | 7 => vF = .bool false | 8 => vF = .bool false | 9 => vF = undef | 10 => vF = undef | 11 => vF = undef | 12 => vF = undef | 13 => vF = undef | 14 => vF = undef | 15 => vF = undef | 16 => vF = undef | 17 => vF = undef | 18 => vF = .bool false | 19 => vF = .bool false | 20 => vF = .bool false | 21 => vF = .slice At n ct | 22 => vF = .agg #[.int .i64 e.seq, .int .i64 e.time, .int .u8 e.cpu, .int .u8 e.kind, .int .i64 e.task, .int .i64 e.grp, .int .i64 e.to, .int .i64 e.wt, .int .i64 e.ticks, .int .u64 e.mask, .int .i64 e.got] | 24 => vF = .bool false | 25 => vF = .bool false | _ => True)
                (fun d x W => Below wa.heap.size wa W ∧ (d 23 = true → (x 23) = .bool true)) ?hB ?hwant ?hoff (by kernel_rfl) ?hpure ?hmem ?hend (fun i => (#[u56, u57, u58, u59, u60, u61, u62, u63, u64, u65, u66, u67, u68, u69, u70, u71, u72, u73, u74, u75, u76, u77, u78, u79, u80, u81] : Array Value).getD i undef) rfl ?hstart
              case hstart =>
                try dsimp only
                exact ⟨below_drew (Below.refl _ _), fun h => (by cases h)⟩
              case hB =>
                intro d d' x i v W hi hm h
                have g23 : ¬ 23 = i := by rintro rfl; exact absurd (show true = false from hi) (by simp)
                have e23 : d' 23 = d 23 := hm 23 rfl
                try dsimp only at h ⊢
                first | rw [upd_ne g23, e23] | simp only [upd_ne g23, e23]
                exact h
              case hMw =>
                intro i hi
                simp only [Bool.or_eq_true, beq_iff_eq] at hi
                rcases hi with rfl
                all_goals rfl
              case hwant =>
                intro iF o hi ho x hf
                rcases (show iF = 0 ∨ iF = 1 ∨ iF = 2 ∨ iF = 3 ∨ iF = 4 ∨ iF = 5 ∨ iF = 6 ∨ iF = 7 ∨ iF = 8 ∨ iF = 9 ∨ iF = 10 ∨ iF = 11 ∨ iF = 12 ∨ iF = 13 ∨ iF = 14 ∨ iF = 15 ∨ iF = 16 ∨ iF = 17 ∨ iF = 18 ∨ iF = 19 ∨ iF = 20 ∨ iF = 21 ∨ iF = 22 ∨ iF = 23 ∨ iF = 24 ∨ iF = 25 by omega) with rfl | rfl | rfl | rfl | rfl | rfl | rfl | rfl | rfl | rfl | rfl | rfl | rfl | rfl | rfl | rfl | rfl | rfl | rfl | rfl | rfl | rfl | rfl | rfl | rfl | rfl
                · obtain rfl := Option.some.inj ho
                  rfl
                · obtain rfl := Option.some.inj ho
                  rfl
                · obtain rfl := Option.some.inj ho
                  rfl
                · obtain rfl := Option.some.inj ho
                  rfl
                · obtain rfl := Option.some.inj ho
                  rfl
                · obtain rfl := Option.some.inj ho
                  rfl
                · obtain rfl := Option.some.inj ho
                  have e : x 5 = .bool false := hf 5 (by kernel_rfl) (by kernel_rfl)
                  show ((match some (x 5) with | some (.bool b) => some b | _ => none) == some false) = true
                  rw [e]
                  rfl
                · obtain rfl := Option.some.inj ho
                  have e : x 5 = .bool false := hf 5 (by kernel_rfl) (by kernel_rfl)
                  show ((match some (x 5) with | some (.bool b) => some b | _ => none) == some false) = true
                  rw [e]
                  rfl
                · obtain rfl := Option.some.inj ho
                  have e : x 5 = .bool false := hf 5 (by kernel_rfl) (by kernel_rfl)
                  show ((match some (x 5) with | some (.bool b) => some b | _ => none) == some false) = true
                  rw [e]
                  rfl
                · obtain rfl := Option.some.inj ho
                  have e : x 8 = .bool false := hf 8 (by kernel_rfl) (by kernel_rfl)
                  show ((match some (x 8) with | some (.bool b) => some b | _ => none) == some true) = false
                  rw [e]
                  rfl
                · obtain rfl := Option.some.inj ho
                  have e : x 8 = .bool false := hf 8 (by kernel_rfl) (by kernel_rfl)
                  show ((match some (x 8) with | some (.bool b) => some b | _ => none) == some true) = false
                  rw [e]
                  rfl
                · obtain rfl := Option.some.inj ho
                  have e : x 8 = .bool false := hf 8 (by kernel_rfl) (by kernel_rfl)
                  show ((match some (x 8) with | some (.bool b) => some b | _ => none) == some true) = false
                  rw [e]
                  rfl
                · obtain rfl := Option.some.inj ho
                  have e : x 8 = .bool false := hf 8 (by kernel_rfl) (by kernel_rfl)
                  show ((match some (x 8) with | some (.bool b) => some b | _ => none) == some true) = false
                  rw [e]
                  rfl
                · obtain rfl := Option.some.inj ho
                  have e : x 8 = .bool false := hf 8 (by kernel_rfl) (by kernel_rfl)
                  show ((match some (x 8) with | some (.bool b) => some b | _ => none) == some true) = false
                  rw [e]
                  rfl
                · obtain rfl := Option.some.inj ho
                  have e : x 8 = .bool false := hf 8 (by kernel_rfl) (by kernel_rfl)
                  show ((match some (x 8) with | some (.bool b) => some b | _ => none) == some true) = false
                  rw [e]
                  rfl
                · obtain rfl := Option.some.inj ho
                  have e : x 8 = .bool false := hf 8 (by kernel_rfl) (by kernel_rfl)
                  show ((match some (x 8) with | some (.bool b) => some b | _ => none) == some true) = false
                  rw [e]
                  rfl
                · obtain rfl := Option.some.inj ho
                  have e : x 8 = .bool false := hf 8 (by kernel_rfl) (by kernel_rfl)
                  show ((match some (x 8) with | some (.bool b) => some b | _ => none) == some true) = false
                  rw [e]
                  rfl
                · obtain rfl := Option.some.inj ho
                  have e : x 8 = .bool false := hf 8 (by kernel_rfl) (by kernel_rfl)
                  show ((match some (x 8) with | some (.bool b) => some b | _ => none) == some true) = false
                  rw [e]
                  rfl
                · obtain rfl := Option.some.inj ho
                  have e : x 5 = .bool false := hf 5 (by kernel_rfl) (by kernel_rfl)
                  show ((match some (x 5) with | some (.bool b) => some b | _ => none) == some false) = true
                  rw [e]
                  rfl
                · obtain rfl := Option.some.inj ho
                  rfl
                · obtain rfl := Option.some.inj ho
                  rfl
                · obtain rfl := Option.some.inj ho
                  have e : x 20 = .bool false := hf 20 (by kernel_rfl) (by kernel_rfl)
                  show ((match some (x 20) with | some (.bool b) => some b | _ => none) == some false) = true
                  rw [e]
                  rfl
                · obtain rfl := Option.some.inj ho
                  have e : x 20 = .bool false := hf 20 (by kernel_rfl) (by kernel_rfl)
                  show ((match some (x 20) with | some (.bool b) => some b | _ => none) == some false) = true
                  rw [e]
                  rfl
                · obtain rfl := Option.some.inj ho
                  have e : x 20 = .bool false := hf 20 (by kernel_rfl) (by kernel_rfl)
                  show ((match some (x 20) with | some (.bool b) => some b | _ => none) == some false) = true
                  rw [e]
                  rfl
                · obtain rfl := Option.some.inj ho
                  have e : x 20 = .bool false := hf 20 (by kernel_rfl) (by kernel_rfl)
                  show ((match some (x 20) with | some (.bool b) => some b | _ => none) == some false) = true
                  rw [e]
                  rfl
                · obtain rfl := Option.some.inj ho
                  rfl
              case hoff =>
                intro iF o hi hw ho x
                rcases (show iF = 0 ∨ iF = 1 ∨ iF = 2 ∨ iF = 3 ∨ iF = 4 ∨ iF = 5 ∨ iF = 6 ∨ iF = 7 ∨ iF = 8 ∨ iF = 9 ∨ iF = 10 ∨ iF = 11 ∨ iF = 12 ∨ iF = 13 ∨ iF = 14 ∨ iF = 15 ∨ iF = 16 ∨ iF = 17 ∨ iF = 18 ∨ iF = 19 ∨ iF = 20 ∨ iF = 21 ∨ iF = 22 ∨ iF = 23 ∨ iF = 24 ∨ iF = 25 by omega) with rfl | rfl | rfl | rfl | rfl | rfl | rfl | rfl | rfl | rfl | rfl | rfl | rfl | rfl | rfl | rfl | rfl | rfl | rfl | rfl | rfl | rfl | rfl | rfl | rfl | rfl
                · exact absurd (show true = false from hw) (by simp)
                · exact absurd (show true = false from hw) (by simp)
                · exact absurd (show true = false from hw) (by simp)
                · exact absurd (show true = false from hw) (by simp)
                · exact absurd (show true = false from hw) (by simp)
                · exact absurd (show true = false from hw) (by simp)
                · exact absurd (show true = false from hw) (by simp)
                · exact absurd (show true = false from hw) (by simp)
                · exact absurd (show true = false from hw) (by simp)
                · obtain rfl := Option.some.inj ho
                  exact ⟨rfl, rfl⟩
                · obtain rfl := Option.some.inj ho
                  exact ⟨rfl, rfl⟩
                · obtain rfl := Option.some.inj ho
                  exact ⟨rfl, rfl⟩
                · obtain rfl := Option.some.inj ho
                  exact ⟨rfl, rfl⟩
                · obtain rfl := Option.some.inj ho
                  exact ⟨rfl, rfl⟩
                · obtain rfl := Option.some.inj ho
                  exact ⟨rfl, rfl⟩
                · obtain rfl := Option.some.inj ho
                  exact ⟨rfl, rfl⟩
                · obtain rfl := Option.some.inj ho
                  exact ⟨rfl, rfl⟩
                · obtain rfl := Option.some.inj ho
                  exact ⟨rfl, rfl⟩
                · exact absurd (show true = false from hw) (by simp)
                · exact absurd (show true = false from hw) (by simp)
                · exact absurd (show true = false from hw) (by simp)
                · exact absurd (show true = false from hw) (by simp)
                · exact absurd (show true = false from hw) (by simp)
                · exact absurd (show true = false from hw) (by simp)
                · exact absurd (show true = false from hw) (by simp)
                · exact absurd (show true = false from hw) (by simp)
              case hpure =>
                intro iF o hi hnm hww ho d x W hB hd hdn hnd hcl Kq hK
                rcases (show iF = 0 ∨ iF = 1 ∨ iF = 2 ∨ iF = 3 ∨ iF = 4 ∨ iF = 5 ∨ iF = 6 ∨ iF = 7 ∨ iF = 8 ∨ iF = 9 ∨ iF = 10 ∨ iF = 11 ∨ iF = 12 ∨ iF = 13 ∨ iF = 14 ∨ iF = 15 ∨ iF = 16 ∨ iF = 17 ∨ iF = 18 ∨ iF = 19 ∨ iF = 20 ∨ iF = 21 ∨ iF = 22 ∨ iF = 23 ∨ iF = 24 ∨ iF = 25 by omega) with rfl | rfl | rfl | rfl | rfl | rfl | rfl | rfl | rfl | rfl | rfl | rfl | rfl | rfl | rfl | rfl | rfl | rfl | rfl | rfl | rfl | rfl | rfl | rfl | rfl | rfl
                · obtain rfl := Option.some.inj ho
                  clear ho hd hdn hnd hcl hB hnm hi
                  simp only [upd, reduceIte, Nat.reduceEqDiff] at hK
                  try dsimp only
                  go_simp
                  exact hK _ rfl
                · obtain rfl := Option.some.inj ho
                  have e0 : x 0 = .pointer (some ⟨X, 2, none⟩) := hd 0 (by kernel_rfl) (by kernel_rfl)
                  have hb := hB.1
                  have cz := (HEB.out.below hb (cell_lt HEB.out.c0)).c2
                  rw [HCPU.out] at cz
                  clear ho hd hdn hnd hcl hB hnm hi
                  simp only [upd, reduceIte, Nat.reduceEqDiff, e0] at hK
                  try dsimp only
                  go_simp
                  exact hK _ rfl
                · obtain rfl := Option.some.inj ho
                  have e1 : x 1 = .int .u8 (q : Nat) := hd 1 (by kernel_rfl) (by kernel_rfl)
                  clear ho hd hdn hnd hcl hB hnm hi
                  simp only [upd, reduceIte, Nat.reduceEqDiff, e1] at hK
                  try dsimp only
                  go_simp
                  exact hK _ (congrArg (Value.int .i64) (IntWalk.i64_in _ (by omega)))
                · obtain rfl := Option.some.inj ho
                  clear ho hd hdn hnd hcl hB hnm hi
                  simp only [upd, reduceIte, Nat.reduceEqDiff] at hK
                  try dsimp only
                  go_simp
                  exact hK _ rfl
                · obtain rfl := Option.some.inj ho
                  have e2 : x 2 = .int .i64 (q : Nat) := hd 2 (by kernel_rfl) (by kernel_rfl)
                  have e3 : x 3 = .int .i64 ↑q := hd 3 (by kernel_rfl) (by kernel_rfl)
                  clear ho hd hdn hnd hcl hB hnm hi
                  simp only [upd, reduceIte, Nat.reduceEqDiff, e2, e3] at hK
                  try dsimp only
                  go_simp
                  exact hK _ rfl
                · obtain rfl := Option.some.inj ho
                  have e4 : x 4 = .bool false := hd 4 (by kernel_rfl) (by kernel_rfl)
                  clear ho hd hdn hnd hcl hB hnm hi
                  simp only [upd, reduceIte, Nat.reduceEqDiff, e4] at hK
                  try dsimp only
                  go_simp
                  exact hK _ rfl
                · obtain rfl := Option.some.inj ho
                  clear ho hd hdn hnd hcl hB hnm hi
                  simp only [upd, reduceIte, Nat.reduceEqDiff] at hK
                  try dsimp only
                  go_simp
                  exact hK _ rfl
                · obtain rfl := Option.some.inj ho
                  have e6 : x 6 = .int .i64 ↑j := hd 6 (by kernel_rfl) (by kernel_rfl)
                  clear ho hd hdn hnd hcl hB hnm hi
                  simp only [upd, reduceIte, Nat.reduceEqDiff, e6] at hK
                  try dsimp only
                  go_simp
                  exact hK _ rfl
                · obtain rfl := Option.some.inj ho
                  have e7 : x 7 = .bool false := hd 7 (by kernel_rfl) (by kernel_rfl)
                  clear ho hd hdn hnd hcl hB hnm hi
                  simp only [upd, reduceIte, Nat.reduceEqDiff, e7] at hK
                  try dsimp only
                  go_simp
                  exact hK _ rfl
                · exact absurd (show false = true from hww) (by simp)
                · exact absurd (show false = true from hww) (by simp)
                · exact absurd (show false = true from hww) (by simp)
                · exact absurd (show false = true from hww) (by simp)
                · exact absurd (show false = true from hww) (by simp)
                · exact absurd (show false = true from hww) (by simp)
                · exact absurd (show false = true from hww) (by simp)
                · exact absurd (show false = true from hww) (by simp)
                · exact absurd (show false = true from hww) (by simp)
                · obtain rfl := Option.some.inj ho
                  have e8 : x 8 = .bool false := hd 8 (by kernel_rfl) (by kernel_rfl)
                  have e17 : x 17 = undef := hd 17 (by kernel_rfl) (by kernel_rfl)
                  clear ho hd hdn hnd hcl hB hnm hi
                  simp only [upd, reduceIte, Nat.reduceEqDiff, e8, e17] at hK
                  try dsimp only
                  go_simp
                  exact hK _ rfl
                · obtain rfl := Option.some.inj ho
                  have e5 : x 5 = .bool false := hd 5 (by kernel_rfl) (by kernel_rfl)
                  have e18 : x 18 = .bool false := hd 18 (by kernel_rfl) (by kernel_rfl)
                  clear ho hd hdn hnd hcl hB hnm hi
                  simp only [upd, reduceIte, Nat.reduceEqDiff, e5, e18] at hK
                  try dsimp only
                  go_simp
                  exact hK _ rfl
                · obtain rfl := Option.some.inj ho
                  have e19 : x 19 = .bool false := hd 19 (by kernel_rfl) (by kernel_rfl)
                  clear ho hd hdn hnd hcl hB hnm hi
                  simp only [upd, reduceIte, Nat.reduceEqDiff, e19] at hK
                  try dsimp only
                  go_simp
                  exact hK _ rfl
                · obtain rfl := Option.some.inj ho
                  clear ho hd hdn hnd hcl hB hnm hi
                  simp only [upd, reduceIte, Nat.reduceEqDiff] at hK
                  try dsimp only
                  go_simp
                  exact hK _ rfl
                · obtain rfl := Option.some.inj ho
                  have hb := hB.1
                  have hz := HEB.out.below hb (cell_lt HEB.out.c0)
                  obtain ⟨a0, a1, a2, a3, a4, a5, a6, a7, a8, a9⟩ : _ ∧ _ ∧ _ ∧ _ ∧ _ ∧ _ ∧ _ ∧ _ ∧ _ ∧ _ := ⟨hz.c0, hz.c1, hz.c2, hz.c3, hz.c4, hz.c5, hz.c6, hz.c7, hz.c8, hz.c9⟩
                  have a10 := hz.c10
                  clear hz
                  clear ho hd hdn hnd hcl hB hnm hi
                  simp only [upd, reduceIte, Nat.reduceEqDiff] at hK
                  try dsimp only
                  go_simp
                  exact hK _ rfl
                · exact absurd (show true = false from hnm) (by simp)
                · obtain rfl := Option.some.inj ho
                  have e23 : x 23 = .bool true := hB.2 (hdn 23 (by kernel_rfl))
                  clear ho hd hdn hnd hcl hB hnm hi
                  simp only [upd, reduceIte, Nat.reduceEqDiff, e23] at hK
                  try dsimp only
                  try rw [e23]
                  go_simp
                  exact hK _ rfl
                · obtain rfl := Option.some.inj ho
                  have e20 : x 20 = .bool false := hd 20 (by kernel_rfl) (by kernel_rfl)
                  have e24 : x 24 = .bool false := hd 24 (by kernel_rfl) (by kernel_rfl)
                  clear ho hd hdn hnd hcl hB hnm hi
                  simp only [upd, reduceIte, Nat.reduceEqDiff, e20, e24] at hK
                  try dsimp only
                  go_simp
                  exact hK _ rfl
              case hmem =>
                intro iF o hi hmm ho d d' x W hB hd hdn hnd hdi hdi' hdm hcl Kq hK
                rcases (show iF = 0 ∨ iF = 1 ∨ iF = 2 ∨ iF = 3 ∨ iF = 4 ∨ iF = 5 ∨ iF = 6 ∨ iF = 7 ∨ iF = 8 ∨ iF = 9 ∨ iF = 10 ∨ iF = 11 ∨ iF = 12 ∨ iF = 13 ∨ iF = 14 ∨ iF = 15 ∨ iF = 16 ∨ iF = 17 ∨ iF = 18 ∨ iF = 19 ∨ iF = 20 ∨ iF = 21 ∨ iF = 22 ∨ iF = 23 ∨ iF = 24 ∨ iF = 25 by omega) with rfl | rfl | rfl | rfl | rfl | rfl | rfl | rfl | rfl | rfl | rfl | rfl | rfl | rfl | rfl | rfl | rfl | rfl | rfl | rfl | rfl | rfl | rfl | rfl | rfl | rfl
                · exact absurd (show false = true from hmm) (by simp)
                · exact absurd (show false = true from hmm) (by simp)
                · exact absurd (show false = true from hmm) (by simp)
                · exact absurd (show false = true from hmm) (by simp)
                · exact absurd (show false = true from hmm) (by simp)
                · exact absurd (show false = true from hmm) (by simp)
                · exact absurd (show false = true from hmm) (by simp)
                · exact absurd (show false = true from hmm) (by simp)
                · exact absurd (show false = true from hmm) (by simp)
                · exact absurd (show false = true from hmm) (by simp)
                · exact absurd (show false = true from hmm) (by simp)
                · exact absurd (show false = true from hmm) (by simp)
                · exact absurd (show false = true from hmm) (by simp)
                · exact absurd (show false = true from hmm) (by simp)
                · exact absurd (show false = true from hmm) (by simp)
                · exact absurd (show false = true from hmm) (by simp)
                · exact absurd (show false = true from hmm) (by simp)
                · exact absurd (show false = true from hmm) (by simp)
                · exact absurd (show false = true from hmm) (by simp)
                · exact absurd (show false = true from hmm) (by simp)
                · exact absurd (show false = true from hmm) (by simp)
                · exact absurd (show false = true from hmm) (by simp)
                · exact absurd (show false = true from hmm) (by simp)
                · obtain rfl := Option.some.inj ho
                  have e21 : x 21 = .slice At n ct := hd 21 (by kernel_rfl) (by kernel_rfl)
                  have e22 : x 22 = .agg #[.int .i64 e.seq, .int .i64 e.time, .int .u8 e.cpu, .int .u8 e.kind, .int .i64 e.task, .int .i64 e.grp, .int .i64 e.to, .int .i64 e.wt, .int .i64 e.ticks, .int .u64 e.mask, .int .i64 e.got] := hd 22 (by kernel_rfl) (by kernel_rfl)
                  obtain ⟨hb, h23⟩ := hB
                  clear ho hd hdn hnd hcl hmm
                  simp only [upd, reduceIte, Nat.reduceEqDiff, e21, e22] at hK
                  try dsimp only
                  go_simp
                  go_simp
                  go_at_call 32
                  have hcn := contains_ev W (.slice At n ct) tr e (HTR3.out.below hb) (by rw [HN.out.1]; omega)
                  rw [decide_eq_true HIN.out] at hcn
                  unfold evA at hcn
                  refine hcn.mono ?_
                  rintro r W2 ⟨rfl, bb⟩
                  go_simp
                  refine hK _ _ ?_
                  try dsimp only
                  rw [hdi']
                  exact ⟨(bstep hb bb), fun _ => rfl⟩
                · exact absurd (show false = true from hmm) (by simp)
                · exact absurd (show false = true from hmm) (by simp)
              case hend =>
                intro d x W hall hB hd
                have hb := hB.1
                have ek := hd 25 (by omega) rfl
                clear hd hall hB
                try dsimp only
                rw [ek]
                clear ek
                generalize x 0 = y0
                generalize x 1 = y1
                generalize x 2 = y2
                generalize x 3 = y3
                generalize x 4 = y4
                generalize x 5 = y5
                generalize x 6 = y6
                generalize x 7 = y7
                generalize x 8 = y8
                generalize x 9 = y9
                generalize x 10 = y10
                generalize x 11 = y11
                generalize x 12 = y12
                generalize x 13 = y13
                generalize x 14 = y14
                generalize x 15 = y15
                generalize x 16 = y16
                generalize x 17 = y17
                generalize x 18 = y18
                generalize x 19 = y19
                generalize x 20 = y20
                generalize x 21 = y21
                generalize x 22 = y22
                generalize x 23 = y23
                generalize x 24 = y24
                have HFB := Lib.hid (bstep HB3.out hb)
                go_wp2
                go_roundg (lq - (j + 1))
                case measure => have := HJ.out; omega
                case rel => exact ⟨j + 1, by have := HJ.out; omega, by go_num, HFB.out⟩
            · have hd0 : decide (0 < j) = true := by simpa using hj0
              have hd0' : decide ((0 : Int) < (j : Int)) = true := by simp; omega
              obtain ⟨jp, hjp⟩ : ∃ jp, j = jp + 1 := ⟨j - 1, by omega⟩
              have hjm : (j : Int) - 1 = (jp : Int) := by omega
              have hjl2 : jp < lq := by omega
              obtain ⟨ep, hep⟩ : ∃ ep, (cpuL tr q)[jp]? = some ep := ⟨_, List.getElem?_eq_getElem (by rw [← HLQ.out]; omega)⟩
              have HLT := Lib.hid (HPREV.out jp ep hjp hep)
              have hds : decide (e.seq ≤ ep.seq) = false := by have := HLT.out; simp; omega
              have HCE := Lib.hid (((HEV3.out.row3 (by rw [← HLQ.out]; omega)).ev hep).1)
              clear hj0 hjp hep
              go_wp2_with fail
              refine wp_region_dagG (by kernel_rfl) 26 rfl (fun i => i == 23) (fun i => !(false)) ?hMw (fun x => ⟨#[v, .int .u8 by_, .int .u8 from_, undef, undef, undef, u6, .slice At n ct, .slice (some ⟨Z, 0, none⟩) 64 64, .int .i64 0, .int .i64 (↑m + ↑lq), .int .i64 ↑q, .slice (some ⟨b, off, none⟩) lq cq, .int .i64 ↑j, .pointer (some ⟨X, 0, none⟩), undef, undef, undef, undef, undef, undef, undef, .bool true, .bool false, v, .slice At n ct, .tuple #[.slice (some ⟨Z, 0, none⟩) 64 64, .int .i64 0], .slice At n ct, .tuple #[.slice (some ⟨Z, 0, none⟩) 64 64, .int .i64 0], .slice (some ⟨Z, 0, none⟩) 64 64, .int .i64 0, .int .i64 0, .bool false, .bool false, .slice (some ⟨Z, 0, none⟩) 64 64, .int .i64 64, .bool false, .bool false, .slice (some ⟨Z, 0, none⟩) 64 64, .int .i64 64, .int .i64 ↑q, .bool true, .int .i64 ↑q, .pointer (some ⟨Z, q, none⟩), .slice (some ⟨b, off, none⟩) lq cq, .int .i64 ↑m, .slice (some ⟨b, off, none⟩) lq cq, .int .i64 ↑lq, .int .i64 (↑m + ↑lq), .slice (some ⟨b, off, none⟩) lq cq, .int .i64 ↑lq, .int .i64 ↑j, .bool true, .int .i64 ↑j, .pointer (some ⟨b, off + j * 11, none⟩), .agg #[.int .i64 e.seq, .int .i64 e.time, .int .u8 e.cpu, .int .u8 e.kind, .int .i64 e.task, .int .i64 e.grp, .int .i64 e.to, .int .i64 e.wt, .int .i64 e.ticks, .int .u64 e.mask, .int .i64 e.got], x 0, x 1, x 2, x 3, x 4, x 5, x 6, x 7, x 8, x 9, x 10, x 11, x 12, x 13, x 14, x 15, x 16, x 17, x 18, x 19, x 20, x 21, x 22, x 23, x 24, x 25, u82, u83, undef, undef, undef, undef, undef, undef, undef, undef, undef, undef, undef, undef, undef, undef, undef, undef, undef, undef, undef, undef, undef, undef, undef, undef, undef, undef, undef, undef, undef, undef, undef, undef, undef, undef, undef, undef, undef, undef, undef, undef, undef, undef, undef, undef, undef, undef, undef, undef, undef, undef, undef, undef, undef, undef, undef, undef, undef, undef, undef, undef, undef, undef, undef, undef], []⟩) (fun iF vF => match iF with | 0 => vF = .pointer (some ⟨X, 2, none⟩) | 1 => vF = .int .u8 (q : Nat) | 2 => vF = .int .i64 (q : Nat) | 3 => vF = .int .i64 ↑q | 4 => vF = .bool false | 5 => vF = .bool false | 6 => vF = .int .i64 ↑j | 7 => vF = .bool true | 8 => vF = .bool true | 9 => vF = .pointer (some ⟨X, 0, none⟩) | 10 => vF = .int .i64 e.seq | 11 => vF = .slice (some ⟨b, off, none⟩) lq cq | 12 => vF = .int .i64 ↑j | 13 => vF = .int .i64 (jp : Nat) | 14 => vF = .pointer (some ⟨b, off + jp * 11, none⟩) | 15 => vF = .pointer (some ⟨b, off + jp * 11, none⟩) | 16 => vF = .int .i64 ep.seq | 17 => vF = .bool false | 18 => vF = .bool false | 19 => vF = .bool false | 20 => vF = .bool false | 21 => vF = .slice At n ct | 22 => vF = .agg #[.int .i64 e.seq, .int .i64 e.time, .int .u8 e.cpu, .int .u8 e.kind, .int .i64 e.task, .int .i64 e.grp, .int .i64 e.to, .int .i64 e.wt, .int .i64 e.ticks, .int .u64 e.mask, .int .i64 e.got] | 24 => vF = .bool false | 25 => vF = .bool false | _ => True)
                (fun d x W => Below wa.heap.size wa W ∧ (d 23 = true → (x 23) = .bool true)) ?hB ?hwant ?hoff (by kernel_rfl) ?hpure ?hmem ?hend (fun i => (#[u56, u57, u58, u59, u60, u61, u62, u63, u64, u65, u66, u67, u68, u69, u70, u71, u72, u73, u74, u75, u76, u77, u78, u79, u80, u81] : Array Value).getD i undef) rfl ?hstart
              case hstart =>
                try dsimp only
                exact ⟨below_drew (Below.refl _ _), fun h => (by cases h)⟩
              case hB =>
                intro d d' x i v W hi hm h
                have g23 : ¬ 23 = i := by rintro rfl; exact absurd (show true = false from hi) (by simp)
                have e23 : d' 23 = d 23 := hm 23 rfl
                try dsimp only at h ⊢
                first | rw [upd_ne g23, e23] | simp only [upd_ne g23, e23]
                exact h
              case hMw =>
                intro i hi
                simp only [Bool.or_eq_true, beq_iff_eq] at hi
                rcases hi with rfl
                all_goals rfl
              case hwant =>
                intro iF o hi ho x hf
                rcases (show iF = 0 ∨ iF = 1 ∨ iF = 2 ∨ iF = 3 ∨ iF = 4 ∨ iF = 5 ∨ iF = 6 ∨ iF = 7 ∨ iF = 8 ∨ iF = 9 ∨ iF = 10 ∨ iF = 11 ∨ iF = 12 ∨ iF = 13 ∨ iF = 14 ∨ iF = 15 ∨ iF = 16 ∨ iF = 17 ∨ iF = 18 ∨ iF = 19 ∨ iF = 20 ∨ iF = 21 ∨ iF = 22 ∨ iF = 23 ∨ iF = 24 ∨ iF = 25 by omega) with rfl | rfl | rfl | rfl | rfl | rfl | rfl | rfl | rfl | rfl | rfl | rfl | rfl | rfl | rfl | rfl | rfl | rfl | rfl | rfl | rfl | rfl | rfl | rfl | rfl | rfl
                · obtain rfl := Option.some.inj ho
                  rfl
                · obtain rfl := Option.some.inj ho
                  rfl
                · obtain rfl := Option.some.inj ho
                  rfl
                · obtain rfl := Option.some.inj ho
                  rfl
                · obtain rfl := Option.some.inj ho
                  rfl
                · obtain rfl := Option.some.inj ho
                  rfl
                · obtain rfl := Option.some.inj ho
                  have e : x 5 = .bool false := hf 5 (by kernel_rfl) (by kernel_rfl)
                  show ((match some (x 5) with | some (.bool b) => some b | _ => none) == some false) = true
                  rw [e]
                  rfl
                · obtain rfl := Option.some.inj ho
                  have e : x 5 = .bool false := hf 5 (by kernel_rfl) (by kernel_rfl)
                  show ((match some (x 5) with | some (.bool b) => some b | _ => none) == some false) = true
                  rw [e]
                  rfl
                · obtain rfl := Option.some.inj ho
                  have e : x 5 = .bool false := hf 5 (by kernel_rfl) (by kernel_rfl)
                  show ((match some (x 5) with | some (.bool b) => some b | _ => none) == some false) = true
                  rw [e]
                  rfl
                · obtain rfl := Option.some.inj ho
                  have e : x 8 = .bool true := hf 8 (by kernel_rfl) (by kernel_rfl)
                  show ((match some (x 8) with | some (.bool b) => some b | _ => none) == some true) = true
                  rw [e]
                  rfl
                · obtain rfl := Option.some.inj ho
                  have e : x 8 = .bool true := hf 8 (by kernel_rfl) (by kernel_rfl)
                  show ((match some (x 8) with | some (.bool b) => some b | _ => none) == some true) = true
                  rw [e]
                  rfl
                · obtain rfl := Option.some.inj ho
                  have e : x 8 = .bool true := hf 8 (by kernel_rfl) (by kernel_rfl)
                  show ((match some (x 8) with | some (.bool b) => some b | _ => none) == some true) = true
                  rw [e]
                  rfl
                · obtain rfl := Option.some.inj ho
                  have e : x 8 = .bool true := hf 8 (by kernel_rfl) (by kernel_rfl)
                  show ((match some (x 8) with | some (.bool b) => some b | _ => none) == some true) = true
                  rw [e]
                  rfl
                · obtain rfl := Option.some.inj ho
                  have e : x 8 = .bool true := hf 8 (by kernel_rfl) (by kernel_rfl)
                  show ((match some (x 8) with | some (.bool b) => some b | _ => none) == some true) = true
                  rw [e]
                  rfl
                · obtain rfl := Option.some.inj ho
                  have e : x 8 = .bool true := hf 8 (by kernel_rfl) (by kernel_rfl)
                  show ((match some (x 8) with | some (.bool b) => some b | _ => none) == some true) = true
                  rw [e]
                  rfl
                · obtain rfl := Option.some.inj ho
                  have e : x 8 = .bool true := hf 8 (by kernel_rfl) (by kernel_rfl)
                  show ((match some (x 8) with | some (.bool b) => some b | _ => none) == some true) = true
                  rw [e]
                  rfl
                · obtain rfl := Option.some.inj ho
                  have e : x 8 = .bool true := hf 8 (by kernel_rfl) (by kernel_rfl)
                  show ((match some (x 8) with | some (.bool b) => some b | _ => none) == some true) = true
                  rw [e]
                  rfl
                · obtain rfl := Option.some.inj ho
                  have e : x 8 = .bool true := hf 8 (by kernel_rfl) (by kernel_rfl)
                  show ((match some (x 8) with | some (.bool b) => some b | _ => none) == some true) = true
                  rw [e]
                  rfl
                · obtain rfl := Option.some.inj ho
                  have e : x 5 = .bool false := hf 5 (by kernel_rfl) (by kernel_rfl)
                  show ((match some (x 5) with | some (.bool b) => some b | _ => none) == some false) = true
                  rw [e]
                  rfl
                · obtain rfl := Option.some.inj ho
                  rfl
                · obtain rfl := Option.some.inj ho
                  rfl
                · obtain rfl := Option.some.inj ho
                  have e : x 20 = .bool false := hf 20 (by kernel_rfl) (by kernel_rfl)
                  show ((match some (x 20) with | some (.bool b) => some b | _ => none) == some false) = true
                  rw [e]
                  rfl
                · obtain rfl := Option.some.inj ho
                  have e : x 20 = .bool false := hf 20 (by kernel_rfl) (by kernel_rfl)
                  show ((match some (x 20) with | some (.bool b) => some b | _ => none) == some false) = true
                  rw [e]
                  rfl
                · obtain rfl := Option.some.inj ho
                  have e : x 20 = .bool false := hf 20 (by kernel_rfl) (by kernel_rfl)
                  show ((match some (x 20) with | some (.bool b) => some b | _ => none) == some false) = true
                  rw [e]
                  rfl
                · obtain rfl := Option.some.inj ho
                  have e : x 20 = .bool false := hf 20 (by kernel_rfl) (by kernel_rfl)
                  show ((match some (x 20) with | some (.bool b) => some b | _ => none) == some false) = true
                  rw [e]
                  rfl
                · obtain rfl := Option.some.inj ho
                  rfl
              case hoff =>
                intro iF o hi hw ho x
                rcases (show iF = 0 ∨ iF = 1 ∨ iF = 2 ∨ iF = 3 ∨ iF = 4 ∨ iF = 5 ∨ iF = 6 ∨ iF = 7 ∨ iF = 8 ∨ iF = 9 ∨ iF = 10 ∨ iF = 11 ∨ iF = 12 ∨ iF = 13 ∨ iF = 14 ∨ iF = 15 ∨ iF = 16 ∨ iF = 17 ∨ iF = 18 ∨ iF = 19 ∨ iF = 20 ∨ iF = 21 ∨ iF = 22 ∨ iF = 23 ∨ iF = 24 ∨ iF = 25 by omega) with rfl | rfl | rfl | rfl | rfl | rfl | rfl | rfl | rfl | rfl | rfl | rfl | rfl | rfl | rfl | rfl | rfl | rfl | rfl | rfl | rfl | rfl | rfl | rfl | rfl | rfl
                · exact absurd (show true = false from hw) (by simp)
                · exact absurd (show true = false from hw) (by simp)
                · exact absurd (show true = false from hw) (by simp)
                · exact absurd (show true = false from hw) (by simp)
                · exact absurd (show true = false from hw) (by simp)
                · exact absurd (show true = false from hw) (by simp)
                · exact absurd (show true = false from hw) (by simp)
                · exact absurd (show true = false from hw) (by simp)
                · exact absurd (show true = false from hw) (by simp)
                · exact absurd (show true = false from hw) (by simp)
                · exact absurd (show true = false from hw) (by simp)
                · exact absurd (show true = false from hw) (by simp)
                · exact absurd (show true = false from hw) (by simp)
                · exact absurd (show true = false from hw) (by simp)
                · exact absurd (show true = false from hw) (by simp)
                · exact absurd (show true = false from hw) (by simp)
                · exact absurd (show true = false from hw) (by simp)
                · exact absurd (show true = false from hw) (by simp)
                · exact absurd (show true = false from hw) (by simp)
                · exact absurd (show true = false from hw) (by simp)
                · exact absurd (show true = false from hw) (by simp)
                · exact absurd (show true = false from hw) (by simp)
                · exact absurd (show true = false from hw) (by simp)
                · exact absurd (show true = false from hw) (by simp)
                · exact absurd (show true = false from hw) (by simp)
                · exact absurd (show true = false from hw) (by simp)
              case hpure =>
                intro iF o hi hnm hww ho d x W hB hd hdn hnd hcl Kq hK
                rcases (show iF = 0 ∨ iF = 1 ∨ iF = 2 ∨ iF = 3 ∨ iF = 4 ∨ iF = 5 ∨ iF = 6 ∨ iF = 7 ∨ iF = 8 ∨ iF = 9 ∨ iF = 10 ∨ iF = 11 ∨ iF = 12 ∨ iF = 13 ∨ iF = 14 ∨ iF = 15 ∨ iF = 16 ∨ iF = 17 ∨ iF = 18 ∨ iF = 19 ∨ iF = 20 ∨ iF = 21 ∨ iF = 22 ∨ iF = 23 ∨ iF = 24 ∨ iF = 25 by omega) with rfl | rfl | rfl | rfl | rfl | rfl | rfl | rfl | rfl | rfl | rfl | rfl | rfl | rfl | rfl | rfl | rfl | rfl | rfl | rfl | rfl | rfl | rfl | rfl | rfl | rfl
                · obtain rfl := Option.some.inj ho
                  clear ho hd hdn hnd hcl hB hnm hi
                  simp only [upd, reduceIte, Nat.reduceEqDiff] at hK
                  try dsimp only
                  go_simp
                  exact hK _ rfl
                · obtain rfl := Option.some.inj ho
                  have e0 : x 0 = .pointer (some ⟨X, 2, none⟩) := hd 0 (by kernel_rfl) (by kernel_rfl)
                  have hb := hB.1
                  have cz := (HEB.out.below hb (cell_lt HEB.out.c0)).c2
                  rw [HCPU.out] at cz
                  clear ho hd hdn hnd hcl hB hnm hi
                  simp only [upd, reduceIte, Nat.reduceEqDiff, e0] at hK
                  try dsimp only
                  go_simp
                  exact hK _ rfl
                · obtain rfl := Option.some.inj ho
                  have e1 : x 1 = .int .u8 (q : Nat) := hd 1 (by kernel_rfl) (by kernel_rfl)
                  clear ho hd hdn hnd hcl hB hnm hi
                  simp only [upd, reduceIte, Nat.reduceEqDiff, e1] at hK
                  try dsimp only
                  go_simp
                  exact hK _ (congrArg (Value.int .i64) (IntWalk.i64_in _ (by omega)))
                · obtain rfl := Option.some.inj ho
                  clear ho hd hdn hnd hcl hB hnm hi
                  simp only [upd, reduceIte, Nat.reduceEqDiff] at hK
                  try dsimp only
                  go_simp
                  exact hK _ rfl
                · obtain rfl := Option.some.inj ho
                  have e2 : x 2 = .int .i64 (q : Nat) := hd 2 (by kernel_rfl) (by kernel_rfl)
                  have e3 : x 3 = .int .i64 ↑q := hd 3 (by kernel_rfl) (by kernel_rfl)
                  clear ho hd hdn hnd hcl hB hnm hi
                  simp only [upd, reduceIte, Nat.reduceEqDiff, e2, e3] at hK
                  try dsimp only
                  go_simp
                  exact hK _ rfl
                · obtain rfl := Option.some.inj ho
                  have e4 : x 4 = .bool false := hd 4 (by kernel_rfl) (by kernel_rfl)
                  clear ho hd hdn hnd hcl hB hnm hi
                  simp only [upd, reduceIte, Nat.reduceEqDiff, e4] at hK
                  try dsimp only
                  go_simp
                  exact hK _ rfl
                · obtain rfl := Option.some.inj ho
                  clear ho hd hdn hnd hcl hB hnm hi
                  simp only [upd, reduceIte, Nat.reduceEqDiff] at hK
                  try dsimp only
                  go_simp
                  exact hK _ rfl
                · obtain rfl := Option.some.inj ho
                  have e6 : x 6 = .int .i64 ↑j := hd 6 (by kernel_rfl) (by kernel_rfl)
                  clear ho hd hdn hnd hcl hB hnm hi
                  simp only [upd, reduceIte, Nat.reduceEqDiff, e6] at hK
                  try dsimp only
                  go_simp
                  exact hK _ rfl
                · obtain rfl := Option.some.inj ho
                  have e7 : x 7 = .bool true := hd 7 (by kernel_rfl) (by kernel_rfl)
                  clear ho hd hdn hnd hcl hB hnm hi
                  simp only [upd, reduceIte, Nat.reduceEqDiff, e7] at hK
                  try dsimp only
                  go_simp
                  exact hK _ rfl
                · obtain rfl := Option.some.inj ho
                  clear ho hd hdn hnd hcl hB hnm hi
                  simp only [upd, reduceIte, Nat.reduceEqDiff] at hK
                  try dsimp only
                  go_simp
                  exact hK _ rfl
                · obtain rfl := Option.some.inj ho
                  have e9 : x 9 = .pointer (some ⟨X, 0, none⟩) := hd 9 (by kernel_rfl) (by kernel_rfl)
                  have hb := hB.1
                  have cz := (HEB.out.below hb (cell_lt HEB.out.c0)).c0
                  clear ho hd hdn hnd hcl hB hnm hi
                  simp only [upd, reduceIte, Nat.reduceEqDiff, e9] at hK
                  try dsimp only
                  go_simp
                  exact hK _ rfl
                · obtain rfl := Option.some.inj ho
                  clear ho hd hdn hnd hcl hB hnm hi
                  simp only [upd, reduceIte, Nat.reduceEqDiff] at hK
                  try dsimp only
                  go_simp
                  exact hK _ rfl
                · obtain rfl := Option.some.inj ho
                  clear ho hd hdn hnd hcl hB hnm hi
                  simp only [upd, reduceIte, Nat.reduceEqDiff] at hK
                  try dsimp only
                  go_simp
                  exact hK _ rfl
                · obtain rfl := Option.some.inj ho
                  have e12 : x 12 = .int .i64 ↑j := hd 12 (by kernel_rfl) (by kernel_rfl)
                  clear ho hd hdn hnd hcl hB hnm hi
                  simp only [upd, reduceIte, Nat.reduceEqDiff, e12] at hK
                  try dsimp only
                  go_simp
                  exact hK _ (congrArg (Value.int .i64) (IntWalk.i64_in _ (by omega)))
                · obtain rfl := Option.some.inj ho
                  have e11 : x 11 = .slice (some ⟨b, off, none⟩) lq cq := hd 11 (by kernel_rfl) (by kernel_rfl)
                  have e13 : x 13 = .int .i64 (jp : Nat) := hd 13 (by kernel_rfl) (by kernel_rfl)
                  clear ho hd hdn hnd hcl hB hnm hi
                  simp only [upd, reduceIte, Nat.reduceEqDiff, e11, e13] at hK
                  try dsimp only
                  go_simp
                  exact hK _ rfl
                · obtain rfl := Option.some.inj ho
                  have e14 : x 14 = .pointer (some ⟨b, off + jp * 11, none⟩) := hd 14 (by kernel_rfl) (by kernel_rfl)
                  clear ho hd hdn hnd hcl hB hnm hi
                  simp only [upd, reduceIte, Nat.reduceEqDiff, e14] at hK
                  try dsimp only
                  go_simp
                  exact hK _ rfl
                · obtain rfl := Option.some.inj ho
                  have e15 : x 15 = .pointer (some ⟨b, off + jp * 11, none⟩) := hd 15 (by kernel_rfl) (by kernel_rfl)
                  have hb := hB.1
                  have cz := below_cell hb HCE.out
                  clear ho hd hdn hnd hcl hB hnm hi
                  simp only [upd, reduceIte, Nat.reduceEqDiff, e15] at hK
                  try dsimp only
                  go_simp
                  exact hK _ rfl
                · obtain rfl := Option.some.inj ho
                  have e10 : x 10 = .int .i64 e.seq := hd 10 (by kernel_rfl) (by kernel_rfl)
                  have e16 : x 16 = .int .i64 ep.seq := hd 16 (by kernel_rfl) (by kernel_rfl)
                  clear ho hd hdn hnd hcl hB hnm hi
                  simp only [upd, reduceIte, Nat.reduceEqDiff, e10, e16] at hK
                  try dsimp only
                  go_simp
                  exact hK _ rfl
                · obtain rfl := Option.some.inj ho
                  have e8 : x 8 = .bool true := hd 8 (by kernel_rfl) (by kernel_rfl)
                  have e17 : x 17 = .bool false := hd 17 (by kernel_rfl) (by kernel_rfl)
                  clear ho hd hdn hnd hcl hB hnm hi
                  simp only [upd, reduceIte, Nat.reduceEqDiff, e8, e17] at hK
                  try dsimp only
                  go_simp
                  exact hK _ rfl
                · obtain rfl := Option.some.inj ho
                  have e5 : x 5 = .bool false := hd 5 (by kernel_rfl) (by kernel_rfl)
                  have e18 : x 18 = .bool false := hd 18 (by kernel_rfl) (by kernel_rfl)
                  clear ho hd hdn hnd hcl hB hnm hi
                  simp only [upd, reduceIte, Nat.reduceEqDiff, e5, e18] at hK
                  try dsimp only
                  go_simp
                  exact hK _ rfl
                · obtain rfl := Option.some.inj ho
                  have e19 : x 19 = .bool false := hd 19 (by kernel_rfl) (by kernel_rfl)
                  clear ho hd hdn hnd hcl hB hnm hi
                  simp only [upd, reduceIte, Nat.reduceEqDiff, e19] at hK
                  try dsimp only
                  go_simp
                  exact hK _ rfl
                · obtain rfl := Option.some.inj ho
                  clear ho hd hdn hnd hcl hB hnm hi
                  simp only [upd, reduceIte, Nat.reduceEqDiff] at hK
                  try dsimp only
                  go_simp
                  exact hK _ rfl
                · obtain rfl := Option.some.inj ho
                  have hb := hB.1
                  have hz := HEB.out.below hb (cell_lt HEB.out.c0)
                  obtain ⟨a0, a1, a2, a3, a4, a5, a6, a7, a8, a9⟩ : _ ∧ _ ∧ _ ∧ _ ∧ _ ∧ _ ∧ _ ∧ _ ∧ _ ∧ _ := ⟨hz.c0, hz.c1, hz.c2, hz.c3, hz.c4, hz.c5, hz.c6, hz.c7, hz.c8, hz.c9⟩
                  have a10 := hz.c10
                  clear hz
                  clear ho hd hdn hnd hcl hB hnm hi
                  simp only [upd, reduceIte, Nat.reduceEqDiff] at hK
                  try dsimp only
                  go_simp
                  exact hK _ rfl
                · exact absurd (show true = false from hnm) (by simp)
                · obtain rfl := Option.some.inj ho
                  have e23 : x 23 = .bool true := hB.2 (hdn 23 (by kernel_rfl))
                  clear ho hd hdn hnd hcl hB hnm hi
                  simp only [upd, reduceIte, Nat.reduceEqDiff, e23] at hK
                  try dsimp only
                  try rw [e23]
                  go_simp
                  exact hK _ rfl
                · obtain rfl := Option.some.inj ho
                  have e20 : x 20 = .bool false := hd 20 (by kernel_rfl) (by kernel_rfl)
                  have e24 : x 24 = .bool false := hd 24 (by kernel_rfl) (by kernel_rfl)
                  clear ho hd hdn hnd hcl hB hnm hi
                  simp only [upd, reduceIte, Nat.reduceEqDiff, e20, e24] at hK
                  try dsimp only
                  go_simp
                  exact hK _ rfl
              case hmem =>
                intro iF o hi hmm ho d d' x W hB hd hdn hnd hdi hdi' hdm hcl Kq hK
                rcases (show iF = 0 ∨ iF = 1 ∨ iF = 2 ∨ iF = 3 ∨ iF = 4 ∨ iF = 5 ∨ iF = 6 ∨ iF = 7 ∨ iF = 8 ∨ iF = 9 ∨ iF = 10 ∨ iF = 11 ∨ iF = 12 ∨ iF = 13 ∨ iF = 14 ∨ iF = 15 ∨ iF = 16 ∨ iF = 17 ∨ iF = 18 ∨ iF = 19 ∨ iF = 20 ∨ iF = 21 ∨ iF = 22 ∨ iF = 23 ∨ iF = 24 ∨ iF = 25 by omega) with rfl | rfl | rfl | rfl | rfl | rfl | rfl | rfl | rfl | rfl | rfl | rfl | rfl | rfl | rfl | rfl | rfl | rfl | rfl | rfl | rfl | rfl | rfl | rfl | rfl | rfl
                · exact absurd (show false = true from hmm) (by simp)
                · exact absurd (show false = true from hmm) (by simp)
                · exact absurd (show false = true from hmm) (by simp)
                · exact absurd (show false = true from hmm) (by simp)
                · exact absurd (show false = true from hmm) (by simp)
                · exact absurd (show false = true from hmm) (by simp)
                · exact absurd (show false = true from hmm) (by simp)
                · exact absurd (show false = true from hmm) (by simp)
                · exact absurd (show false = true from hmm) (by simp)
                · exact absurd (show false = true from hmm) (by simp)
                · exact absurd (show false = true from hmm) (by simp)
                · exact absurd (show false = true from hmm) (by simp)
                · exact absurd (show false = true from hmm) (by simp)
                · exact absurd (show false = true from hmm) (by simp)
                · exact absurd (show false = true from hmm) (by simp)
                · exact absurd (show false = true from hmm) (by simp)
                · exact absurd (show false = true from hmm) (by simp)
                · exact absurd (show false = true from hmm) (by simp)
                · exact absurd (show false = true from hmm) (by simp)
                · exact absurd (show false = true from hmm) (by simp)
                · exact absurd (show false = true from hmm) (by simp)
                · exact absurd (show false = true from hmm) (by simp)
                · exact absurd (show false = true from hmm) (by simp)
                · obtain rfl := Option.some.inj ho
                  have e21 : x 21 = .slice At n ct := hd 21 (by kernel_rfl) (by kernel_rfl)
                  have e22 : x 22 = .agg #[.int .i64 e.seq, .int .i64 e.time, .int .u8 e.cpu, .int .u8 e.kind, .int .i64 e.task, .int .i64 e.grp, .int .i64 e.to, .int .i64 e.wt, .int .i64 e.ticks, .int .u64 e.mask, .int .i64 e.got] := hd 22 (by kernel_rfl) (by kernel_rfl)
                  obtain ⟨hb, h23⟩ := hB
                  clear ho hd hdn hnd hcl hmm
                  simp only [upd, reduceIte, Nat.reduceEqDiff, e21, e22] at hK
                  try dsimp only
                  go_simp
                  go_simp
                  go_at_call 32
                  have hcn := contains_ev W (.slice At n ct) tr e (HTR3.out.below hb) (by rw [HN.out.1]; omega)
                  rw [decide_eq_true HIN.out] at hcn
                  unfold evA at hcn
                  refine hcn.mono ?_
                  rintro r W2 ⟨rfl, bb⟩
                  go_simp
                  refine hK _ _ ?_
                  try dsimp only
                  rw [hdi']
                  exact ⟨(bstep hb bb), fun _ => rfl⟩
                · exact absurd (show false = true from hmm) (by simp)
                · exact absurd (show false = true from hmm) (by simp)
              case hend =>
                intro d x W hall hB hd
                have hb := hB.1
                have ek := hd 25 (by omega) rfl
                clear hd hall hB
                try dsimp only
                rw [ek]
                clear ek
                generalize x 0 = y0
                generalize x 1 = y1
                generalize x 2 = y2
                generalize x 3 = y3
                generalize x 4 = y4
                generalize x 5 = y5
                generalize x 6 = y6
                generalize x 7 = y7
                generalize x 8 = y8
                generalize x 9 = y9
                generalize x 10 = y10
                generalize x 11 = y11
                generalize x 12 = y12
                generalize x 13 = y13
                generalize x 14 = y14
                generalize x 15 = y15
                generalize x 16 = y16
                generalize x 17 = y17
                generalize x 18 = y18
                generalize x 19 = y19
                generalize x 20 = y20
                generalize x 21 = y21
                generalize x 22 = y22
                generalize x 23 = y23
                generalize x 24 = y24
                have HFB := Lib.hid (bstep HB3.out hb)
                go_wp2
                go_roundg (lq - (j + 1))
                case measure => have := HJ.out; omega
                case rel => exact ⟨j + 1, by have := HJ.out; omega, by go_num, HFB.out⟩
          · obtain rfl : lq = j := by have := HJ.out; omega
            go_wp2
            go_roundg (64 - (q + 1))
            case measure => have := HQ.out; omega
            case rel => exact ⟨q + 1, m + lq, by have := HQ.out; omega, by go_num, by go_num, HSU.out.symm, bstep HBR.out HBY.out⟩
      · obtain rfl : q = 64 := by have := HQ.out; omega
        have HMF := Lib.hid (show m = n by rw [HMC.out, cnt_parts HT.out, HN.out.1])
        go_wp2
        go_meet
        exact ⟨_, rfl, by rw [HMF.out], HBR.out⟩
  case rest =>
    obtain ⟨w4, rfl, rfl, b4⟩ := hcut
    have HTV4 := Lib.hid (HTV3.out.below b4)
    have HB4 := Lib.hid (bstep HB3.out b4)
    have HUS4 := Lib.hid (HUS3.out.below b4)
    have HF4 := Lib.hid (HF.out.below b4)
    have s1 := HS.out.1
    have s2 := HS.out.2
    have m1 := HM.out.1
    have m2 := HM.out.2
    have hk1 := Int.emod_nonneg by_ (show (64 : Int) ≠ 0 by omega)
    have hk2 := Int.emod_lt_of_pos by_ (show (0 : Int) < 64 by omega)
    obtain ⟨k, hk⟩ : ∃ k : Nat, by_ % 64 = (k : Int) := ⟨(by_ % 64).toNat, by omega⟩
    have hk64 : k < 64 := by omega
    have hr1 := Int.emod_nonneg from_ (show ((n : Int) + 1) ≠ 0 by omega)
    have hr2 := Int.emod_lt_of_pos from_ (show (0 : Int) < (n : Int) + 1 by omega)
    have hr3 : ¬ ((n : Int) + 1) = 0 := by omega
    obtain ⟨r, hr⟩ : ∃ r : Nat, from_ % ((n : Int) + 1) = (r : Int) := ⟨(from_ % ((n : Int) + 1)).toNat, by omega⟩
    have hrn : r ≤ n := by omega
    have HRN := Lib.hid hrn
    have HK := Lib.hid hk64
    clear HTV3 HB3 HUS3 b4
    go_upto_region 20 with fail
    try rw [hk]
    clear s1 s2
    have hri : (0 : Int) ≤ (r : Int) := by omega
    have hri2 : (r : Int) ≤ (n : Int) := by omega
    clear hk hk1 hk2 hk64
    go_cut [16] (fun a wz => ∃ Ar cr, w4 = wz ∧ a = .slice Ar (n - r) cr ∧ EV encE 11 w4 (.slice Ar (n - r) cr) (tr.drop r))
    case first =>
      rcases HOV.out.2 with ⟨e0, e1⟩ | ⟨g, cap, cur, e0, _, _, hnc, _⟩
      · simp only [Value.slice.injEq] at e0
        obtain ⟨rfl, e2, rfl⟩ := e0
        have hn0 : n = 0 := by rw [← HN.out.1]; exact e2
        have hr0 : r = 0 := by omega
        have HNR := Lib.hid (And.intro hn0 hr0)
        subst hn0
        subst hr0
        clear e1 e2
        go_wp2
        try rw [hr]
        go_meet
        exact ⟨none, 0, rfl, rfl, by rw [List.drop_zero]; exact HTV4.out⟩
      · simp only [Value.slice.injEq] at e0
        obtain ⟨rfl, e2, rfl⟩ := e0
        have hnct : n ≤ ct := by rw [← HN.out.1]; exact hnc
        clear hnc e2
        rcases Nat.lt_or_ge r ct with hrc | hrc
        · have hne : ¬ ct = r := by omega
          have HD := Lib.hid (EV.row_drop (j := r) HTV4.out (by rw [HN.out.1]; omega) HN.out.1.symm)
          go_wp2
          go_meet
          exact ⟨_, _, rfl, rfl, by have := HD.out; rwa [Nat.zero_add] at this⟩
        · obtain rfl : ct = r := by omega
          obtain rfl : n = ct := by omega
          have HD0 := Lib.hid (show tr.drop n = [] from List.drop_of_length_le (by rw [HN.out.1]; exact Nat.le_refl _))
          go_wp2
          go_meet
          exact ⟨some ⟨g, 0, none⟩, 0, rfl, by rw [Nat.sub_self], by rw [HD0.out, Nat.sub_self]; exact .inl ⟨rfl, _, _, rfl⟩⟩
    case rest =>
      obtain ⟨Ar, cr, rfl, rfl, hre⟩ := hcut
      refine (‹∀ (a : Act) (w : World), Code.wp _ _ _ a w → _› : ∀ (a : Act) (w : World), _ → _) _ _ (splits_t21 w w4 Z k n (n - r) ct cr At Ar s tr (tr.drop r) HT.out HTV4.out hre (List.drop_sublist _ _) ⟨HN.out.1, HN.out.2⟩ ⟨by rw [List.length_drop, HN.out.1], by have := HN.out.2; omega⟩ HK.out ?_ (fun q hq => ?_) HUS4.out HB4.out)
      · refine .inr ⟨by simp, Z, 0, 64, by simp, by simp, fun i x hi j u hu => ?_⟩
        rw [List.getElem?_map] at hi
        obtain ⟨q, hq, rfl⟩ := Option.map_eq_some_iff.1 hi
        have hql : i < 64 := by have := (List.getElem?_eq_some_iff.1 hq).1; simpa using this
        rw [List.getElem?_range hql] at hq
        cases hq
        have hj : j = 0 := by have := (List.getElem?_eq_some_iff.1 hu).1; rw [encSl_len] at this; omega
        subst hj
        have hc := HF4.out.at hql
        rw [(HSQ.out i hql).1] at hc
        simp only [encSl, List.getElem?_cons_zero, Option.some.injEq] at hu
        subst hu
        simpa [slV] using hc
      · have h1 := (HF4.out.rows q hq).ev encE_len
        rw [(HSQ.out q hq).1] at h1
        exact h1
end Go.Proofs.YtalophngappkhaaGreatDoor
