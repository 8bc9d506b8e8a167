/- A world that holds what the laid variable lists: the witness of the cards | What a card's laid variables give in chapters 12 and 14: the table of the checksum, the bytes by which blocks are known | A world that holds what the three laid variables list: the witness of the cards | How arguments of any shape read: a slice whose elements read, element by element; a struct of integers | The contract of slices.SortFunc at a slice of structs, laid by the kit's tool: that the program holds the text of the library | The contract of slices.Sort at []int, laid by the kit's tool, and in the words of these texts | Facts that stay true where only new memory is written, kept together; rows that may be written over; append as a step of a region that draws. -/
import Derived.Test.YtalophngappkhaaGreatDoorV2
import Derived.Deep.DeepHandedRow
import Derived.Deep.DeepWitnessRowRef
import Derived.Test.YtalophngappkhaaGreatDoorV1
import Derived.Deep.Slices
import Derived.ChangeArms
import Derived.Shelf.SlGeneric
import Derived.Shelf.SlSortCmp.NoneTotal
import Derived.Ground.SlsfProg
import Derived.Test.YtalophngappkhaaGreatDoorRows
import Derived.Shelf.Sort.Plain
import Derived.Ground.Names2Prog
import Derived.Shelf.Slices.CompactI
import Derived.Shelf.Slices.In.SortNone
import Derived.Sort.OwnSortedInts
import Derived.Deep.RegionHeld3
import Derived.Deep.DeepCutAuto
set_option linter.unusedVariables false
set_option linter.unusedSimpArgs false
set_option linter.unusedSectionVars false
namespace Go.Proofs.YtalophngappkhaaGreatDoor
open Go Go.RowKit Go.ChangeAt Go.ChangeShapes

def usesObj (k : Nat) : Obj := .cells ((usesZ k).map fun z => Value.int .i64 z).toArray 3
noncomputable def usesWorld (os : Os) : World :=
 let N := (World.settled Tryz.prog os).heap.size
 let w0 := World.holding Tryz.prog os ⟨#[usesObj 1, usesObj 2, usesObj 3, usesObj 4, usesObj 5, usesObj 6, usesObj 7, usesObj 8, usesObj 9, usesObj 10], #[], []⟩
 let cs := #[.slice none 0 0, .slice (some ⟨N, 0, none⟩) 4 4, .slice (some ⟨N + 1, 0, none⟩) 1 1, .slice (some ⟨N + 2, 0, none⟩) 1 1, .slice (some ⟨N + 3, 0, none⟩) 1 1, .slice (some ⟨N + 4, 0, none⟩) 2 2,
  .slice (some ⟨N + 5, 0, none⟩) 1 1, .slice (some ⟨N + 6, 0, none⟩) 2 2, .slice (some ⟨N + 7, 0, none⟩) 2 2, .slice (some ⟨N + 8, 0, none⟩) 2 2, .slice (some ⟨N + 9, 0, none⟩) 1 1]
 { w0 with heap := w0.heap.modify 1 fun
  | .cells _ t frozen => .cells cs t frozen
  | o => o }
end Go.Proofs.YtalophngappkhaaGreatDoor
namespace Go.Proofs.YtalophngappkhaaGreatDoor
open Go Go.RowKit Go.ChangeAt Go.ChangeShapes

def halvesZ : List Int := [0, 498536548, 997073096, 651767980, 1994146192, 1802195444, 1303535960, 1342533948, 3988292384, 4027552580, 3604390888, 3412177804, 2607071920, 2262029012, 2685067896, 3183342108]
def HalvesAt (w : World) : Prop := ∀ (k : Nat) (z : Int), halvesZ[k]? = some z → w.cell? ⟨2, k, none⟩ = some (.int .u32 z)
def MagicAt (w : World) : Prop := w.cell? ⟨0, 0, none⟩ = some (.int .u8 113) ∧ w.cell? ⟨0, 1, none⟩ = some (.int .u8 116)
/-- What the three laid variables hold. -/
structure LaidAt (w : World) : Prop where
 uses : UsesAt w
 halves : HalvesAt w
 magic : MagicAt w
theorem HalvesAt.below {w w' : World} (h : HalvesAt w) (hb : Below w.heap.size w w') : HalvesAt w' := fun k z hz => below_cell hb (h k z hz)
theorem MagicAt.below {w w' : World} (h : MagicAt w) (hb : Below w.heap.size w w') : MagicAt w' := ⟨below_cell hb h.1, below_cell hb h.2⟩
theorem LaidAt.below {w w' : World} (h : LaidAt w) (hb : Below w.heap.size w w') : LaidAt w' := ⟨h.uses.below hb, h.halves.below hb, h.magic.below hb⟩
theorem gHalves : Tryz.prog.globalNamed "quantum/crc.halves" = some 2 := by kernel_rfl
theorem gHalvesType : (Tryz.prog.globals[2]?).map (·.type) = some 248 := by kernel_rfl
theorem gMagic : Tryz.prog.globalNamed "quantum/block.magic" = some 0 := by kernel_rfl
theorem gMagicType : (Tryz.prog.globals[0]?).map (·.type) = some 145 := by kernel_rfl
theorem lits_of_trod {H : Type} {enc : TypeId × Value → H} {W : World} {base fuel : Nat} {sp : Nat → Bool} {held : Bool} {cs : List Value} {x : DataW H × List MemPlace} {kd : IntKind} {zs : List Int} {t e : TypeId} {n : Nat}
  (ht : Tryz.prog.underlying t = some (.array n e)) (he : Tryz.prog.underlying e = some (.int kd)) (hc : Tryz.prog.cellsOf t = n) (hc1 : Tryz.prog.cellsOf e = 1) (hn : zs.length = n)
  (h : DataW.trod enc Tryz.prog W base sp held fuel t cs = some x) (hx : x.1 = .agg (zs.map fun z => .lit (.int kd z))) : ∀ (k : Nat) (z : Int), zs[k]? = some z → cs[k]? = some (.int kd z) := by
 cases fuel with
 | zero => simp [DataW.trod] at h
 | succ fuel =>
  simp only [DataW.trod, ht, hc1, hc, Nat.mul_one] at h
  split at h
  ·obtain ⟨xs, hm, hxe⟩ := Option.map_eq_some_iff.1 h
   subst hxe
   simp only [DataW.agg.injEq] at hx
   intro k z hz
   have hk : k < n := by have := (List.getElem?_eq_some_iff.1 hz).1; omega
   obtain ⟨b, hb, hf⟩ := Lib.mapM_at hm k k (by simp [hk])
   have h2 : b.1 = .lit (.int kd z) := by
    have : (xs.map (·.1))[k]? = some b.1 := by simp [hb]
    rw [hx] at this
    simp only [List.getElem?_map, hz, Option.map_some, Option.some.injEq] at this
    exact this.symm
   obtain ⟨y, hy, hy2, _⟩ := DataW.trod_int he hf
   rw [hy2] at h2
   simp only [DataW.lit.injEq, Lit.int.injEq, true_and] at h2
   subst h2
   have := congrArg (·[0]?) hy
   simpa [List.getElem?_take, List.getElem?_drop] using this
  ·cases h
theorem laidHalves {H : Type} : (Rows.laid_quantum_crc_halves : DataW H) = .agg (halvesZ.map fun z => .lit (.int .u32 z)) := by rfl
theorem laidMagic {H : Type} : (Rows.laid_quantum_block_magic : DataW H) = .agg (([113, 116] : List Int).map fun z => .lit (.int .u8 z)) := by rfl
theorem laidVars_halves {W : World} {rest : List (String × DataW Unit)} {ps : List MemPlace} (h : DataW.LaidVars Tryz.prog W (("quantum/crc.halves", Rows.laid_quantum_crc_halves) :: rest) ps) : HalvesAt W ∧ ∃ q, DataW.LaidVars Tryz.prog W rest q := by
 obtain ⟨g', t', cs, fuel, p, q, hg', ht', hvar, hd, hr, _⟩ := h
 obtain rfl := Option.some.inj (gHalves.symm.trans hg')
 obtain rfl := Option.some.inj (gHalvesType.symm.trans ht')
 refine ⟨fun k z hz => ?_, q, hr⟩
 have hvc := World.var?_cell gHalves hvar
 have := lits_of_trod (kd := .u32) Tryz.underlying248 Tryz.underlying78 (by kernel_rfl) (by kernel_rfl) rfl hd laidHalves k z hz
 rw [hvc k]
 simpa using this
theorem laidVars_magic {W : World} {rest : List (String × DataW Unit)} {ps : List MemPlace} (h : DataW.LaidVars Tryz.prog W (("quantum/block.magic", Rows.laid_quantum_block_magic) :: rest) ps) : MagicAt W ∧ ∃ q, DataW.LaidVars Tryz.prog W rest q := by
 obtain ⟨g', t', cs, fuel, p, q, hg', ht', hvar, hd, hr, _⟩ := h
 obtain rfl := Option.some.inj (gMagic.symm.trans hg')
 obtain rfl := Option.some.inj (gMagicType.symm.trans ht')
 have hvc := World.var?_cell gMagic hvar
 have := lits_of_trod (kd := .u8) (zs := [113, 116]) Tryz.underlying145 Tryz.underlying5 (by kernel_rfl) (by kernel_rfl) rfl hd laidMagic
 refine ⟨⟨?_, ?_⟩, q, hr⟩
 ·rw [hvc 0]; simpa using this 0 113 rfl
 ·rw [hvc 1]; simpa using this 1 116 rfl
theorem laid_ofH {W : World} (h : laidMetH Tryz.prog [("quantum/event.uses", Rows.laid_quantum_event_uses), ("quantum/crc.halves", Rows.laid_quantum_crc_halves), ("quantum/block.magic", Rows.laid_quantum_block_magic)] W) : LaidAt W := by
 have hu := uses_of h
 obtain ⟨ps, h1, _⟩ := (show laidMet Tryz.prog [("quantum/event.uses", Rows.laid_quantum_event_uses), ("quantum/crc.halves", Rows.laid_quantum_crc_halves), ("quantum/block.magic", Rows.laid_quantum_block_magic)] W from h)
 obtain ⟨g', t', cs, fuel, p, q, hg', ht', hvar, hd, hr, _⟩ := h1
 obtain ⟨h2, q2, hr2⟩ := laidVars_halves hr
 obtain ⟨h3, _⟩ := laidVars_magic hr2
 exact ⟨hu, h2, h3⟩
end Go.Proofs.YtalophngappkhaaGreatDoor
namespace Go.Proofs.YtalophngappkhaaGreatDoor
open Go Go.RowKit Go.ChangeAt Go.ChangeShapes

noncomputable def laidWorld (os : Os) : World :=
 let w0 := usesWorld os
 { w0 with heap := (w0.heap.modify 2 fun
  | .cells _ t frozen => .cells (halvesZ.map fun z => Value.int .u32 z).toArray t frozen
  | o => o).modify 0 fun
  | .cells _ t frozen => .cells #[.int .u8 113, .int .u8 116] t frozen
  | o => o }
theorem laidMet3 (os : Os) (args : Array Value) : laidMet Tryz.prog [("quantum/event.uses", Rows.laid_quantum_event_uses), ("quantum/crc.halves", Rows.laid_quantum_crc_halves), ("quantum/block.magic", Rows.laid_quantum_block_magic)] ((laidWorld os).forCall (fun _ _ => 0) ⟨#[], args, []⟩).memory :=
 laidMet_of_run' 8 (by kernel_rfl) (by kernel_rfl)
end Go.Proofs.YtalophngappkhaaGreatDoor
namespace Go.Proofs.YtalophngappkhaaGreatDoor
open Go Go.RowKit Go.Deep Go.ChangeShapes Go.WideShapes

section
variable {H : Type} {encd : TypeId × Value → H} {P : Program} {w : World} {base : Nat} {spare : Nat → Bool} {held : Bool}

end
end Go.Proofs.YtalophngappkhaaGreatDoor
namespace Go.Proofs
open Go.Shelf
def Tryz.sortEv_ren : Go.Shelf.Ren := ⟨fun | 6 => 85 | 15 => 114 | 14 => 113 | 28 => 146 | 29 => 147 | 20 => 138 | 21 => 139 | 22 => 140 | 23 => 141 | 24 => 142 | 25 => 143 | 26 => 144 | 27 => 145 | 46 => 165 | 47 => 166 | 48 => 167 | 49 => 168 | 50 => 169 | 57 => 175 | n => n, fun | 22 => 22 | 24 => 28 | 25 => 154 | 3 => 3 | 39 => 144 | 0 => 0 | 53 => 78 | 55 => 26 | 4 => 4 | 46 => 207 | 45 => 206 | 50 => 211 | 5 => 5 | 9 => 9 | 66 => 238 | 70 => 224 | 76 => 249 | 77 => 99 | n => n, fun | n => n⟩
theorem Tryz.sortEv : Go.Proofs.SlLaysF0.n6 Tryz.prog Tryz.sortEv_ren := {
 mixed := by kernel_rfl
 f6 := ⟨Tryz.f85.name, by decide, Tryz.func85.trans (congrArg some (by kernel_rfl))⟩
 f14 := ⟨Tryz.f113.name, by decide, Tryz.func113.trans (congrArg some (by kernel_rfl))⟩
 f15 := Tryz.func114.trans (congrArg some (by kernel_rfl))
 f20 := ⟨Tryz.f138.name, by decide, Tryz.func138.trans (congrArg some (by kernel_rfl))⟩
 f21 := ⟨Tryz.f139.name, by decide, Tryz.func139.trans (congrArg some (by kernel_rfl))⟩
 f22 := ⟨Tryz.f140.name, by decide, Tryz.func140.trans (congrArg some (by kernel_rfl))⟩
 f23 := ⟨Tryz.f141.name, by decide, Tryz.func141.trans (congrArg some (by kernel_rfl))⟩
 f24 := ⟨Tryz.f142.name, by decide, Tryz.func142.trans (congrArg some (by kernel_rfl))⟩
 f25 := ⟨Tryz.f143.name, by decide, Tryz.func143.trans (congrArg some (by kernel_rfl))⟩
 f26 := ⟨Tryz.f144.name, by decide, Tryz.func144.trans (congrArg some (by kernel_rfl))⟩
 f27 := ⟨Tryz.f145.name, by decide, Tryz.func145.trans (congrArg some (by kernel_rfl))⟩
 f28 := Tryz.func146.trans (congrArg some (by kernel_rfl))
 f29 := Tryz.func147.trans (congrArg some (by kernel_rfl))
 f46 := ⟨Tryz.f165.name, by decide, Tryz.func165.trans (congrArg some (by kernel_rfl))⟩
 f47 := Tryz.func166.trans (congrArg some (by kernel_rfl))
 f48 := Tryz.func167.trans (congrArg some (by kernel_rfl))
 f49 := ⟨Tryz.f168.name, by decide, Tryz.func168.trans (congrArg some (by kernel_rfl))⟩
 f50 := ⟨Tryz.f169.name, by decide, Tryz.func169.trans (congrArg some (by kernel_rfl))⟩
 f57 := ⟨Tryz.f175.name, by decide, Tryz.func175.trans (congrArg some (by kernel_rfl))⟩
 t0 := Tryz.underlying0
 a0 := Tryz.isAgg0
 z0 := Tryz.sizeOf0
 v0 := Tryz.zeroValue0
 t3 := Tryz.underlying3
 a3 := Tryz.isAgg3
 z3 := Tryz.sizeOf3
 v3 := Tryz.zeroValue3
 t4 := Tryz.underlying4
 a4 := Tryz.isAgg4
 z4 := Tryz.sizeOf4
 v4 := Tryz.zeroValue4
 t5 := Tryz.underlying5
 a5 := Tryz.isAgg5
 z5 := Tryz.sizeOf5
 v5 := Tryz.zeroValue5
 t9 := Tryz.underlying9
 a9 := Tryz.isAgg9
 z9 := Tryz.sizeOf9
 v9 := Tryz.zeroValue9
 t22 := Tryz.underlying22
 a22 := Tryz.isAgg22
 z22 := Tryz.sizeOf22
 v22 := Tryz.zeroValue22
 t25 := Tryz.underlying154
 a25 := Tryz.isAgg154
 z25 := Tryz.sizeOf154
 v25 := Tryz.zeroValue154
 t39 := Tryz.underlying144
 a39 := Tryz.isAgg144
 z39 := Tryz.sizeOf144
 v39 := Tryz.zeroValue144
 t45 := Tryz.underlying206
 a45 := Tryz.isAgg206
 z45 := Tryz.sizeOf206
 v45 := Tryz.zeroValue206
 t46 := Tryz.underlying207
 a46 := Tryz.isAgg207
 z46 := Tryz.sizeOf207
 v46 := Tryz.zeroValue207
 t50 := Tryz.underlying211
 a50 := Tryz.isAgg211
 z50 := Tryz.sizeOf211
 v50 := Tryz.zeroValue211
 t53 := Tryz.underlying78
 a53 := Tryz.isAgg78
 z53 := Tryz.sizeOf78
 v53 := Tryz.zeroValue78
 t55 := Tryz.underlying26
 a55 := Tryz.isAgg26
 z55 := Tryz.sizeOf26
 v55 := Tryz.zeroValue26
 t66 := Tryz.underlying238
 a66 := Tryz.isAgg238
 z66 := Tryz.sizeOf238
 v66 := Tryz.zeroValue238
 t70 := Tryz.underlying224
 a70 := Tryz.isAgg224
 z70 := Tryz.sizeOf224
 v70 := Tryz.zeroValue224
 t76 := Tryz.underlying249
 a76 := Tryz.isAgg249
 z76 := Tryz.sizeOf249
 v76 := Tryz.zeroValue249
 t77 := Tryz.underlying99
 a77 := Tryz.isAgg99
 z77 := Tryz.sizeOf99
 v77 := Tryz.zeroValue99 }
end Go.Proofs
namespace Go.Proofs
open Go.Shelf
def Tryz.lays189_ren : Go.Shelf.Ren := ⟨fun | 189 => 88 | 125 => 114 | 257 => 116 | 128 => 146 | 129 => 147 | 294 => 148 | 295 => 149 | 296 => 150 | 297 => 151 | 298 => 152 | 299 => 153 | 216 => 154 | 300 => 155 | 301 => 156 | 328 => 170 | 329 => 166 | 330 => 167 | 331 => 171 | 332 => 172 | 215 => 115 | 343 => 176 | n => n, fun | 28 => 32 | 3 => 3 | 46 => 144 | 0 => 0 | 51 => 78 | 53 => 26 | 4 => 4 | 183 => 207 | 182 => 206 | 131 => 211 | 5 => 5 | 9 => 9 | 218 => 238 | 222 => 224 | 228 => 249 | 229 => 99 | n => n, fun | n => n⟩
theorem Tryz.lays189 : Go.Proofs.Lays.n189 Tryz.prog Tryz.lays189_ren := {
 mixed := by kernel_rfl
 f125 := Tryz.func114.trans (congrArg some (by kernel_rfl))
 f128 := Tryz.func146.trans (congrArg some (by kernel_rfl))
 f129 := Tryz.func147.trans (congrArg some (by kernel_rfl))
 f189 := Tryz.func88.trans (congrArg some (by kernel_rfl))
 f215 := Tryz.func115.trans (congrArg some (by kernel_rfl))
 f216 := Tryz.func154.trans (congrArg some (by kernel_rfl))
 f257 := Tryz.func116.trans (congrArg some (by kernel_rfl))
 f294 := Tryz.func148.trans (congrArg some (by kernel_rfl))
 f295 := Tryz.func149.trans (congrArg some (by kernel_rfl))
 f296 := Tryz.func150.trans (congrArg some (by kernel_rfl))
 f297 := Tryz.func151.trans (congrArg some (by kernel_rfl))
 f298 := Tryz.func152.trans (congrArg some (by kernel_rfl))
 f299 := Tryz.func153.trans (congrArg some (by kernel_rfl))
 f300 := Tryz.func155.trans (congrArg some (by kernel_rfl))
 f301 := Tryz.func156.trans (congrArg some (by kernel_rfl))
 f328 := Tryz.func170.trans (congrArg some (by kernel_rfl))
 f329 := Tryz.func166.trans (congrArg some (by kernel_rfl))
 f330 := Tryz.func167.trans (congrArg some (by kernel_rfl))
 f331 := Tryz.func171.trans (congrArg some (by kernel_rfl))
 f332 := Tryz.func172.trans (congrArg some (by kernel_rfl))
 f343 := Tryz.func176.trans (congrArg some (by kernel_rfl))
 t0 := Tryz.underlying0
 a0 := Tryz.isAgg0
 z0 := Tryz.sizeOf0
 v0 := Tryz.zeroValue0
 t3 := Tryz.underlying3
 a3 := Tryz.isAgg3
 z3 := Tryz.sizeOf3
 v3 := Tryz.zeroValue3
 t4 := Tryz.underlying4
 a4 := Tryz.isAgg4
 z4 := Tryz.sizeOf4
 v4 := Tryz.zeroValue4
 t5 := Tryz.underlying5
 a5 := Tryz.isAgg5
 z5 := Tryz.sizeOf5
 v5 := Tryz.zeroValue5
 t9 := Tryz.underlying9
 a9 := Tryz.isAgg9
 z9 := Tryz.sizeOf9
 v9 := Tryz.zeroValue9
 t28 := Tryz.underlying32
 a28 := Tryz.isAgg32
 z28 := Tryz.sizeOf32
 v28 := Tryz.zeroValue32
 t46 := Tryz.underlying144
 a46 := Tryz.isAgg144
 z46 := Tryz.sizeOf144
 v46 := Tryz.zeroValue144
 t51 := Tryz.underlying78
 a51 := Tryz.isAgg78
 z51 := Tryz.sizeOf78
 v51 := Tryz.zeroValue78
 t53 := Tryz.underlying26
 a53 := Tryz.isAgg26
 z53 := Tryz.sizeOf26
 v53 := Tryz.zeroValue26
 t131 := Tryz.underlying211
 a131 := Tryz.isAgg211
 z131 := Tryz.sizeOf211
 v131 := Tryz.zeroValue211
 t182 := Tryz.underlying206
 a182 := Tryz.isAgg206
 z182 := Tryz.sizeOf206
 v182 := Tryz.zeroValue206
 t183 := Tryz.underlying207
 a183 := Tryz.isAgg207
 z183 := Tryz.sizeOf207
 v183 := Tryz.zeroValue207
 t218 := Tryz.underlying238
 a218 := Tryz.isAgg238
 z218 := Tryz.sizeOf238
 v218 := Tryz.zeroValue238
 t222 := Tryz.underlying224
 a222 := Tryz.isAgg224
 z222 := Tryz.sizeOf224
 v222 := Tryz.zeroValue224
 t228 := Tryz.underlying249
 a228 := Tryz.isAgg249
 z228 := Tryz.sizeOf249
 v228 := Tryz.zeroValue249
 t229 := Tryz.underlying99
 a229 := Tryz.isAgg99
 z229 := Tryz.sizeOf99
 v229 := Tryz.zeroValue99 }
open Go.Sort Go.RowKit in
theorem Tryz.slices_Sort_int (blk off cap : Nat) (zs : List Int) (w : World) (hH : Holds (Value.int .i64) w blk off zs.toArray) (hblk : blk < w.heap.size) (hsz : zs.length < 4611686018427387904) :
  Calls Tryz.prog 88 #[.slice (some ⟨blk, off, none⟩) zs.length cap] w fun e w' =>
   e = .returned (.tuple #[]) ∧ ∃ n os, w' = grow (putRow (Value.int .i64) (Sort.ahead w n) blk off (zs.mergeSort fun x y => decide (x ≤ y)).toArray) os := Any.slices_Sort_int Tryz.lays189 blk off cap zs w hH hblk hsz
def Tryz.laysNm220_ren : Go.Shelf.Ren := ⟨fun | 20 => 89 | n => n, fun | 22 => 32 | 3 => 3 | 4 => 4 | 0 => 0 | n => n, fun | n => n⟩
theorem Tryz.laysNm220 : Go.Proofs.Lays2.n20 Tryz.prog Tryz.laysNm220_ren := {
 mixed := by kernel_rfl
 f20 := Tryz.func89.trans (congrArg some (by kernel_rfl))
 t0 := Tryz.underlying0
 a0 := Tryz.isAgg0
 z0 := Tryz.sizeOf0
 v0 := Tryz.zeroValue0
 t3 := Tryz.underlying3
 a3 := Tryz.isAgg3
 z3 := Tryz.sizeOf3
 v3 := Tryz.zeroValue3
 t4 := Tryz.underlying4
 a4 := Tryz.isAgg4
 z4 := Tryz.sizeOf4
 v4 := Tryz.zeroValue4
 t22 := Tryz.underlying32
 a22 := Tryz.isAgg32
 z22 := Tryz.sizeOf32
 v22 := Tryz.zeroValue32
 i3 := by kernel_rfl }
open Go.RowKit Go.Lib Go.Sort in
theorem Tryz.slices_Compact_int (blk off cap : Nat) (zs : List Int) (w : World) (hH : Holds (Value.int .i64) w blk off zs.toArray) (hsz : zs.length ≤ 9223372036854775807) (hcap : zs.length ≤ cap) :
  Calls Tryz.prog 89 #[.slice (some ⟨blk, off, none⟩) zs.length cap] w fun e w' => e = .returned (.slice (some ⟨blk, off, none⟩) (Lib.compact zs).length cap) ∧ ∃ q, w' = putRow (Value.int .i64) (Sort.ahead w q) blk off (Lib.compact zs ++ List.replicate (zs.length - (Lib.compact zs).length) 0).toArray := Any.slices_Compact_int Tryz.laysNm220 blk off cap zs w hH hsz hcap
open Go.RowKit Go.Lib Go.Sort in
theorem Tryz.slices_Compact_int_empty (a : Option Addr) (cap : Nat) (w : World) :
  Calls Tryz.prog 89 #[.slice a 0 cap] w fun e w' => e = .returned (.slice a 0 cap) ∧ w' = w := Any.slices_Compact_int_empty Tryz.laysNm220 a cap w
open Go.RowKit Go.Sort in
theorem Tryz.slices_Sort_int_none (p : Option Addr) (cap : Nat) (w : World) :
  Calls Tryz.prog 88 #[.slice p 0 cap] w fun e w' => e = .returned (.tuple #[]) ∧ w' = w := Any.slices_Sort_int_none Tryz.lays189 p cap w
end Go.Proofs

namespace Go.Proofs.YtalophngappkhaaGreatDoor
open Go Go.RowKit Go.Sort
def srtI (xs : List Int) : List Int := xs.mergeSort fun x y => decide (x ≤ y)
theorem srtI_len (xs : List Int) : (srtI xs).length = xs.length := List.length_mergeSort xs
theorem sort_int (w : World) (v : Value) (xs : List Int) (base : Nat) (h : OV encI 1 3 base w v xs) (hb : xs.length ≤ 1000000000) :
  Calls Tryz.prog 88 #[v] w fun e w' => e = .returned (.tuple #[]) ∧ OV encI 1 3 base w' v (srtI xs) ∧ w.grownBy w' v.ownBlock := by
 have h' := h
 rcases h'.2 with ⟨rfl, h0⟩ | ⟨g, cap, cur, rfl, hbg, hg, hnc, hcm, hcs, htake⟩
 ·obtain rfl : xs = [] := List.eq_nil_of_length_eq_zero h0
  refine (Tryz.slices_Sort_int_none none 0 w).mono ?_
  rintro e w' ⟨rfl, rfl⟩
  exact ⟨rfl, by simpa [srtI] using h, ⟨rfl, rfl, rfl, Nat.le_refl _, fun _ _ _ => rfl⟩⟩
 ·rw [encI_flat] at htake
  refine (Tryz.slices_Sort_int g 0 cap xs w (holds_of_blockI hg (by simpa using htake)) (Array.getElem?_eq_some_iff.1 hg).1 (by omega)).mono ?_
  rintro e w' ⟨rfl, n, os, rfl⟩
  refine ⟨rfl, ?_, grownBy_sortedI _⟩
  have := ownsRow_sortedI (w := w) (n := n) (os := os) (srtI_len xs) hbg hg hnc hcm hcs
  unfold OV
  rw [srtI_len, encI_flat]
  exact this
end Go.Proofs.YtalophngappkhaaGreatDoor
namespace Go.Proofs.YtalophngappkhaaGreatDoor
open Go Go.RowKit

theorem EV.row3 {α : Type} {enc : α → List Value} {k b off n c : Nat} {w : World} {xs : List α} (h : EV enc k w (.slice (some ⟨b, off, none⟩) n c) xs) (hn : 0 < xs.length) : ER enc k w b off xs := by
 obtain ⟨b', o', c', hv, _, r⟩ := h.row hn
 simp only [Value.slice.injEq, Option.some.injEq, Addr.mk.injEq, and_true] at hv
 obtain ⟨⟨rfl, rfl⟩, _, _⟩ := hv
 exact r

section
variable {P : Program} {α : Type} {enc : α → List Value} {k bytes base : Nat} {t e : TypeId} {w w' : World} {v sv : Value} {xs ys : List α}
theorem step_app {ops : Array Oper} {o : Oper} {a : Act} {K : Act → World → Prop} {Q : Exit → Act → World → Prop} {E : Prop} (T : ElemT P t e k bytes) (hk : ∀ x, (enc x).length = k) (h1 : ∀ x, ∀ u ∈ enc x, u.oneCell' = true)
  (hgd : o.guard = none) (s x : Operand) (ho : o.op = .call { callee := .builtin .append, args := #[s, x], argTypes := #[t, t] })
  (v sv : Value) (hs : a.eval s = v) (hx : a.eval x = sv) (hown : OV enc k e base w v xs) (hys : EV enc k w sv ys) (hn : xs.length + ys.length ≤ 1000000000) (hbase : base ≤ w.heap.size)
  (h : ∀ v' w', OV enc k e base w' v' (xs ++ ys) → w.grownBy w' v.ownBlock → K (a.put o.dst v') w') : if Region.wanted o (yielded ops a.tmps) = true then Oper.wp P o a w K Q else E := by
 have hw : Region.wanted o (yielded ops a.tmps) = true := by simp [Region.wanted, hgd]
 rw [if_pos hw]
 obtain ⟨v', w', hr, h2, h3⟩ := run_app T hk h1 o.type hown hys hn hbase
 unfold Oper.wp execOp
 simp only [ho, resolve, invoke, builtin, Sem.run_bind, Sem.run_pure, Result.andThen_ok, List.map_toArray, List.map_cons, List.map_nil, hs, hx, hr]
 exact h v' w' h2 h3
theorem EV.row_take {b off n c j : Nat} (h : EV enc k w (.slice (some ⟨b, off, none⟩) n c) xs) (hj : j ≤ xs.length) (hn : n = xs.length) : EV enc k w (.slice (some ⟨b, off, none⟩) j c) (xs.take j) := by
 rcases Nat.eq_zero_or_pos j with rfl | h0
 ·exact .inl ⟨by simp, _, _, rfl⟩
 ·obtain ⟨b', o', c', hv, hc, r⟩ := h.row (by omega)
  simp only [Value.slice.injEq, Option.some.injEq, Addr.mk.injEq, and_true] at hv
  obtain ⟨⟨rfl, rfl⟩, _, rfl⟩ := hv
  have hl : (xs.take j).length = j := by simp; omega
  have := EV.mk (enc := enc) (k := k) (w := w) (b := b) (off := off) (xs := xs.take j) (c := c) (fun i x hx => r i x (by
   have := (List.getElem?_eq_some_iff.1 hx).1
   rwa [List.getElem?_take_of_lt (by omega)] at hx)) (by omega)
  rwa [hl] at this
end
theorem below_drew {B : Nat} {a w : World} (h : Below B a w) : Below B a w.drew := ⟨h.os, h.tape, h.output, h.size, h.block⟩
/-- A row of n elements of k cells that may be written over. -/
def Wrt (k : Nat) (w : World) (v : Value) (n : Nat) : Prop :=
 (n = 0 ∧ ∃ A c, v = .slice A 0 c) ∨ (0 < n ∧ ∃ g cap, v = .slice (some ⟨g, 0, none⟩) n cap ∧ ∀ i, i < n * k → (∃ u, w.cell? ⟨g, i, none⟩ = some u) ∧ w.frozen? ⟨g, i, none⟩ = false)
section
variable {α : Type} {enc : α → List Value} {k base n : Nat} {e : TypeId} {w w' : World} {v : Value} {xs : List α}
theorem OV.wrt (hk : ∀ x, (enc x).length = k) (h : OV enc k e base w v xs) : Wrt k w v xs.length := by
 rcases Nat.eq_zero_or_pos xs.length with h0 | h0
 ·obtain ⟨A, c, hv⟩ := (h.ev hk).shape
  rw [h0] at hv
  exact .inl ⟨h0, A, c, hv⟩
 ·obtain ⟨g, cap, hv, _, _⟩ := h.form h0
  refine .inr ⟨h0, g, cap, hv, fun i hi => ?_⟩
  have hl : i < (xs.flatMap enc).length := by rw [flat_len hk]; exact hi
  have hh := h
  unfold OV at hh
  rw [hv] at hh
  exact ⟨⟨_, (World.ownsRow.cellAt hh i (by rw [flat_len hk] at hl; exact hl)).trans (List.getElem?_eq_getElem hl)⟩, World.ownsRow.frozenAt hh i⟩
theorem Wrt.setCell (h : Wrt k w v n) (p : Addr) (u : Value) : Wrt k (w.setCell p u) v n := by
 rcases h with h | ⟨h0, g, cap, hv, h⟩
 ·exact .inl h
 ·refine .inr ⟨h0, g, cap, hv, fun i hi => ?_⟩
  obtain ⟨⟨x, hx⟩, hf⟩ := h i hi
  exact ⟨by obtain ⟨y, hy⟩ := cell?_setCell_some (w := w) (p := p) (x := u) (q := ⟨g, i, none⟩) (v := x) hx; exact ⟨y, hy⟩, (World.frozen?_setCell _ _ _ _).trans hf⟩
theorem Wrt.below (h : Wrt k w v n) (hb : Below w.heap.size w w') : Wrt k w' v n := by
 rcases h with h | ⟨h0, g, cap, hv, h⟩
 ·exact .inl h
 ·refine .inr ⟨h0, g, cap, hv, fun i hi => ?_⟩
  obtain ⟨⟨x, hx⟩, hf⟩ := h i hi
  exact ⟨⟨x, below_cell hb hx⟩, (hb.frozen (cell_lt hx)).trans hf⟩
end
end Go.Proofs.YtalophngappkhaaGreatDoor
