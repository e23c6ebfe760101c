/- DERIVED: THE SHELF's CONTRACTS AT THIS DUMP, IN PLAIN WORDS (tools/lay-plain.mjs out of 'TryzShelfI.lean', which tools/lay-shelf.mjs wrote): THE SAME DECLARATIONS UNDER THE SAME YtlhbpflcffjhmaaGreatS: 'import', 'namespace', 'open', 'def', 'theorem' AND NOTHING ELSE: no command of the shelf's: FOR A HAND-IN. Each laying: the table of numbers ('.._ren') and one theorem, a field a fact of the dump's own or the kernel's comparison; each contract: ONE APPLICATION.
DERIVED: THE SHELF's CONTRACTS AT THIS DUMP, IN PLAIN WORDS (tools/lay-plain.mjs out of 'YtlhbpflcffjhmaaGreatMkRaw.lean', which tools/lay-shelf.mjs wrote): THE SAME DECLARATIONS UNDER THE SAME YtlhbpflcffjhmaaGreatS: 'import', 'namespace', 'open', 'def', 'theorem' AND NOTHING ELSE: no command of the shelf's: FOR A HAND-IN. Each laying: the table of numbers ('.._ren') and one theorem, a field a fact of the dump's own or the kernel's comparison; each contract: ONE APPLICATION.
slices.Sorted(maps.Keys(m)) at a map of ints told by its entries (over Mk, laid).
Subs (24): near; wanted, its first loop.
Subs (24): wanted.
Subs (24): Changes.
A store into a map, its operands named. (Of any program; the same words stand in H7.)
Subs (24): New, Reset.
The reference's whole, Order, Compare, Same (pneumaticref04).
The reference's Order, Compare, Same (pneumaticref04).
The reference's Compare, Same (pneumaticref04).
The law's small makers N, S, E, A; what literals hold; awake. -/
import Derived.Shelf.Sort.Plain
import Derived.Shelf.Slices.In.SortNone
import Derived.Test.YtlhbpflcffjhmaaGreatProg
import Derived.Shelf.SlIterI.Nil
import Derived.Shelf.SlIterI.Sorted
import Derived.Deep.QuietTactic
import Derived.BigQuiet
import Derived.Test.YtlhbpflcffjhmaaGreatPk3
import Derived.Test.YtlhbpflcffjhmaaGreatPk2
import Derived.Test.YtlhbpflcffjhmaaGreatPk14
import Derived.Test.YtlhbpflcffjhmaaGreatPk6
import Derived.Test.YtlhbpflcffjhmaaGreatPk7
import Derived.Test.YtlhbpflcffjhmaaGreatPk9
namespace Go.Proofs
open Go.Shelf
def Tryz.lays189_ren : Go.Shelf.Ren := ⟨fun | 189 => 131 | 125 => 105 | 257 => 178 | 128 => 146 | 129 => 147 | 294 => 217 | 295 => 218 | 296 => 219 | 297 => 220 | 298 => 221 | 299 => 222 | 216 => 223 | 300 => 224 | 301 => 225 | 328 => 233 | 329 => 194 | 330 => 195 | 331 => 234 | 332 => 235 | 215 => 115 | 343 => 237 | n => n, fun | 28 => 37 | 3 => 3 | 46 => 41 | 0 => 0 | 51 => 178 | 53 => 180 | 4 => 4 | 183 => 172 | 182 => 171 | 131 => 87 | 5 => 5 | 9 => 9 | 218 => 205 | 222 => 209 | 228 => 230 | 229 => 231 | n => n, fun | n => n⟩
theorem Tryz.lays189 : Go.Proofs.Lays.n189 Tryz.prog Tryz.lays189_ren := {
  mixed := by kernel_rfl
  f125 := Tryz.func105.trans (congrArg some (by kernel_rfl))
  f128 := Tryz.func146.trans (congrArg some (by kernel_rfl))
  f129 := Tryz.func147.trans (congrArg some (by kernel_rfl))
  f189 := Tryz.func131.trans (congrArg some (by kernel_rfl))
  f215 := Tryz.func115.trans (congrArg some (by kernel_rfl))
  f216 := Tryz.func223.trans (congrArg some (by kernel_rfl))
  f257 := Tryz.func178.trans (congrArg some (by kernel_rfl))
  f294 := Tryz.func217.trans (congrArg some (by kernel_rfl))
  f295 := Tryz.func218.trans (congrArg some (by kernel_rfl))
  f296 := Tryz.func219.trans (congrArg some (by kernel_rfl))
  f297 := Tryz.func220.trans (congrArg some (by kernel_rfl))
  f298 := Tryz.func221.trans (congrArg some (by kernel_rfl))
  f299 := Tryz.func222.trans (congrArg some (by kernel_rfl))
  f300 := Tryz.func224.trans (congrArg some (by kernel_rfl))
  f301 := Tryz.func225.trans (congrArg some (by kernel_rfl))
  f328 := Tryz.func233.trans (congrArg some (by kernel_rfl))
  f329 := Tryz.func194.trans (congrArg some (by kernel_rfl))
  f330 := Tryz.func195.trans (congrArg some (by kernel_rfl))
  f331 := Tryz.func234.trans (congrArg some (by kernel_rfl))
  f332 := Tryz.func235.trans (congrArg some (by kernel_rfl))
  f343 := Tryz.func237.trans (congrArg some (by kernel_rfl))
  t0 := Tryz.underlying0
  a0 := Tryz.isAgg0
  z0 := Tryz.sizeOf0
  v0 := Tryz.zeroValue0
  t3 := Tryz.underlying3
  a3 := Tryz.isAgg3
  z3 := Tryz.sizeOf3
  v3 := Tryz.zeroValue3
  t4 := Tryz.underlying4
  a4 := Tryz.isAgg4
  z4 := Tryz.sizeOf4
  v4 := Tryz.zeroValue4
  t5 := Tryz.underlying5
  a5 := Tryz.isAgg5
  z5 := Tryz.sizeOf5
  v5 := Tryz.zeroValue5
  t9 := Tryz.underlying9
  a9 := Tryz.isAgg9
  z9 := Tryz.sizeOf9
  v9 := Tryz.zeroValue9
  t28 := Tryz.underlying37
  a28 := Tryz.isAgg37
  z28 := Tryz.sizeOf37
  v28 := Tryz.zeroValue37
  t46 := Tryz.underlying41
  a46 := Tryz.isAgg41
  z46 := Tryz.sizeOf41
  v46 := Tryz.zeroValue41
  t51 := Tryz.underlying178
  a51 := Tryz.isAgg178
  z51 := Tryz.sizeOf178
  v51 := Tryz.zeroValue178
  t53 := Tryz.underlying180
  a53 := Tryz.isAgg180
  z53 := Tryz.sizeOf180
  v53 := Tryz.zeroValue180
  t131 := Tryz.underlying87
  a131 := Tryz.isAgg87
  z131 := Tryz.sizeOf87
  v131 := Tryz.zeroValue87
  t182 := Tryz.underlying171
  a182 := Tryz.isAgg171
  z182 := Tryz.sizeOf171
  v182 := Tryz.zeroValue171
  t183 := Tryz.underlying172
  a183 := Tryz.isAgg172
  z183 := Tryz.sizeOf172
  v183 := Tryz.zeroValue172
  t218 := Tryz.underlying205
  a218 := Tryz.isAgg205
  z218 := Tryz.sizeOf205
  v218 := Tryz.zeroValue205
  t222 := Tryz.underlying209
  a222 := Tryz.isAgg209
  z222 := Tryz.sizeOf209
  v222 := Tryz.zeroValue209
  t228 := Tryz.underlying230
  a228 := Tryz.isAgg230
  z228 := Tryz.sizeOf230
  v228 := Tryz.zeroValue230
  t229 := Tryz.underlying231
  a229 := Tryz.isAgg231
  z229 := Tryz.sizeOf231
  v229 := Tryz.zeroValue231 }
open Go.Sort Go.RowKit in
theorem Tryz.slices_Sort_int (blk off cap : Nat) (zs : List Int) (w : World) (hH : Holds (Value.int .i64) w blk off zs.toArray) (hblk : blk < w.heap.size) (hsz : zs.length < 4611686018427387904) :
    Calls Tryz.prog 131 #[.slice (some ⟨blk, off, none⟩) zs.length cap] w fun e w' =>
      e = .returned (.tuple #[]) ∧ ∃ n os, w' = grow (putRow (Value.int .i64) (Sort.ahead w n) blk off (zs.mergeSort fun x y => decide (x ≤ y)).toArray) os := Any.slices_Sort_int Tryz.lays189 blk off cap zs w hH hblk hsz
open Go.RowKit Go.Sort in
/-- .. and plain. (LAID: no walk: one application.) -/
theorem Tryz.slices_Sort_int_none (p : Option Addr) (cap : Nat) (w : World) :
    Calls Tryz.prog 131 #[.slice p 0 cap] w fun e w' => e = .returned (.tuple #[]) ∧ w' = w := Any.slices_Sort_int_none Tryz.lays189 p cap w
end Go.Proofs

namespace Go.Proofs
open Go.Shelf
def Tryz.keysP_ren : Go.Shelf.Ren := ⟨fun | 7 => 95 | 10 => 132 | n => n, fun | 23 => 80 | 26 => 3 | 3 => 83 | 28 => 127 | 0 => 0 | 27 => 126 | 33 => 145 | 4 => 4 | n => n, fun | n => n⟩
theorem Tryz.keysP : Go.Proofs.SlLaysZI.n7 Tryz.prog Tryz.keysP_ren := {
  mixed := by kernel_rfl
  f7 := ⟨Tryz.f95.name, by decide, Tryz.func95.trans (congrArg some (by kernel_rfl))⟩
  f10 := ⟨Tryz.f132.name, by decide, Tryz.func132.trans (congrArg some (by kernel_rfl))⟩
  t0 := Tryz.underlying0
  a0 := Tryz.isAgg0
  z0 := Tryz.sizeOf0
  v0 := Tryz.zeroValue0
  t4 := Tryz.underlying4
  a4 := Tryz.isAgg4
  z4 := Tryz.sizeOf4
  v4 := Tryz.zeroValue4
  t23 := Tryz.underlying80
  a23 := Tryz.isAgg80
  z23 := Tryz.sizeOf80
  v23 := Tryz.zeroValue80
  t26 := Tryz.underlying3
  a26 := Tryz.isAgg3
  z26 := Tryz.sizeOf3
  v26 := Tryz.zeroValue3
  t27 := Tryz.underlying126
  a27 := Tryz.isAgg126
  z27 := Tryz.sizeOf126
  v27 := Tryz.zeroValue126
  t28 := Tryz.underlying127
  a28 := Tryz.isAgg127
  z28 := Tryz.sizeOf127
  v28 := Tryz.zeroValue127
  t33 := Tryz.underlying145
  a33 := Tryz.isAgg145
  z33 := Tryz.sizeOf145
  v33 := Tryz.zeroValue145 }
def Tryz.sortedP_ren : Go.Shelf.Ren := ⟨fun | 6 => 94 | 8 => 130 | 9 => 131 | 11 => 177 | 13 => 105 | 12 => 178 | 23 => 146 | 24 => 147 | 14 => 217 | 15 => 218 | 16 => 219 | 17 => 220 | 18 => 221 | 19 => 222 | 20 => 223 | 21 => 224 | 22 => 225 | 25 => 233 | 26 => 194 | 27 => 195 | 28 => 234 | 29 => 235 | 30 => 115 | 31 => 237 | n => n, fun | 26 => 3 | 28 => 127 | 24 => 37 | 0 => 0 | 3 => 3 | 37 => 41 | 48 => 178 | 50 => 180 | 4 => 4 | 40 => 172 | 39 => 171 | 45 => 87 | 5 => 5 | 9 => 9 | 51 => 205 | 55 => 209 | 57 => 230 | 58 => 231 | 33 => 145 | n => n, fun | n => n⟩
theorem Tryz.sortedP : Go.Proofs.SlLaysZI.n6 Tryz.prog Tryz.sortedP_ren := {
  mixed := by kernel_rfl
  f6 := ⟨Tryz.f94.name, by decide, Tryz.func94.trans (congrArg some (by kernel_rfl))⟩
  f8 := ⟨Tryz.f130.name, by decide, Tryz.func130.trans (congrArg some (by kernel_rfl))⟩
  f11 := ⟨Tryz.f177.name, by decide, Tryz.func177.trans (congrArg some (by kernel_rfl))⟩
  t0 := Tryz.underlying0
  a0 := Tryz.isAgg0
  z0 := Tryz.sizeOf0
  v0 := Tryz.zeroValue0
  t24 := Tryz.underlying37
  a24 := Tryz.isAgg37
  z24 := Tryz.sizeOf37
  v24 := Tryz.zeroValue37
  t26 := Tryz.underlying3
  a26 := Tryz.isAgg3
  z26 := Tryz.sizeOf3
  v26 := Tryz.zeroValue3
  t28 := Tryz.underlying127
  a28 := Tryz.isAgg127
  z28 := Tryz.sizeOf127
  v28 := Tryz.zeroValue127
  i26 := by kernel_rfl }
end Go.Proofs

namespace Go.Proofs.YtlhbpflcffjhmaaGreat
open Go.RowKit Go.MapKept Go.Maps Go.Sort Go.Shelf Go.WideShapes

theorem sort_intsH (l : List Int) : (l.mergeSort fun x y => decide (x ≤ y)).Perm l ∧ (l.mergeSort fun x y => decide (x ≤ y)).Pairwise fun a b => a ≤ b := by
  refine ⟨List.mergeSort_perm _ _, ?_⟩
  have h := List.pairwise_mergeSort (le := fun x y : Int => decide (x ≤ y)) (fun a b c h1 h2 => by
    simp only [decide_eq_true_eq] at *
    omega) (fun a b => by
    simp only [Bool.or_eq_true, decide_eq_true_eq]
    omega) l
  exact h.imp fun h => by simpa using h
theorem sortsH (m : Nat) : AnyZI.SortsIn Tryz.prog Tryz.sortedP_ren Fence.wide m :=
  ⟨fun blk off cap ss W hH hblk hsz => callsIn_wide.2 (Tryz.slices_Sort_int blk off cap ss W hH hblk hsz), fun p cap W => callsIn_wide.2 (Tryz.slices_Sort_int_none p cap W)⟩
/-- What the kit's word on maps asks. -/
theorem owns_ids {w : World} {b : Nat} {L : List (Int × Value)} (h : MapE w b (.int .i64) (L.map fun k => (.int .i64 k.1, k.2))) (hw : ∀ k ∈ L, (Lit.int .i64 k.1).wf = true) (hl : L.length ≤ maxLen) :
    ∃ D0 : DataW Unit, w.ownsMap Tryz.prog 3 (fun _ => some (.nil, [])) b L.length D0 ∧ (intKeys D0).Perm (L.map (·.1)) ∧ Maps.size D0 = L.length := by
  obtain ⟨es, clock, hb, hs, hk, hE⟩ := h
  have hlen : es.size = L.length := by
    have := congrArg List.length hE
    rwa [List.length_map, List.length_map, Array.length_toList] at this
  have hkey : ∀ x ∈ es.toList, ∃ a, x.key = .int .i64 a ∧ (Lit.int .i64 a).wf = true := fun x hx => by
    have hm : (x.key, x.val) ∈ L.map fun k => (Value.int .i64 k.1, k.2) := by rw [← hE]; exact List.mem_map.2 ⟨x, hx, rfl⟩
    obtain ⟨k, hk, e⟩ := List.mem_map.1 hm
    exact ⟨k.1, (congrArg Prod.fst e).symm, hw k hk⟩
  have hrd : ∀ x ∈ es.toList, ∃ a, x.key = .int .i64 a ∧ WideElems.rd (H := Unit) Tryz.prog 3 (fun _ => some (.nil, [])) x = some (.int .i64 a, .nil) := fun x hx => by
    obtain ⟨a, e, hwf⟩ := hkey x hx
    have hko : keyOf Tryz.prog 3 x.key = some (.int .i64 a) := by rw [e]; simp [keyOf, Tryz.underlying3, mapKey, hwf]
    exact ⟨a, e, by unfold WideElems.rd; rw [hko]; rfl⟩
  refine ⟨.map ((es.toList.map (WideElems.rg Tryz.prog 3 (fun _ => some (.nil, [])))).foldr DataW.insert []), ⟨es, clock, hb, ⟨by rw [hlen]; exact hl, hs, fun x hx => by obtain ⟨a, _, e⟩ := hrd x hx; exact ⟨_, e⟩⟩, by rw [hlen]; exact Nat.le_refl _, rfl⟩, ?_, ?_⟩
  · show (List.map _ _).Perm _
    refine ((sorted_perm _).map _).trans ?_
    rw [List.map_map]
    have e1 : L.map (·.1) = es.toList.map ((fun p : Lit × DataW Unit => Go.intOf p.1) ∘ WideElems.rg Tryz.prog 3 (fun _ => some (.nil, []))) := by
      have e2 : L.map (·.1) = (L.map fun k => (Value.int .i64 k.1, k.2)).map (fun p => match p.1 with | .int _ a => a | _ => 0) := by rw [List.map_map]; rfl
      rw [e2, ← hE, List.map_map]
      refine List.map_congr_left fun x hx => ?_
      obtain ⟨a, e3, e4⟩ := hrd x hx
      simp only [Function.comp, e3, WideElems.rg_of e4]
      rfl
    rw [e1]
  · show List.length (List.foldr DataW.insert [] (List.map (WideElems.rg Tryz.prog 3 fun _ => some (.nil, [])) es.toList)) = _
    rw [length_sorted, List.length_map, Array.length_toList, hlen]

theorem keysH_any (mb : Option Nat) (W : World) : Calls Tryz.prog 95 #[.map mb] W fun e w' => e = .returned (.func (.func 132) #[] #[.pointer (some ⟨W.heap.size, 0, none⟩)]) ∧ w' = W.alloc (.cells #[.map mb] 80) :=
  (callsIn_wide (n := 5)).1 (AnyZI.keys_in Tryz.keysP Fence.wide 5 trivial rfl mb W)
set_option maxHeartbeats 1000000 in
theorem sortedH_any (w : World) (b : Nat) (L : List (Int × Value)) (h : MapE w b (.int .i64) (L.map fun k => (.int .i64 k.1, k.2))) (hw : ∀ k ∈ L, (Lit.int .i64 k.1).wf = true) (hl : L.length ≤ 1000000) :
    Calls Tryz.prog 94 #[.func (.func 132) #[] #[.pointer (some ⟨w.heap.size, 0, none⟩)]] (w.alloc (.cells #[.map (some b)] 80)) fun e w' =>
      ∃ (v : Value) (l : List Int), e = .returned v ∧ l.Perm (L.map (·.1)) ∧ (l.Pairwise fun a b => a ≤ b) ∧ w'.ownsRow w.heap.size 3 1 v l.length (l.map (Value.int .i64)) ∧ Ext w w' := by
  have hbl := h.lt
  obtain ⟨D0, hown, hperm, hsz⟩ := owns_ids h hw (by unfold maxLen; omega)
  have hseq : SeqGives Fence.wide 2 Tryz.prog 132 #[.pointer (some ⟨w.heap.size, 0, none⟩)] encZ (fun ss => ss.Perm (intKeys D0)) (Maps.size D0) (w.alloc (.cells #[.map (some b)] 80)) :=
    AnyZI.keys_gives (ρ := Tryz.keysP_ren) { Tryz.keysP with } Fence.wide _ trivial rfl (by omega) w.heap.size b L.length D0 _ (by simp) (by simp) (by
      obtain ⟨es, clock, hb, Ft, hs, hD⟩ := hown
      exact ⟨es, clock, (Below.heap_alloc _ _ b hbl).trans hb, Ft, hs, hD⟩)
  have cS := AnyZI.sorted_in Tryz.sortedP Fence.wide 5 trivial trivial trivial trivial rfl (by omega) (sortsH _) (enters_of Tryz.func131 (by kernel_rfl) rfl) 132 #[.pointer (some ⟨w.heap.size, 0, none⟩)] trivial (enters_of Tryz.func132 (by kernel_rfl) rfl) _ _ (by rw [hsz]; unfold maxLen; omega) (by rw [hsz]; omega) _ hseq
  change CallsIn _ _ Tryz.prog 94 _ _ _ at cS
  refine ((callsIn_wide (n := 5)).1 cS).mono ?_
  rintro e w' ⟨v, ss, rfl, hS, hrow, hnil, hb⟩
  obtain ⟨p1, p2⟩ := sort_intsH ss
  refine ⟨v, _, rfl, p1.trans (hS.trans hperm), p2, ?_, ?_⟩
  · rw [p1.length_eq]
    exact own_low hrow (by rw [World.size_alloc]; exact Nat.le_succ _)
  · exact ((Ext.refl w).alloc _).trans hb
end Go.Proofs.YtlhbpflcffjhmaaGreat

namespace Go.Proofs.YtlhbpflcffjhmaaGreat
open Go.RowKit Go.Sort Go.MapKept

set_option maxRecDepth 100000 in
set_option maxHeartbeats 8000000 in
theorem nearT_any (w W : World) (b bt bm b1 b2 : Nat) (gs : List LkG) (vo : Value) (o : List PP) (h : SubR b w bt bm gs vo o) (hb : b ≤ w.heap.size) (hW : Ext w W) (g : LkG) (hg : lkG gs g.n = some g) (h1 : w.heap[b1]? = some (.cells #[.pointer (some ⟨bt, 0, none⟩)] 33 (0, 0))) (h2 : w.heap[b2]? = some (.cells #[.int .i64 g.n] 3 (0, 0)))
    (v : Value) (us : List PP) (hown : OwnQ W w.heap.size v us) (hR : RowQ b W v us) (hl : us.length ≤ 1000000) :
    Calls Tryz.prog 96 #[v, .pointer (some ⟨b1, 0, none⟩), .pointer (some ⟨b2, 0, none⟩)] W fun e w' => ∃ v' us', e = .returned v' ∧ psP us' = nearF (psP g.a) (psP us) ∧ OwnQ w' w.heap.size v' us' ∧ RowQ b w' v' us' ∧ us'.length ≤ us.length ∧ Ext w w' ∧ W.grownBy w' v.ownBlock := by
  have hde := delQ_any W w.heap.size v us hown (fun x hx => (hR.ps x hx).pred) hl 97 #[.pointer (some ⟨b1, 0, none⟩), .pointer (some ⟨b2, 0, none⟩)] (fun x => !((psP g.a).any fun a => overlapsF x.p a)) ent_near1 fun W' x hgr hx => by
    have hw : Ext w W' := hW.grown_none hgr (own_base hown)
    exact near1_any W' b bt bm b1 b2 gs vo o (h.ext hw) g hg (cell_of_row _ _ 0 _ _ _ (block_later h1 hw)) (cell_of_row _ _ 0 _ _ _ (block_later h2 hw)) x.h x.p ((hR.ps x hx).rowTurn hown hgr).pred (hR.ok x hx)
  have hd2 : Calls Tryz.prog 67 #[v, .func (.func 97) #[] #[.pointer (some ⟨b1, 0, none⟩), .pointer (some ⟨b2, 0, none⟩)]] W fun e w' => ∃ v' us', e = .returned v' ∧ psP us' = nearF (psP g.a) (psP us) ∧ OwnQ w' w.heap.size v' us' ∧ RowQ b w' v' us' ∧ us'.length ≤ us.length ∧ Ext w w' ∧ W.grownBy w' v.ownBlock := by
    refine hde.mono ?_
    rintro e w' ⟨v', rfl, p1, p2⟩
    have hx := hW.grown_none p2 (own_base hown)
    have hsub : ∀ x ∈ us.filter (fun x => !!((psP g.a).any fun a => overlapsF x.p a)), x ∈ us := fun x hx => (List.mem_filter.1 hx).1
    refine ⟨v', _, rfl, ?_, p1, ⟨OwnQ.low p1 hb, fun x hx => (hR.ps x (hsub x hx)).rowTurn hown p2, fun x hx => hR.ok x (hsub x hx)⟩, List.length_filter_le _ _, hx, p2⟩
    show (List.filter _ us).map PP.p = List.filter _ (us.map PP.p)
    rw [List.filter_map]
    congr 1
    refine List.filter_congr fun x _ => ?_
    simp only [Bool.not_not, Function.comp]
  obtain ⟨a, c, rfl, _, _⟩ := own_shape hown
  have HD := Lib.hid hd2
  clear hde hd2 h hg h1 h2 hown hR hb
  generalize us.length = n at *
  go_enter Tryz.func96, Tryz.ntmps96
  go_wp2_with (go_at_call 67; (with_reducible refine HD.out.mono ?_); rintro e w1 ⟨v1, us1, rfl, hR⟩; have HR := Lib.hid hR; clear hR)
  exact bodyPost_ret (v := v1) (by simp [results, Tryz.results96, go_sem]) rfl ⟨v1, us1, rfl, HR.out⟩
end Go.Proofs.YtlhbpflcffjhmaaGreat

namespace Go.Proofs.YtlhbpflcffjhmaaGreat
open Go.RowKit Go.Sort Go.MapKept

def stgF (A X : List (List C)) : Nat → List (List C)
  | 0 => X
  | 1 => onceF X
  | 2 => nearF A (onceF X)
  | _ => topsF (nearF A (onceF X))
theorem once_len (X : List (List C)) : (onceF X).length ≤ X.length := sortU_len X
/-- Those that came over others, by the links' numbers in whatever order. -/
theorem others_perm {S : TbS} (ok : OkT S) (n : Int) (l : List Int) (hl : l.Perm (S.ls.map LkS.n)) (p : List C) : p ∈ (l.filter fun m => m != n).flatMap (fun m => cameF S m) ↔ p ∈ othersF S n := by
  rw [others_mem, List.mem_flatMap]
  constructor
  · rintro ⟨m, hm, hp⟩
    obtain ⟨hm1, hm2⟩ := List.mem_filter.1 hm
    unfold cameF at hp
    cases hf : lkF S m with
    | none => rw [hf] at hp; cases hp
    | some x =>
      rw [hf] at hp
      obtain ⟨h1, h2⟩ := lkF_some hf
      exact ⟨x, h1, by rw [h2]; simpa using hm2, hp⟩
  · rintro ⟨x, hx, hne, hp⟩
    refine ⟨x.n, List.mem_filter.2 ⟨hl.mem_iff.2 (List.mem_map.2 ⟨x, hx, rfl⟩), by simpa using hne⟩, ?_⟩
    unfold cameF
    cases hf : lkF S x.n with
    | none => exact absurd rfl (lkF_none hf x hx)
    | some y =>
      have : y = x := nodup_inj ok.apart (lkF_some hf).1 hx (lkF_some hf).2
      rw [this]; exact hp
theorem want_by {S : TbS} (ok : OkT S) (x : LkS) (l : List Int) (hl : l.Perm (S.ls.map LkS.n)) : stgF x.ads (S.own ++ (l.filter fun m => m != x.n).flatMap (fun m => cameF S m)) 3 = wantF S x := by
  show topsF (nearF x.ads (onceF _)) = _
  unfold wantF onceF
  rw [sortU_same wo_P (l := S.own ++ (l.filter fun m => m != x.n).flatMap (fun m => cameF S m)) (m := S.own ++ othersF S x.n) (fun a _ b _ h => cmpP_zero h) fun z => by rw [List.mem_append, List.mem_append, others_perm ok x.n l hl]]
set_option maxRecDepth 100000 in
set_option maxHeartbeats 16000000 in
theorem wantedT_any (w : World) (b bt bm : Nat) (gs : List LkG) (vo : Value) (o : List PP) (hS : SubR b w bt bm gs vo o) (ok : OkT ⟨gs.map LkG.ls, psP o⟩) (sm : SmallT ⟨gs.map LkG.ls, psP o⟩) (hb : b ≤ w.heap.size) (g : LkG) (hgm : g ∈ gs) :
    Calls Tryz.prog 52 #[.pointer (some ⟨bt, 0, none⟩), .int .i64 g.n] w fun e w' => ∃ ra rn rc us', e = .returned (.slice ra rn rc) ∧ psP us' = wantF ⟨gs.map LkG.ls, psP o⟩ g.ls ∧ RowQ b w' (.slice ra rn rc) us' ∧ Ext w w' := by
  obtain ⟨hx0, hb1, hb2⟩ := boxes2 w (.cells #[.pointer (some ⟨bt, 0, none⟩)] 33) (.cells #[.int .i64 g.n] 3)
  have HX0 := Lib.hid hx0
  have hgl := lkG_of hS hgm
  have hol : o.length ≤ 1000 := by have : (psP o).length ≤ 1000 := sm.own; rwa [psP_len] at this
  have hgl70 : gs.length ≤ 70 := by have : (gs.map LkG.ls).length ≤ 70 := sm.ls; rwa [List.length_map] at this
  have hcl := fun W (hW : Ext w W) => cloneQ_any W vo o (hS.own.ext hW).preds (by omega)
  have hmp : gs.map eLk = (gs.map fun g => (g.n, Value.pointer (some ⟨g.p, 0, none⟩))).map fun k => (Value.int .i64 k.1, k.2) := by rw [List.map_map]; rfl
  have hso : ∀ W, Ext w W → Calls Tryz.prog 94 #[.func (.func 132) #[] #[.pointer (some ⟨W.heap.size, 0, none⟩)]] (W.alloc (.cells #[.map (some bm)] 80)) fun e w' =>
      ∃ (G : Option Addr) (cap : Nat) (l : List Int), e = .returned (.slice G l.length cap) ∧ l.Perm (gs.map LkG.n) ∧ w'.ownsRow W.heap.size 3 1 (.slice G l.length cap) l.length (l.map (Value.int .i64)) ∧ Ext W w' := fun W hW => by
    refine (sortedH_any W bm (gs.map fun g => (g.n, Value.pointer (some ⟨g.p, 0, none⟩))) (by rw [← hmp]; exact hS.mp.ext hW) (fun k hk => by
      obtain ⟨g, hg, rfl⟩ := List.mem_map.1 hk
      exact hS.wf g hg) (by rw [List.length_map]; omega)).mono ?_
    rintro e w' ⟨v, l, rfl, p1, _, p3, p4⟩
    obtain ⟨G, cap, rfl, _, _⟩ := own_shape p3
    exact ⟨G, cap, l, rfl, by rw [List.map_map] at p1; exact p1, p3, p4⟩
  obtain ⟨oa, oc, rfl, _, _⟩ := own_shape hS.own.own
  have hbt := fun W (hW : Ext w W) => block_later hS.box hW
  have HS := Lib.hid hS
  have HOK := Lib.hid ok
  have HSM := Lib.hid sm
  have HB := Lib.hid hb
  have HGL := Lib.hid hgl
  have HGM := Lib.hid hgm
  have HCL := Lib.hid hcl
  have HSO := Lib.hid hso
  have HBT := Lib.hid hbt
  have HOL := Lib.hid hol
  have HG70 := Lib.hid hgl70
  obtain ⟨w0, hw0⟩ : ∃ w0, w0 = (w.alloc (.cells #[.pointer (some ⟨bt, 0, none⟩)] 33)).alloc (.cells #[.int .i64 g.n] 3) := ⟨_, rfl⟩
  obtain ⟨b1, hb1e⟩ : ∃ b1, b1 = w.heap.size := ⟨_, rfl⟩
  rw [← hw0] at HX0 hb1 hb2
  have HW0 := Lib.hid hw0
  have HB1 := Lib.hid hb1e
  obtain ⟨gn, hgn⟩ : ∃ gn, gn = g.n := ⟨_, rfl⟩
  have HGN := Lib.hid hgn
  rw [← hb1e, ← hgn] at hb2
  rw [← hb1e] at hb1
  have HBX1 := Lib.hid hb1
  have HBX2 := Lib.hid hb2
  rw [← hgn]
  rw [← hgn] at hw0
  have hbw : w.heap.size + 1 = b1 + 1 := by omega
  clear hS ok sm hb hgl hgm hcl hso hbt hol hgl70 hmp hx0 hb1 hb2 hgn
  go_enter Tryz.func52, Tryz.ntmps52
  go_upto_region 1 with fail
  rw [← hw0, ← hb1e]
  clear hw0 hb1e hbw
  have n1 := cell_of_row _ _ 0 _ _ _ HBX1.out
  have n2 := cell_of_row _ _ 1 _ _ _ (HBT.out _ HX0.out)
  go_upto_region 2 with (go_at_call 47; (with_reducible refine (HCL.out _ HX0.out).mono ?_); rintro e w1 ⟨v1, rfl, ho, hx, _⟩; have HO1 := Lib.hid ho; have HX1 := Lib.hid hx; clear ho hx)
  clear n1 n2
  have n1 := cell_of_row _ _ 0 _ _ _ (block_later HBX1.out HX1.out)
  have n2 := cell_of_row _ _ 0 _ _ _ (HBT.out _ (HX0.out.trans HX1.out))
  go_upto_region 3 with (first
    | (go_at_call 95; (refine (keysH_any _ _).mono ?_); rintro e w2 ⟨rfl, rfl⟩)
    | (go_at_call 94; (refine (HSO.out _ (HX0.out.trans HX1.out)).mono ?_); rintro e w3 ⟨G, Gc, lk, rfl, h1, h2, h3⟩; have HP := Lib.hid h1; have HOW := Lib.hid h2; have HX3 := Lib.hid (HX1.out.trans h3); have hrow1 := Lib.hid (OwnQ.ext HO1.out h3); clear h1 h2 h3))
  clear n1 n2
  obtain ⟨ln, hln⟩ : ∃ ln, ln = lk.length := ⟨_, rfl⟩
  have HLN := Lib.hid hln
  have hln70 : ln ≤ 70 := by rw [hln, HP.out.length_eq, List.length_map]; exact HG70.out
  rw [← hln] at HOW ⊢
  clear hln
  go_loopw [5, 23] (fun vo i wr => ∃ (k : Nat) (ua : List PP), k ≤ ln ∧ i = .int .i64 k ∧ Hid (OwnQ wr w0.heap.size vo ua) ∧ Hid (RowQ b wr vo ua) ∧ Hid (psP ua = psP o ++ ((lk.take k).filter fun m => m != gn).flatMap fun m => cameF ⟨gs.map LkG.ls, psP o⟩ m) ∧ Hid (ua.length ≤ 1000 + 1000 * k) ∧ Hid (Ext w0 wr) ∧ Hid (wr.ownsRow w0.heap.size 3 1 (.slice G ln Gc) ln (lk.map (Value.int .i64)))) (fun _ i _ => ln - (intOf i).toNat)
  case atStart => exact ⟨0, o, Nat.zero_le _, rfl, hrow1.out.low (by have := HX1.out.size; have := HX0.out.size; exact Nat.le_refl _), ⟨hrow1.out.low (Nat.le_trans HB.out HX0.out.size), fun x hx => (HS.out.own.ps x hx).ext (HX0.out.trans HX3.out), HS.out.own.ok⟩, by show psP o = _; simp, by have := HOL.out; show _ ≤ _; omega, HX3.out, own_low HOW.out HX1.out.size⟩
  case round =>
    clear HOW hrow1 HX3 HX1 HO1 HSO HCL
    obtain ⟨k, ua, hk, rfl, hown, hrow, hps, hlen, hx, hints⟩ := hrel
    by_cases hlt : k < ln
    · have hI : decide ((k : Int) < (ln : Int)) = true := decide_eq_true (by omega)
      have hkl : k < lk.length := by rw [← HLN.out]; exact hlt
      have hmem : lk[k] ∈ lk := List.getElem_mem hkl
      have htk : (lk.take (k + 1)).filter (fun m => m != gn) = (lk.take k).filter (fun m => m != gn) ++ (if lk[k] != gn then [lk[k]] else []) := by
        rw [List.take_succ_eq_append_getElem hkl, List.filter_append]
        congr 1
        cases h : lk[k] != gn <;> simp [h]
      obtain ⟨gm, hgmm, hgmn⟩ := List.mem_map.1 (HP.out.mem_iff.1 hmem)
      rcases hints.out.2 with ⟨_, e0⟩ | ⟨G0, cap0, cur0, e0, _⟩
      · omega
      · simp only [Value.slice.injEq] at e0
        obtain ⟨rfl, -, rfl⟩ := e0
        have c0 := own_cells hints.out k (.int .i64 lk[k]) (by rw [List.getElem?_map, List.getElem?_eq_getElem hkl]; rfl)
        generalize lk[k] = m at *
        have HTK := Lib.hid htk
        have hw : Ext w wr := HX0.out.trans hx.out
        have HW := Lib.hid hw
        have n1 := cell_of_row _ _ 0 _ _ _ (block_later HBX1.out hx.out)
        have n2 := cell_of_row _ _ 0 _ _ _ (block_later HBX2.out hx.out)
        have n3 := cell_of_row _ _ 0 _ _ _ (HBT.out _ hw)
        by_cases hne : m = gn
        · subst hne
          have hq : ((m : Int) != (m : Int)) = false := by simp
          have hps2 : psP ua = psP o ++ ((lk.take (k + 1)).filter fun x => x != m).flatMap fun x => cameF ⟨gs.map LkG.ls, psP o⟩ x := by rw [HTK.out, hq]; simp only [Bool.false_eq_true, if_false, List.append_nil]; exact hps.out
          have HPS2 := Lib.hid hps2
          clear hps2 htk hgmn hmem hw
          go_wp2_with fail
          go_roundw
          case rel => exact ⟨k + 1, ua, hlt, by go_num, hown.out, hrow.out, HPS2.out, by have := hlen.out; show _ ≤ _; omega, hx.out, hints.out⟩
          case measure => simp [intOf]; omega
        · have hq : ((m : Int) != (gn : Int)) = true := by simp [hne]
          have hlr := HS.out.links gm hgmm
          have hlk := HS.out.look m hw
          have hgl : lkG gs m = some gm := by rw [← hgmn]; exact lkG_of HS.out hgmm
          rw [ptrL_some hgl] at hlk
          have hcm : cameF ⟨gs.map LkG.ls, psP o⟩ m = psP gm.c := by unfold cameF; rw [lkF_G, hgl]; rfl
          have hcl : gm.c.length ≤ 1000 := by have := HSM.out.came gm.ls (List.mem_map.2 ⟨gm, hgmm, rfl⟩); rwa [show gm.ls.came.length = gm.c.length from psP_len _] at this
          have hps2 : psP (ua ++ gm.c) = psP o ++ ((lk.take (k + 1)).filter fun x => x != gn).flatMap fun x => cameF ⟨gs.map LkG.ls, psP o⟩ x := by
            rw [HTK.out, hq]
            simp only [if_true, List.flatMap_append, List.flatMap_cons, List.flatMap_nil, List.append_nil]
            rw [hcm]
            unfold psP
            rw [List.map_append]
            show psP ua ++ _ = _
            rw [hps.out, List.append_assoc]
            rfl
          have HPS2 := Lib.hid hps2
          have hbl := block_later hlr.box hw
          have hcr := hlr.c.ext hw
          obtain ⟨ca, cc, hcv, _, _⟩ := own_shape hlr.c.own
          rw [hcv] at hbl hcr
          have n4 := cell_of_row _ _ 0 _ _ _ hbl
          obtain ⟨gp, hgp⟩ : ∃ gp, gp = gm.p := ⟨_, rfl⟩
          rw [← hgp] at hlk n4
          obtain ⟨cn, hcn⟩ : ∃ cn, cn = gm.c.length := ⟨_, rfl⟩
          rw [← hcn] at n4 hcl
          have hrowc : Row wr 1 (.slice ca cn cc) cn (gm.c.flatMap ppC) := by rw [hcn]; exact hcr.own.row
          have HRC := Lib.hid hrowc
          have HCR := Lib.hid hcr
          have HCN := Lib.hid hcn
          have hone : ∀ u ∈ gm.c.flatMap ppC, u.oneCell' = true := ppC_one gm.c hcr.one
          have HONE := Lib.hid hone
          obtain ⟨ua2, uc2, hu2, _, _⟩ := own_shape hown.out
          have hownv := hown.out
          have HUL := Lib.hid (And.intro hlen.out (show cn ≤ 1000 from hcl))
          have hk70 : k < 70 := by omega
          clear htk hgmn hmem hps2 hbl hcr hcv hgp hcn hrowc hone hlr hcm hgl hw hcl hne hu2
          go_wp2_with (at_builtin; refine wpList_append_row 22 25 (.tmp 30) (.tmp 39) rfl w0.heap.size _ 1 24 Tryz.underlying22 infoQ rfl (by decide) rfl _ ua.length (ua.flatMap ppC) rfl hownv cn (gm.c.flatMap ppC) HRC.out HONE.out (by have := HUL.out; omega) (by have := HUL.out; unfold maxLen; omega) hx.out.size ?_; intro v' w6 hown6 hgrow; have HO6 := Lib.hid hown6; have HG6 := Lib.hid hgrow; clear hown6 hgrow)
          have hO : OwnQ w6 w0.heap.size v' (ua ++ gm.c) := by
            unfold OwnQ
            rw [List.length_append, List.flatMap_append, ← HCN.out]
            exact HO6.out
          have hE : Ext w0 w6 := hx.out.grown_none HG6.out (own_base hown.out)
          have hin6 := own_keep hints.out HG6.out fun q hq e => own_apart hints.out hown.out (by decide) q e hq
          have hR : RowQ b w6 v' (ua ++ gm.c) := ⟨hO.low (Nat.le_trans HB.out HX0.out.size), fun x hx => by
            rcases List.mem_append.1 hx with hx | hx
            · exact (hrow.out.ps x hx).rowTurn hown.out HG6.out
            · exact (HCR.out.ps x hx).rowTurn hown.out HG6.out, fun x hx => by
            rcases List.mem_append.1 hx with hx | hx
            · exact hrow.out.ok x hx
            · exact HCR.out.ok x hx⟩
          have HO := Lib.hid hO
          have HE := Lib.hid hE
          have HI6 := Lib.hid hin6
          have HRR := Lib.hid hR
          clear hO hE hin6 hR hownv
          go_roundw
          case rel => exact ⟨k + 1, ua ++ gm.c, hlt, by go_num, HO.out, HRR.out, HPS2.out, by have := HUL.out; show (ua ++ gm.c).length ≤ _; rw [List.length_append, ← HCN.out]; omega, HE.out, HI6.out⟩
          case measure => simp [intOf]; omega
    · obtain rfl : k = ln := by omega
      have hI : decide ((k : Int) < (k : Int)) = false := decide_eq_false (by omega)
      obtain ⟨X, hX⟩ : ∃ X, X = psP ua := ⟨_, rfl⟩
      have hwant : stgF (psP g.a) X 3 = wantF ⟨gs.map LkG.ls, psP o⟩ g.ls := by
        rw [hX, hps.out, List.take_of_length_le (by rw [← HLN.out]; exact Nat.le_refl _), HGN.out]
        exact want_by HOK.out g.ls lk (by
          have := HP.out
          rw [List.map_map]
          exact this)
      have HWANT := Lib.hid hwant
      have HUL := Lib.hid (show ua.length ≤ 71000 by have := hlen.out; omega)
      have HX := Lib.hid hX
      obtain ⟨a5, c5, e5, _, _⟩ := own_shape hown.out
      clear hwant hX hps hlen hints hk hlt e5
      go_upto_region 9 with fail
      go_wp2_with fail
      obtain ⟨hxa, hba⟩ := boxes1 wr (.cells #[.func (.func 29) #[] #[], .func (.func 96) #[] #[.pointer (some ⟨b1, 0, none⟩), .pointer (some ⟨b1 + 1, 0, none⟩)], .func (.func 28) #[] #[]] 23)
      have hrow2 := hrow.out.ext hxa
      have hown2 := OwnQ.ext hown.out hxa
      have hx2 := hx.out.trans hxa
      generalize wr.alloc (.cells #[.func (.func 29) #[] #[], .func (.func 96) #[] #[.pointer (some ⟨b1, 0, none⟩), .pointer (some ⟨b1 + 1, 0, none⟩)], .func (.func 28) #[] #[]] 23) = wa at *
      generalize wr.heap.size = ba at *
      have HROW := Lib.hid hrow2
      have HOWN := Lib.hid hown2
      have HXA := Lib.hid hx2
      have HBA := Lib.hid hba
      clear hrow2 hown2 hx2 hba hxa hown hrow hx
      go_loopw [5, 46] (fun vo i wv => ∃ (k : Nat) (uv : List PP), k ≤ 3 ∧ i = .int .i64 k ∧ Hid (OwnQ wv w0.heap.size vo uv) ∧ Hid (RowQ b wv vo uv) ∧ Hid (psP uv = stgF (psP g.a) X k) ∧ Hid (uv.length ≤ 71000) ∧ Hid (Ext w0 wv) ∧ Hid (wv.heap[ba]? = some (.cells #[.func (.func 29) #[] #[], .func (.func 96) #[] #[.pointer (some ⟨b1, 0, none⟩), .pointer (some ⟨b1 + 1, 0, none⟩)], .func (.func 28) #[] #[]] 23 (0, 0)))) (fun _ i _ => 3 - (intOf i).toNat)
      case atStart => exact ⟨0, ua, Nat.zero_le _, rfl, HOWN.out, HROW.out, HX.out.symm, HUL.out, HXA.out, HBA.out⟩
      case round =>
        clear HOWN HROW HXA HBA
        obtain ⟨k, uv, hk, rfl, hown, hrow, hst, hlen, hx, hba⟩ := hrel
        have hbw : b ≤ wr.heap.size := Nat.le_trans HB.out (Nat.le_trans HX0.out.size hx.out.size)
        match k, hk with
        | 0, _ =>
          have hcall : Calls Tryz.prog 29 #[u5] wr fun e w' => ∃ ra rn rc us', e = .returned (.slice ra rn rc) ∧ OwnQ w' w0.heap.size (.slice ra rn rc) us' ∧ RowQ b w' (.slice ra rn rc) us' ∧ psP us' = stgF (psP g.a) X 1 ∧ us'.length ≤ 71000 ∧ Ext w0 w' ∧ w'.heap[ba]? = some (.cells #[.func (.func 29) #[] #[], .func (.func 96) #[] #[.pointer (some ⟨b1, 0, none⟩), .pointer (some ⟨b1 + 1, 0, none⟩)], .func (.func 28) #[] #[]] 23 (0, 0)) := by
            refine (onceQ_any wr b u5 uv hrow.out hbw (by have := hlen.out; omega)).mono ?_
            rintro e w' ⟨v', us', rfl, p1, p2, p3, p4, p5⟩
            obtain ⟨ra, rc, rfl, _, _⟩ := own_shape p3
            refine ⟨_, _, _, us', rfl, p3.low hx.out.size, p4, ?_, ?_, hx.out.trans p5, block_later hba.out p5⟩
            · show us'.map PP.p = _
              rw [p1]
              show onceF (psP uv) = _
              rw [hst.out]
              rfl
            · have h1 : us'.length = (onceF (uv.map PP.p)).length := by rw [← p1, List.length_map]
              have h2 := once_len (uv.map PP.p)
              rw [List.length_map] at h2
              have := hlen.out
              omega
          have HC := Lib.hid hcall
          have c0 := cell_of_row _ _ 0 _ _ _ hba.out
          have hI : decide (((0 : Nat) : Int) < 3) = true := by decide
          obtain ⟨x5, y5, e5, _, _⟩ := own_shape hown.out
          clear hcall hbw e5
          go_wp2_with (go_at_call 29; (with_reducible refine HC.out.mono ?_); rintro e w5 ⟨ra, rn, rc, us5, rfl, p1, p2, p3, p4, p5, p6⟩; have HALL := Lib.hid (And.intro p1 (And.intro p2 (And.intro p3 (And.intro p4 (And.intro p5 p6))))); clear p1 p2 p3 p4 p5 p6)
          go_roundw
          case rel => exact ⟨1, us5, by omega, by go_num, HALL.out⟩
          case measure => simp [intOf]
        | 1, _ =>
          have hcall : Calls Tryz.prog 96 #[u5, .pointer (some ⟨b1, 0, none⟩), .pointer (some ⟨b1 + 1, 0, none⟩)] wr fun e w' => ∃ ra rn rc us', e = .returned (.slice ra rn rc) ∧ OwnQ w' w0.heap.size (.slice ra rn rc) us' ∧ RowQ b w' (.slice ra rn rc) us' ∧ psP us' = stgF (psP g.a) X 2 ∧ us'.length ≤ 71000 ∧ Ext w0 w' ∧ w'.heap[ba]? = some (.cells #[.func (.func 29) #[] #[], .func (.func 96) #[] #[.pointer (some ⟨b1, 0, none⟩), .pointer (some ⟨b1 + 1, 0, none⟩)], .func (.func 28) #[] #[]] 23 (0, 0)) := by
            refine (nearT_any w0 wr b bt bm b1 (b1 + 1) gs _ o (HS.out.ext HX0.out) (Nat.le_trans HB.out HX0.out.size) hx.out g HGL.out HBX1.out (by rw [← HGN.out]; exact HBX2.out) u5 uv hown.out hrow.out (by have := hlen.out; omega)).mono ?_
            rintro e w' ⟨v', us', rfl, p1, p2, p3, p4, p5, p6⟩
            obtain ⟨ra, rc, rfl, _, _⟩ := own_shape p2
            refine ⟨_, _, _, us', rfl, p2, p3, ?_, by have := hlen.out; omega, p5, (p6.block ba (Array.getElem?_eq_some_iff.1 hba.out).1 (own_ne hown.out hba.out (by decide)).symm).trans hba.out⟩
            rw [p1, hst.out]
            rfl
          have HC := Lib.hid hcall
          have c0 := cell_of_row _ _ 1 _ _ _ hba.out
          have hI : decide (((1 : Nat) : Int) < 3) = true := by decide
          obtain ⟨x5, y5, e5, _, _⟩ := own_shape hown.out
          clear hcall hbw e5
          go_wp2_with (go_at_call 96; (with_reducible refine HC.out.mono ?_); rintro e w5 ⟨ra, rn, rc, us5, rfl, p1, p2, p3, p4, p5, p6⟩; have HALL := Lib.hid (And.intro p1 (And.intro p2 (And.intro p3 (And.intro p4 (And.intro p5 p6))))); clear p1 p2 p3 p4 p5 p6)
          go_roundw
          case rel => exact ⟨2, us5, by omega, by go_num, HALL.out⟩
          case measure => simp [intOf]
        | 2, _ =>
          have hcall : Calls Tryz.prog 28 #[u5] wr fun e w' => ∃ ra rn rc us', e = .returned (.slice ra rn rc) ∧ OwnQ w' w0.heap.size (.slice ra rn rc) us' ∧ RowQ b w' (.slice ra rn rc) us' ∧ psP us' = stgF (psP g.a) X 3 ∧ us'.length ≤ 71000 ∧ Ext w0 w' ∧ w'.heap[ba]? = some (.cells #[.func (.func 29) #[] #[], .func (.func 96) #[] #[.pointer (some ⟨b1, 0, none⟩), .pointer (some ⟨b1 + 1, 0, none⟩)], .func (.func 28) #[] #[]] 23 (0, 0)) := by
            refine (topsT_any wr b u5 uv hrow.out hbw (by have := hlen.out; omega)).mono ?_
            rintro e w' ⟨v', us', rfl, p1, p2, p3, p4, p5⟩
            obtain ⟨ra, rc, rfl, _, _⟩ := own_shape p3
            refine ⟨_, _, _, us', rfl, p3.low hx.out.size, p4, ?_, ?_, hx.out.trans p5, block_later hba.out p5⟩
            · show us'.map PP.p = _
              rw [p1]
              show topsF (psP uv) = _
              rw [hst.out]
              rfl
            · have h1 : us'.length = (topsF (uv.map PP.p)).length := by rw [← p1, List.length_map]
              have h2 := (topsF_sub (uv.map PP.p)).length_le
              rw [List.length_map] at h2
              have := hlen.out
              omega
          have HC := Lib.hid hcall
          have c0 := cell_of_row _ _ 2 _ _ _ hba.out
          have hI : decide (((2 : Nat) : Int) < 3) = true := by decide
          obtain ⟨x5, y5, e5, _, _⟩ := own_shape hown.out
          clear hcall hbw e5
          go_wp2_with (go_at_call 28; (with_reducible refine HC.out.mono ?_); rintro e w5 ⟨ra, rn, rc, us5, rfl, p1, p2, p3, p4, p5, p6⟩; have HALL := Lib.hid (And.intro p1 (And.intro p2 (And.intro p3 (And.intro p4 (And.intro p5 p6))))); clear p1 p2 p3 p4 p5 p6)
          go_roundw
          case rel => exact ⟨3, us5, by omega, by go_num, HALL.out⟩
          case measure => simp [intOf]
        | 3, _ =>
          have hI : decide (((3 : Nat) : Int) < 3) = false := by decide
          obtain ⟨ra, rc, e5, _, _⟩ := own_shape hown.out
          have hfin : psP uv = wantF ⟨gs.map LkG.ls, psP o⟩ g.ls ∧ RowQ b wr u5 uv ∧ Ext w wr := ⟨by rw [hst.out]; exact HWANT.out, hrow.out, HX0.out.trans hx.out⟩
          have HF := Lib.hid hfin
          have HE5 := Lib.hid e5
          clear hfin hbw e5
          go_wp2_with fail
          refine bodyPost_ret (v := u5) (by simp [results, Tryz.results52, go_sem]) rfl ⟨ra, uv.length, rc, uv, by rw [HE5.out], HF.out.1, by rw [← HE5.out]; exact HF.out.2.1, HF.out.2.2⟩
end Go.Proofs.YtlhbpflcffjhmaaGreat

namespace Go.Proofs.YtlhbpflcffjhmaaGreat
open Go.RowKit Go.Sort Go.MapKept

/-- A row of predicates that says L. -/
def rqF (b : Nat) (L : List (List C)) (v : Value) (w : World) : Prop := ∃ (ra : Option Addr) (rn rc : Nat) (us : List PP), v = .slice ra rn rc ∧ psP us = L ∧ RowQ b w (.slice ra rn rc) us
def Fact.rq (b : Nat) (L : List (List C)) : Fact := ⟨rqF b L, fun _ _ _ hx ⟨ra, rn, rc, us, h1, h2, h3⟩ => ⟨ra, rn, rc, us, h1, h2, h3.ext hx⟩⟩
set_option maxRecDepth 100000 in
set_option maxHeartbeats 8000000 in
theorem changesT_none (w : World) (b bt : Nat) (F : List Nat) (S : TbS) (h : Sb b w bt F S) (n : Int) (hn : lkF S n = none) :
    Calls Tryz.prog 20 #[.pointer (some ⟨bt, 0, none⟩), .int .i64 n] w fun e w' => e = .returned (.tuple #[.slice none 0 0, .slice none 0 0, .int .i64 6]) ∧ Ext w w' := by
  obtain ⟨bm, gs, vo, o, hS, rfl, rfl⟩ := h
  have hlk := lkF_G gs (psP o) n
  have hg : lkG gs n = none := by
    rw [hn] at hlk
    cases hg : lkG gs n with
    | none => rfl
    | some g => rw [hg] at hlk; cases hlk
  have hat := atT_none w b bt bm gs vo o hS n hg none 0 0
  have HAT := Lib.hid hat
  clear hat hlk hg hS hn
  go_enter Tryz.func20, Tryz.ntmps20
  go_wp2_with (go_at_call 48; (with_reducible refine HAT.out.mono ?_); rintro e w1 ⟨rfl, hx⟩; have HX := Lib.hid hx; clear hx)
  exact bodyPost_ret (v := .tuple #[.slice none 0 0, .slice none 0 0, .int .i64 6]) (by simp [results, Tryz.results20, go_sem]) rfl ⟨rfl, HX.out⟩
set_option maxRecDepth 100000 in
set_option maxHeartbeats 8000000 in
theorem changesT_any (w : World) (b bt : Nat) (F : List Nat) (S : TbS) (h : Sb b w bt F S) (ok : OkT S) (sm : SmallT S) (hb : b ≤ w.heap.size) (n : Int) (x : LkS) (hn : lkF S n = some x) :
    Calls Tryz.prog 20 #[.pointer (some ⟨bt, 0, none⟩), .int .i64 n] w fun e w' => ∃ a1 n1 c1 a2 n2 c2 u1 u2, e = .returned (.tuple #[.slice a1 n1 c1, .slice a2 n2 c2, .int .i64 0]) ∧
      psP u1 = lessF (wantF S x) x.sent ∧ RowQ b w' (.slice a1 n1 c1) u1 ∧ psP u2 = lessF x.sent (wantF S x) ∧ RowQ b w' (.slice a2 n2 c2) u2 ∧ Sb b w' bt F (chTS S n) ∧ Turns F w w' := by
  obtain ⟨bm, gs, vo, o, hS, rfl, rfl⟩ := h
  have HS := Lib.hid hS
  have hlk := lkF_G gs (psP o) n
  cases hg : lkG gs n with
  | none => rw [hg, hn] at hlk; cases hlk
  | some g =>
    rw [hg, hn] at hlk
    simp only [Option.map_some, Option.some.injEq] at hlk
    obtain ⟨hgm, rfl⟩ := lkG_some hg
    subst hlk
    have hlr := hS.links g hgm
    have hls : g.ls ∈ gs.map LkG.ls := List.mem_map.2 ⟨g, hgm, rfl⟩
    have hat := atT_ok w b bt bm gs vo o hS g.n g hg (.slice none 0 0) [] (PredR.nil w) may_nil
    have hwa := fun W (hW : Ext w W) => wantedT_any W b bt bm gs vo o (hS.ext hW) ok sm (Nat.le_trans hb hW.size) g hgm
    have hbox := fun W (hW : Ext w W) => block_later hlr.box hW
    have hsl : g.s.length ≤ 71000 := by have := sm.sent g.ls hls; rwa [show g.ls.sent.length = g.s.length from psP_len _] at this
    obtain ⟨WL, hWL⟩ : ∃ WL, WL = wantF ⟨gs.map LkG.ls, psP o⟩ g.ls := ⟨_, rfl⟩
    have hwok := want_ok ok g.ls
    have hsok := (ok.ls g.ls hls).sent
    have hch : chTS ⟨gs.map LkG.ls, psP o⟩ g.n = setL ⟨gs.map LkG.ls, psP o⟩ g.n (fun y => { y with sent := wantF ⟨gs.map LkG.ls, psP o⟩ y }) := rfl
    have hwl : WL.length ≤ 71000 := by
      rw [hWL]
      unfold wantF
      have h1 := (topsF_sub (nearF g.ls.ads (onceF (psP o ++ othersF ⟨gs.map LkG.ls, psP o⟩ g.ls.n)))).length_le
      have h2 : (nearF g.ls.ads (onceF (psP o ++ othersF ⟨gs.map LkG.ls, psP o⟩ g.ls.n))).length ≤ _ := List.length_filter_le _ _
      have h3 := once_len (psP o ++ othersF ⟨gs.map LkG.ls, psP o⟩ g.ls.n)
      have h4 : (psP o).length ≤ 1000 := sm.own
      have h5 : (othersF ⟨gs.map LkG.ls, psP o⟩ g.ls.n).length ≤ 1000 * 70 := by
        unfold othersF
        rw [List.length_flatMap]
        have h6 : ∀ (l : List LkS), (∀ x ∈ l, x.came.length ≤ 1000) → (l.map fun x => x.came.length).sum ≤ 1000 * l.length := fun l hl => by
          induction l with
          | nil => exact Nat.le_refl _
          | cons y l ih =>
            rw [List.map_cons, List.sum_cons, List.length_cons]
            have := hl y (by simp)
            have := ih fun x hx => hl x (by simp [hx])
            omega
        have h7 := h6 ((gs.map LkG.ls).filter fun x => !decide (x.n = g.ls.n)) fun x hx => sm.came x (List.mem_filter.1 hx).1
        have h8 := List.length_filter_le (fun x : LkS => !decide (x.n = g.ls.n)) (gs.map LkG.ls)
        have h9 : (gs.map LkG.ls).length ≤ 70 := sm.ls
        exact Nat.le_trans h7 (Nat.le_trans (Nat.mul_le_mul_left 1000 (Nat.le_trans h8 h9)) (by decide))
      refine Nat.le_trans h1 (Nat.le_trans h2 (Nat.le_trans h3 ?_))
      rw [List.length_append]
      omega
    rw [← hWL] at hwok
    have HWL := Lib.hid hWL
    have HWOK := Lib.hid hwok
    have HSOK := Lib.hid hsok
    have HLEN := Lib.hid (And.intro hsl hwl)
    have HR := Lib.hid hlr
    have HGM := Lib.hid hgm
    have HOK := Lib.hid ok
    have HB := Lib.hid hb
    rw [hch]
    rw [← hWL] at hwa ⊢
    obtain ⟨sa, sc, hsv, _, _⟩ := own_shape hlr.s.own
    rw [hsv] at hbox
    have HSV := Lib.hid hsv
    obtain ⟨sn, hsn⟩ : ∃ sn, sn = g.s.length := ⟨_, rfl⟩
    rw [← hsn] at hbox
    have HSN := Lib.hid hsn
    obtain ⟨gp, hgp⟩ : ∃ gp, gp = g.p := ⟨_, rfl⟩
    obtain ⟨gn, hgn⟩ : ∃ gn, gn = g.n := ⟨_, rfl⟩
    rw [← hgp] at hat hbox
    rw [← hgn] at hat hwa ⊢
    have HGP := Lib.hid hgp
    have HGN := Lib.hid hgn
    have HAT := Lib.hid hat
    have HWA := Lib.hid hwa
    have HBX := Lib.hid hbox
    clear hat hwa hbox hlr hls hg hS ok sm hb hWL hwok hsok hsl hwl hsv hsn hgp hgn hgm hch hn
    go_enter Tryz.func20, Tryz.ntmps20
    go_upto_region 4 with (go_at_call 48; (with_reducible refine HAT.out.mono ?_); rintro e w1 ⟨na, nn, nc, rfl, _, hx⟩; have HX1 := Lib.hid hx; have hb1 := HBX.out _ hx; clear hx)
    have c1 := cell_of_row _ _ 2 _ _ _ hb1
    go_upto_region 6 with (go_at_call 52; (with_reducible refine (HWA.out _ HX1.out).mono ?_); rintro e w2 ⟨ra, rn, rc, us2, rfl, p1, p2, hx⟩; have HP2 := Lib.hid p1; have HR2 := Lib.hid p2; have HX2 := Lib.hid (HX1.out.trans hx); have hb2 := HBX.out _ HX2.out; have f2 := frozen_of_row _ _ 2 _ _ hb2; have d2 := cell_of_row _ _ 2 _ _ _ hb2; clear p1 p2 hx)
    have ht := turns_set w2 gp 2 (.slice ra rn rc)
    have htb : TbB w2 [gp] := fun k hk => by rw [List.mem_singleton.1 hk]; exact ⟨_, _, _, hb2, .inr rfl⟩
    have hnew := HR2.out.turnF htb ht
    have hold := (HR.out.s.ext HX2.out).turnF htb ht
    rw [HSV.out, ← HSN.out] at hold
    have hbx := setCell_rowS (i := 2) hb2 (.slice ra rn rc)
    have hfin := Sb.link HS.out HX2.out HGM.out (g' := { g with vs := .slice ra rn rc, s := us2 }) rfl rfl (w4 := w2.setCell ⟨gp, 2, none⟩ (.slice ra rn rc)) (by
      rw [← HGP.out]
      exact hbx) (HR.out.c.ext HX2.out) (HR.out.a.ext HX2.out) HR2.out (by rw [← HGP.out]; exact ht) (fun y => { y with sent := wantF ⟨gs.map LkG.ls, psP o⟩ y }) (by
        show LkS.mk _ _ _ _ = LkS.mk _ _ _ _
        rw [← HWL.out, ← HP2.out]
        rfl)
    rw [← HGN.out] at hfin
    have hc3 := cell_of_row _ _ 2 _ _ _ hbx
    generalize w2.setCell ⟨gp, 2, none⟩ (.slice ra rn rc) = w3 at *
    have HFIN := Lib.hid hfin
    have hb3 : b ≤ w3.heap.size := Nat.le_trans HB.out (Nat.le_trans HX2.out.size ht.size)
    have hl1 : us2.length ≤ 100000 := by have h1 : (psP us2).length = us2.length := psP_len _; rw [HP2.out] at h1; have := HLEN.out.2; omega
    have hl2 : g.s.length ≤ 100000 := by have := HLEN.out.1; omega
    have hless1 : ∀ W, Ext w3 W → Calls Tryz.prog 53 #[.slice ra rn rc, .slice sa sn sc] W fun e w' => ∃ v, e = .returned v ∧ rqF b (lessF WL (psP g.s)) v w' ∧ Ext W w' := fun W hW => by
      refine (lessT_any W b _ _ us2 g.s (hnew.ext hW) (hold.ext hW) (by show NormL (psP us2); rw [HP2.out]; exact HWOK.out.1) hl1 hl2 HSOK.out.2.asc).mono ?_
      rintro e w' ⟨v', us', rfl, q1, q2, q3⟩
      obtain ⟨xa, xc, rfl, _, _⟩ := own_shape q2.own
      refine ⟨_, rfl, ⟨_, _, _, us', rfl, ?_, q2.low (Nat.le_trans hb3 hW.size)⟩, q3⟩
      show us'.map PP.p = _
      rw [q1]
      show lessF (psP us2) (psP g.s) = _
      rw [HP2.out]
    have hless2 : ∀ W, Ext w3 W → Calls Tryz.prog 53 #[.slice sa sn sc, .slice ra rn rc] W fun e w' => ∃ v, e = .returned v ∧ rqF b (lessF (psP g.s) WL) v w' ∧ Ext W w' := fun W hW => by
      refine (lessT_any W b _ _ g.s us2 (hold.ext hW) (hnew.ext hW) HSOK.out.1 hl2 hl1 (by show Asc (psP us2); rw [HP2.out]; exact HWOK.out.2.asc)).mono ?_
      rintro e w' ⟨v', us', rfl, q1, q2, q3⟩
      obtain ⟨xa, xc, rfl, _, _⟩ := own_shape q2.own
      refine ⟨_, rfl, ⟨_, _, _, us', rfl, ?_, q2.low (Nat.le_trans hb3 hW.size)⟩, q3⟩
      show us'.map PP.p = _
      rw [q1]
      show lessF (psP g.s) (psP us2) = _
      rw [HP2.out]
    have HL1 := Lib.hid hless1
    have HL2 := Lib.hid hless2
    clear hless1 hless2 hnew hold htb hfin hbx hb2 f2 d2 c1 hb1 ht hb3 hl1 hl2
    refine wp_region_facts [Fact.eq (.pointer (some ⟨gp, 0, none⟩)),
        Fact.eq (.pointer (some ⟨gp, 0, none⟩)),
        Fact.eq (.pointer (some ⟨gp, 2, none⟩)),
        Fact.eq (.slice ra rn rc),
        Fact.eq (.slice sa sn sc),
        Fact.rq b (lessF WL (psP g.s)),
        Fact.eq (.slice sa sn sc),
        Fact.eq (.pointer (some ⟨gp, 0, none⟩)),
        Fact.eq (.pointer (some ⟨gp, 0, none⟩)),
        Fact.eq (.pointer (some ⟨gp, 2, none⟩)),
        Fact.eq (.slice ra rn rc),
        Fact.rq b (lessF (psP g.s) WL),
        Fact.rq b (lessF WL (psP g.s)),
        Fact.rq b (lessF (psP g.s) WL),
        Fact.eq (.int .i64 0)]
      [[], [(0, 31)], [(1, 32)], [(2, 33)], [], [(3, 34), (4, 35)], [], [], [(7, 38)], [(8, 39)], [(9, 40)], [(6, 37), (10, 41)], [(5, 36)], [(11, 42)], []]
      [(0, 31), (1, 32), (2, 33), (3, 34), (4, 35), (5, 36), (6, 37), (7, 38), (8, 39), (9, 40), (10, 41), (11, 42), (12, 4), (13, 5), (14, 6)] (by kernel_rfl) (by kernel_rfl) ?_ ?_
    · refine ⟨?_, ?_, ?_, ?_, ?_, ?_, ?_, ?_, ?_, ?_, ?_, ?_, ?_, ?_, ?_, trivial⟩
      · intro w1 hx1; change wpList _ _ _ _ _ _; exact ob_move rfl rfl rfl rfl rfl
      · intro w1 hx1; rintro _ rfl; change wpList _ _ _ _ _ _; go_wp2_with fail; exact ⟨rfl, Ext.refl _, rfl, rfl⟩
      · intro w1 hx1; rintro _ rfl; change wpList _ _ _ _ _ _; go_wp2_with fail; exact ⟨rfl, Ext.refl _, rfl, rfl⟩
      · intro w1 hx1; rintro _ rfl; change wpList _ _ _ _ _ _; have m0 := hx1.cell hc3; go_wp2_with fail; exact ⟨rfl, Ext.refl _, rfl, rfl⟩
      · intro w1 hx1; change wpList _ _ _ _ _ _; exact ob_move rfl rfl rfl rfl rfl
      · intro w1 hx1; rintro _ rfl; rintro _ rfl; change wpList _ _ _ _ _ _; go_wp2_with fail; refine (HL1.out w1 hx1).mono ?_; rintro e w2 ⟨v, rfl, hq, hx2⟩; go_wp2_with fail; exact ⟨rfl, hx2, rfl, hq⟩
      · intro w1 hx1; change wpList _ _ _ _ _ _; exact ob_move rfl rfl rfl rfl rfl
      · intro w1 hx1; change wpList _ _ _ _ _ _; exact ob_move rfl rfl rfl rfl rfl
      · intro w1 hx1; rintro _ rfl; change wpList _ _ _ _ _ _; go_wp2_with fail; exact ⟨rfl, Ext.refl _, rfl, rfl⟩
      · intro w1 hx1; rintro _ rfl; change wpList _ _ _ _ _ _; go_wp2_with fail; exact ⟨rfl, Ext.refl _, rfl, rfl⟩
      · intro w1 hx1; rintro _ rfl; change wpList _ _ _ _ _ _; have m0 := hx1.cell hc3; go_wp2_with fail; exact ⟨rfl, Ext.refl _, rfl, rfl⟩
      · intro w1 hx1; rintro _ rfl; rintro _ rfl; change wpList _ _ _ _ _ _; go_wp2_with fail; refine (HL2.out w1 hx1).mono ?_; rintro e w2 ⟨v, rfl, hq, hx2⟩; go_wp2_with fail; exact ⟨rfl, hx2, rfl, hq⟩
      · intro w1 hx1; intro v36 h36; change wpList _ _ _ _ _ _; go_wp2_with fail; exact ⟨rfl, Ext.refl _, rfl, h36⟩
      · intro w1 hx1; intro v42 h42; change wpList _ _ _ _ _ _; go_wp2_with fail; exact ⟨rfl, Ext.refl _, rfl, h42⟩
      · intro w1 hx1; change wpList _ _ _ _ _ _; exact ob_assign rfl rfl rfl rfl rfl
    · intro w1 hx1; rintro _ rfl; rintro _ rfl; rintro _ rfl; rintro _ rfl; rintro _ rfl; intro v36 h36; rintro _ rfl; rintro _ rfl; rintro _ rfl; rintro _ rfl; rintro _ rfl; intro v42 h42; intro v4 h4; intro v5 h5; rintro _ rfl; refine depsThen_nil ?_; dsimp only; simp only [Act.put, List.setIfInBounds_toArray, List.set_cons_zero, List.set_cons_succ]
      replace h36 : (Fact.rq b (lessF WL (psP g.s))).p v36 w1 := h36
      replace h42 : (Fact.rq b (lessF (psP g.s) WL)).p v42 w1 := h42
      replace h4 : (Fact.rq b (lessF WL (psP g.s))).p v4 w1 := h4
      replace h5 : (Fact.rq b (lessF (psP g.s) WL)).p v5 w1 := h5
      obtain ⟨a1, m1, k1, u1, rfl, e1, r1⟩ := h4
      obtain ⟨a2, m2, k2, u2, rfl, e2, r2⟩ := h5
      have HALL := Lib.hid (And.intro e1 (And.intro r1 (And.intro e2 (And.intro r2 hx1))))
      clear e1 r1 e2 r2
      go_wp2_with fail
      exact bodyPost_ret (v := .tuple #[.slice a1 m1 k1, .slice a2 m2 k2, .int .i64 0]) (by simp [results, Tryz.results20, go_sem]) rfl ⟨a1, m1, k1, a2, m2, k2, u1, u2, rfl, HALL.out.1, HALL.out.2.1, HALL.out.2.2.1, HALL.out.2.2.2.1, HFIN.out.1.ext HALL.out.2.2.2.2, HFIN.out.2.trans (Turns.of_ext (F := []) HALL.out.2.2.2.2) (fun i hi => by cases hi)⟩
end Go.Proofs.YtlhbpflcffjhmaaGreat

namespace Go.Proofs.YtlhbpflcffjhmaaGreat
open Go.RowKit Go.MapKept

theorem wpList_putX {P : Program} {ops : Array Oper} {Q : Exit → Act → World → Prop} {a : Act} {w : World} {rest : List Oper} {o : Oper} (hg : o.guard = none) (m x v : Operand) (t : TypeId) (hop : o.op = .mapUpdate t m x v)
    {k e : TypeId} {d : TypeDesc} (ht : P.underlying t = some (.map k e)) (hd : P.underlying k = some d) {b : Nat} {E : List (Value × Value)} (key val : Value) (hm : a.eval m = .map (some b)) (hx : a.eval x = key) (hv : a.eval v = val) (h : MapE w b d E) (hk : IsKey d key)
    (hK : ∀ w', But b w w' → (((∀ p ∈ E, p.1 ≠ key) ∧ MapE w' b d (E ++ [(key, val)])) ∨ ∃ (j : Nat) (u : Value), E[j]? = some (key, u) ∧ MapE w' b d (E.set j (key, val))) → wpList P ops Q rest (a.put o.dst undef) w') :
    wpList P ops Q (o :: rest) a w := by
  subst hx; subst hv
  exact wpList_put hg m x v t hop ht hd hm h hk hK
end Go.Proofs.YtlhbpflcffjhmaaGreat

namespace Go.Proofs.YtlhbpflcffjhmaaGreat
open Go.RowKit Go.Sort Go.MapKept

theorem intsAt {w : World} {a : Option Addr} {n cap : Nat} {l : List Int} (h : Row w 1 (.slice a n cap) n (l.map (Value.int .i64))) (hn : n = l.length) {k : Nat} (hk : k < l.length) : ∃ B o, a = some ⟨B, o, none⟩ ∧ w.cell? ⟨B, o + k, none⟩ = some (.int .i64 l[k]) := by
  obtain ⟨B, o, rfl⟩ := Row.base h (by omega) (by decide)
  exact ⟨B, o, rfl, Row.cellAt h (by rw [List.getElem?_map, List.getElem?_eq_getElem hk]; rfl) (by omega)⟩
def good (l : List Int) : Prop := (∀ n ∈ l, 0 ≤ n) ∧ l.Nodup
def zG (n : Int) (p : Nat) : LkG := ⟨n, p, .slice none 0 0, .slice none 0 0, .slice none 0 0, [], [], []⟩
def zS (n : Int) : LkS := ⟨n, [], [], []⟩
/-- What New leaves. -/
def NewR (w : World) (l : List Int) (e : Ending) (w' : World) : Prop :=
  Ext w w' ∧ ((good l ∧ l.length ≤ 64 ∧ ∃ bt F, e = .returned (.tuple #[.pointer (some ⟨bt, 0, none⟩), .int .i64 0]) ∧ Sb w.heap.size w' bt F ⟨l.map zS, []⟩) ∨ (¬ (good l ∧ l.length ≤ 64) ∧ e = .returned (.tuple #[.pointer none, .int .i64 1])))
theorem good_snoc {l : List Int} {m : Int} (h : good l) (h0 : 0 ≤ m) (hm : m ∉ l) : good (l ++ [m]) := by
  refine ⟨fun n hn => ?_, ?_⟩
  · rcases List.mem_append.1 hn with hn | hn
    · exact h.1 n hn
    · rw [List.mem_singleton.1 hn]; exact h0
  · rw [List.nodup_append]
    exact ⟨h.2, by simp, fun a ha b hb e => hm (by rw [List.mem_singleton.1 hb] at e; rwa [e] at ha)⟩
theorem good_take {l : List Int} (h : good l) (k : Nat) : good (l.take k) := ⟨fun n hn => h.1 n (List.mem_of_mem_take hn), List.Pairwise.sublist (List.take_sublist ..) h.2⟩
/-- One link more. -/
theorem SubR.more {b bt bm : Nat} {w w1 w2 : World} {gs : List LkG} {vo : Value} {o : List PP} (h : SubR b w bt bm gs vo o) (n : Int) (p : Nat) (hx : Ext w w1) (hp : w.heap.size ≤ p) (hbox : w1.heap[p]? = some (.cells #[.slice none 0 0, .slice none 0 0, .slice none 0 0] 85 (0, 0)))
    (hbut : But bm w1 w2) (hm : MapE w2 bm (.int .i64) (gs.map eLk ++ [(.int .i64 n, .pointer (some ⟨p, 0, none⟩))])) (hb : b ≤ p) (hwf : (Lit.int .i64 n).wf = true) : SubR b w2 bt bm (gs ++ [zG n p]) vo o := by
  have hs := h.ext hx
  have hbm : ∀ k, k ≠ bm → ∀ {ob}, w1.heap[k]? = some ob → w2.heap[k]? = some ob := fun k hk ob ho => (hbut.block k hk).trans ho
  have hne : ∀ {k : Nat} {cs : Array Value} {t : TypeId} {fr : Nat × Nat}, w1.heap[k]? = some (.cells cs t fr) → k ≠ bm := fun hh e => by
    obtain ⟨es, cl, h1, _⟩ := hs.mp
    rw [e, h1] at hh; cases hh
  have hown : ∀ {base size m : Nat} {e : TypeId} {v : Value} {xs : List Value}, w1.ownsRow base e size v m xs → w2.ownsRow base e size v m xs := fun ho => by
    obtain ⟨q1, q2⟩ := ho
    refine ⟨q1, ?_⟩
    rcases q2 with q2 | ⟨g, cap, cur, rfl, hb, hg, rest⟩
    · exact .inl q2
    · exact .inr ⟨g, cap, cur, rfl, hb, hbm g (hne hg) hg, rest⟩
  have hT : ∀ {v : Value} {q : List C}, PredT b w1 v q → PredT b w2 v q := fun ⟨us, e, q1, q2⟩ => ⟨us, e, hown q1, fun x hx => hown (q2 x hx)⟩
  have hrow : ∀ {v : Value} {us : List PP}, RowQ b w1 v us → RowQ b w2 v us := fun hr => ⟨hown hr.own, fun x hx => hT (hr.ps x hx), hr.ok⟩
  refine ⟨hbm bt (hne hs.box) hs.box, by rw [List.map_append]; exact hm, fun g hg => ?_, ?_, hrow hs.own, hs.lo, fun g hg => ?_⟩
  · rcases List.mem_append.1 hg with hg | hg
    · have hl := hs.links g hg
      exact ⟨hbm g.p (hne hl.box) hl.box, hrow hl.c, hrow hl.a, hrow hl.s, hl.lo⟩
    · rw [List.mem_singleton.1 hg]
      exact ⟨hbm p (hne hbox) hbox, RowQ.nil _ _, RowQ.nil _ _, RowQ.nil _ _, hb⟩
  · rw [List.map_append, List.nodup_append]
    refine ⟨hs.ptrs, by simp, fun x hx y hy e => ?_⟩
    obtain ⟨g, hg, rfl⟩ := List.mem_map.1 hx
    have hy : y = p := by simpa [zG] using hy
    have := (Array.getElem?_eq_some_iff.1 (h.links g hg).box).1
    omega
  · rcases List.mem_append.1 hg with hg | hg
    · exact hs.wf g hg
    · rw [List.mem_singleton.1 hg]; exact hwf
set_option maxRecDepth 100000 in
set_option maxHeartbeats 8000000 in
theorem newT_any (w : World) (v : Value) (l : List Int) (hv : Row w 1 v l.length (l.map (Value.int .i64))) (hwf : ∀ n ∈ l, (Lit.int .i64 n).wf = true) (hl : l.length ≤ 1000000) :
    Calls Tryz.prog 13 #[v] w fun e w' => NewR w l e w' := by
  have hmk : (Instr.makeMap 80 none).run Tryz.prog w = .ok (.map (some w.heap.size)) (w.alloc (.map #[] 0)) := run_makeMap (P := Tryz.prog) 80 w
  obtain ⟨va, vc, rfl, hvc, hvm⟩ := Row.shape hv
  have hm0 := MapE.made w (.int .i64)
  have hst : SubR w.heap.size ((w.alloc (.map #[] 0)).alloc (.cells #[.map (some w.heap.size), .slice none 0 0] 82)) (w.heap.size + 1) w.heap.size [] (.slice none 0 0) [] := by
    refine ⟨?_, hm0.ext ((Ext.refl _).alloc _), (fun _ h => by cases h), List.Pairwise.nil, RowQ.nil _ _, ⟨Nat.le_succ _, Nat.le_refl _⟩, (fun _ h => by cases h)⟩
    have := heap_alloc_new (w.alloc (.map #[] 0)) (.cells #[.map (some w.heap.size), .slice none 0 0] 82)
    rwa [World.size_alloc] at this
  have hxs : Ext w ((w.alloc (.map #[] 0)).alloc (.cells #[.map (some w.heap.size), .slice none 0 0] 82)) := ((Ext.refl w).alloc _).alloc _
  obtain ⟨n, hn⟩ : ∃ n, n = l.length := ⟨_, rfl⟩
  rw [← hn] at hvc ⊢
  have HN := Lib.hid hn
  have HV := Lib.hid hv
  rw [← hn] at hl HV
  have HWF := Lib.hid hwf
  have HST := Lib.hid hst
  have HXS := Lib.hid hxs
  unfold maxLen at hvm
  obtain ⟨bm, hbm⟩ : ∃ bm, bm = w.heap.size := ⟨_, rfl⟩
  have HBM := Lib.hid hbm
  clear hv hn hwf hst hxs hm0
  go_enter Tryz.func13, Tryz.ntmps13
  go_upto_region 2 with fail
  rw [← hbm]
  rw [← hbm] at HST HXS
  clear hmk hbm
  generalize (w.alloc (.map #[] 0)).alloc (.cells #[.map (some bm), .slice none 0 0] 82) = ws at *
  go_wp2_with fail
  go_loopw [12] (fun i wr => ∃ (k : Nat) (gs : List LkG), k ≤ n ∧ i = .int .i64 k ∧ Hid (SubR bm wr (bm + 1) bm gs (.slice none 0 0) []) ∧ Hid (gs.map LkG.n = l.take k) ∧ Hid (gs.map LkG.ls = (l.take k).map zS) ∧ Hid (good (l.take k)) ∧ Hid (Ext w wr)) (fun i _ => n - (intOf i).toNat)
  case atStart => exact ⟨0, [], Nat.zero_le _, rfl, HST.out, rfl, rfl, ⟨(fun _ h => by cases h), List.Pairwise.nil⟩, HXS.out⟩
  case round =>
    clear HST HXS
    obtain ⟨k, gs, hk, rfl, hS, hns, hls, hgd, hx⟩ := hrel
    by_cases hlt : k < n
    · have hI : decide ((k : Int) < (n : Int)) = true := decide_eq_true (by omega)
      have hkl : k < l.length := by rw [← HN.out]; exact hlt
      obtain ⟨B, o, rfl, c0⟩ := intsAt (Row.ext HV.out hx.out) HN.out hkl
      have hmem : l[k] ∈ l := List.getElem_mem hkl
      have hwfm := HWF.out _ hmem
      have htk : l.take (k + 1) = l.take k ++ [l[k]] := List.take_succ_eq_append_getElem hkl
      have hnot : (l[k] < 0 ∨ l[k] ∈ l.take k) → ¬ good l := fun hor hg => by
        rcases hor with h | h
        · have := hg.1 _ hmem; omega
        · have h2 := (good_take hg (k + 1)).2
          rw [htk, List.nodup_append] at h2
          exact h2.2.2 _ h _ (by simp) rfl
      generalize l[k] = m at *
      have HTK := Lib.hid htk
      have HNOT := Lib.hid hnot
      have HWM := Lib.hid hwfm
      have n0 := cell_of_row _ _ 0 _ _ _ hS.out.box
      clear htk hnot hwfm hmem
      by_cases h0 : m < 0
      · have d0 : decide (m < 0) = true := decide_eq_true h0
        have hbad := Lib.hid (HNOT.out (.inl h0))
        clear h0
        go_wp2_with fail
        exact bodyPost_ret (v := .tuple #[.pointer none, .int .i64 1]) (by simp [results, Tryz.results13, go_sem]) rfl ⟨hx.out, .inr ⟨fun h => hbad.out h.1, rfl⟩⟩
      · have d0 : decide (m < 0) = false := decide_eq_false h0
        have hlk := fun w1 (hW : Ext wr w1) => hS.out.look m hW
        cases hg : lkG gs m with
        | some g =>
          rw [ptrL_some hg] at hlk
          have hlk0 := hlk wr (Ext.refl _)
          have hin : m ∈ l.take k := by rw [← hns.out, ← (lkG_some hg).2]; exact List.mem_map.2 ⟨g, (lkG_some hg).1, rfl⟩
          have hbad := Lib.hid (HNOT.out (.inr hin))
          generalize g.p = gp at *
          clear h0 hin hg hlk
          go_wp2_with fail
          exact bodyPost_ret (v := .tuple #[.pointer none, .int .i64 1]) (by simp [results, Tryz.results13, go_sem]) rfl ⟨hx.out, .inr ⟨fun h => hbad.out h.1, rfl⟩⟩
        | none =>
          rw [ptrL_none hg] at hlk
          have hlk0 := hlk wr (Ext.refl _)
          have hnin : m ∉ l.take k := fun h => by
            rw [← hns.out] at h
            obtain ⟨g, hg2, e⟩ := List.mem_map.1 h
            exact lkG_none hg g hg2 e
          have hgd2 := good_snoc hgd.out (by omega) hnin
          have HGD := Lib.hid hgd2
          obtain ⟨hxa, hba⟩ := boxes1 wr (.cells #[.slice none 0 0, .slice none 0 0, .slice none 0 0] 85)
          have HXA := Lib.hid hxa
          have HBA := Lib.hid hba
          have hmp : MapE (wr.alloc (.cells #[.slice none 0 0, .slice none 0 0, .slice none 0 0] 85)) bm (.int .i64) (gs.map eLk) := hS.out.mp.ext hxa
          have HMP := Lib.hid hmp
          have HG := Lib.hid hg
          clear h0 hlk hnin hgd2 hxa hba hmp hg
          go_wp2_with (refine wpList_putX rfl (.tmp 30) (.tmp 31) (.tmp 33) 80 rfl Tryz.underlying80 Tryz.underlying3 (.int .i64 m) (.pointer (some ⟨wr.heap.size, 0, none⟩)) rfl rfl rfl HMP.out rfl ?_; intro w6 hbut hput; have HBUT := Lib.hid hbut; have HPUT := Lib.hid hput; clear hbut hput)
          have hput : MapE w6 bm (.int .i64) (gs.map eLk ++ [(.int .i64 m, .pointer (some ⟨wr.heap.size, 0, none⟩))]) := by
            rcases HPUT.out with ⟨_, h⟩ | ⟨j, u, h1, _⟩
            · exact h
            · rw [List.getElem?_map] at h1
              cases hj : gs[j]? with
              | none => rw [hj] at h1; cases h1
              | some g =>
                rw [hj] at h1
                simp only [Option.map_some, eLk, Option.some.injEq, Prod.mk.injEq, Value.int.injEq, true_and] at h1
                exact absurd h1.1 (lkG_none HG.out g (List.mem_of_getElem? hj))
          have hbs : bm ≤ wr.heap.size := by rw [HBM.out]; exact hx.out.size
          have hfin := hS.out.more m wr.heap.size HXA.out (Nat.le_refl _) HBA.out HBUT.out hput hbs HWM.out
          have HF := Lib.hid hfin
          have hext : Ext w w6 := HBUT.out.ext (hx.out.trans HXA.out) (by rw [← HBM.out]; exact Nat.le_refl _)
          have HE := Lib.hid hext
          have HB2 : Hid ((gs ++ [zG m wr.heap.size]).map LkG.n = l.take (k + 1)) := by show _ = _; rw [List.map_append, hns.out, HTK.out]; rfl
          have HB3 : Hid ((gs ++ [zG m wr.heap.size]).map LkG.ls = (l.take (k + 1)).map zS) := by show _ = _; rw [List.map_append, hls.out, HTK.out, List.map_append]; rfl
          have HB4 : Hid (good (l.take (k + 1))) := by show good _; rw [HTK.out]; exact HGD.out
          clear hput hbs hfin hext
          go_roundw
          case rel => exact ⟨k + 1, _, hlt, by go_num, HF.out, HB2.out, HB3.out, HB4.out, HE.out⟩
          case measure => simp [intOf]; omega
    · obtain rfl : k = n := by omega
      have hI : decide ((k : Int) < (k : Int)) = false := decide_eq_false (by omega)
      have htl : l.take k = l := List.take_of_length_le (by rw [← HN.out]; exact Nat.le_refl _)
      have hgood : good l := by have := hgd.out; rwa [htl] at this
      have hsb : Sb bm wr (bm + 1) (footS (bm + 1) gs) ⟨l.map zS, []⟩ := ⟨bm, gs, _, [], hS.out, by rw [hls.out, htl]; rfl, rfl⟩
      have HSB := Lib.hid hsb
      have HGOOD := Lib.hid hgood
      clear htl hgood hsb
      by_cases h64 : 64 < k
      · have d64 : decide ((64 : Int) < (k : Int)) = true := decide_eq_true (by omega)
        have d64N : decide (64 < k) = true := decide_eq_true h64
        have hnl : ¬ (good l ∧ l.length ≤ 64) := fun h => by have := HN.out; omega
        have HNL := Lib.hid hnl
        clear hnl h64
        go_wp2_with fail
        exact bodyPost_ret (v := .tuple #[.pointer none, .int .i64 1]) (by simp [results, Tryz.results13, go_sem]) rfl ⟨hx.out, .inr ⟨HNL.out, rfl⟩⟩
      · have d64 : decide ((64 : Int) < (k : Int)) = false := decide_eq_false (by omega)
        have d64N : decide (64 < k) = false := decide_eq_false h64
        have hll : l.length ≤ 64 := by have := HN.out; omega
        have HLL := Lib.hid hll
        clear hll h64
        go_wp2_with fail
        exact bodyPost_ret (v := .tuple #[.pointer (some ⟨bm + 1, 0, none⟩), .int .i64 0]) (by simp [results, Tryz.results13, go_sem]) rfl ⟨hx.out, .inl ⟨HGOOD.out, HLL.out, bm + 1, _, rfl, by rw [← HBM.out]; exact HSB.out⟩⟩
end Go.Proofs.YtlhbpflcffjhmaaGreat

namespace Go.Proofs.YtlhbpflcffjhmaaGreat
open Go.RowKit

set_option maxRecDepth 100000 in
set_option maxHeartbeats 8000000 in
theorem rwhole_any (w : World) (a b : V) :
    Calls Tryz.prog 175 #[.agg #[.int .i64 a.k, .int .i64 a.n, .string (strOf a.s), .bool a.b], .agg #[.int .i64 b.k, .int .i64 b.n, .string (strOf b.s), .bool b.b]] w fun e w' => e = .returned (.int .i64 (wholeV a b)) ∧ Grew w w' := by
  obtain ⟨hx0, hb1, hb2⟩ := boxes2 w (.cells #[.int .i64 a.k, .int .i64 a.n, .string (strOf a.s), .bool a.b] 61) (.cells #[.int .i64 b.k, .int .i64 b.n, .string (strOf b.s), .bool b.b] 61)
  have hg0 : Grew w ((w.alloc (.cells #[.int .i64 a.k, .int .i64 a.n, .string (strOf a.s), .bool a.b] 61)).alloc (.cells #[.int .i64 b.k, .int .i64 b.n, .string (strOf b.s), .bool b.b] 61)) := ((Grew.refl w).alloc _).alloc _
  have h1 : ∀ W, Calls Tryz.prog 215 #[.agg #[.int .i64 a.k, .int .i64 a.n, .string (strOf a.s), .bool a.b], .agg #[.int .i64 b.k, .int .i64 b.n, .string (strOf b.s), .bool b.b]] W fun e w' => e = .returned (.int .i64 (cmpV a b)) ∧ Grew W w' := fun W => rcompare_any W a.k a.n b.k b.n a.s b.s a.b b.b
  have h2 : ∀ W, Calls Tryz.prog 215 #[.agg #[.int .i64 1, .int .i64 a.n, .string ⟨#[]⟩, .bool false], .agg #[.int .i64 1, .int .i64 b.n, .string ⟨#[]⟩, .bool false]] W fun e w' => e = .returned (.int .i64 (Lib.compareInt a.n b.n)) ∧ Grew W w' := fun W => rcompare_any W 1 a.n 1 b.n [] [] false false
  have h3 : ∀ W, Calls Tryz.prog 215 #[.agg #[.int .i64 2, .int .i64 0, .string (strOf a.s), .bool false], .agg #[.int .i64 2, .int .i64 0, .string (strOf b.s), .bool false]] W fun e w' => e = .returned (.int .i64 (Lib.compareBytes a.s b.s)) ∧ Grew W w' := fun W => rcompare_any W 2 0 2 0 a.s b.s false false
  have h4 : ∀ W, Calls Tryz.prog 215 #[.agg #[.int .i64 3, .int .i64 0, .string ⟨#[]⟩, .bool a.b], .agg #[.int .i64 3, .int .i64 0, .string ⟨#[]⟩, .bool b.b]] W fun e w' => e = .returned (.int .i64 (cmpB a.b b.b)) ∧ Grew W w' := fun W => rcompare_any W 3 0 3 0 [] [] a.b b.b
  have H1 := Lib.hid h1
  have H2 := Lib.hid h2
  have H3 := Lib.hid h3
  have H4 := Lib.hid h4
  have HB1 := Lib.hid hb1
  have HB2 := Lib.hid hb2
  have HG0 := Lib.hid hg0
  have a0 := cell_of_row _ _ 0 _ _ _ hb1
  have a1 := cell_of_row _ _ 1 _ _ _ hb1
  have a2 := cell_of_row _ _ 2 _ _ _ hb1
  have a3 := cell_of_row _ _ 3 _ _ _ hb1
  have b0 := cell_of_row _ _ 0 _ _ _ hb2
  have b1 := cell_of_row _ _ 1 _ _ _ hb2
  have b2 := cell_of_row _ _ 2 _ _ _ hb2
  have b3 := cell_of_row _ _ 3 _ _ _ hb2
  clear h1 h2 h3 h4 hx0 hb1 hb2 hg0
  have hw : wholeV a b = if cmpV a b = 0 then (if Lib.compareInt a.n b.n = 0 then (if Lib.compareBytes a.s b.s = 0 then cmpB a.b b.b else Lib.compareBytes a.s b.s) else Lib.compareInt a.n b.n) else cmpV a b := rfl
  rw [hw]
  clear hw
  generalize cmpV a b = r1 at *
  generalize Lib.compareInt a.n b.n = r2 at *
  generalize Lib.compareBytes a.s b.s = r3 at *
  generalize cmpB a.b b.b = r4 at *
  by_cases z1 : r1 = 0
  · subst z1
    by_cases z2 : r2 = 0
    · subst z2
      by_cases z3 : r3 = 0
      · subst z3
        rw [if_pos rfl, if_pos rfl, if_pos rfl]
        go_enter Tryz.func175, Tryz.ntmps175
        go_upto_region 1 with fail
        generalize (w.alloc (.cells #[.int .i64 a.k, .int .i64 a.n, .string (strOf a.s), .bool a.b] 61)).alloc (.cells #[.int .i64 b.k, .int .i64 b.n, .string (strOf b.s), .bool b.b] 61) = w0 at *
        have HX0 : Hid (Grew w0 w0) := Grew.refl w0
        go_upto_region 2 with (go_at_call 215; (with_reducible refine (H1.out _).mono ?_); rintro e w1 ⟨rfl, hx⟩; have HX1 := Lib.hid (HX0.out.trans hx); clear hx)
        have a1' := HX1.out.1.cell a1
        have b1' := HX1.out.1.cell b1
        go_upto_region 5 with (go_at_call 215; (with_reducible refine (H2.out _).mono ?_); rintro e w2 ⟨rfl, hx⟩; have HX2 := Lib.hid (HX1.out.trans hx); clear hx)
        have a2' := HX2.out.1.cell a2
        have b2' := HX2.out.1.cell b2
        go_upto_region 8 with (go_at_call 215; (with_reducible refine (H3.out _).mono ?_); rintro e w3 ⟨rfl, hx⟩; have HX3 := Lib.hid (HX2.out.trans hx); clear hx)
        have a3' := HX3.out.1.cell a3
        have b3' := HX3.out.1.cell b3
        go_wp2_with (go_at_call 215; (with_reducible refine (H4.out _).mono ?_); rintro e w4 ⟨rfl, hx⟩; have HX4 := Lib.hid (HX3.out.trans hx); clear hx)
        go_ret
        exact ⟨rfl, HG0.out.trans HX4.out⟩
      · have d3 := beq_int_ne z3
        have d3' : (r3 != 0) = true := by simp [z3]
        rw [if_pos rfl, if_pos rfl, if_neg z3]
        clear z3
        go_enter Tryz.func175, Tryz.ntmps175
        go_upto_region 1 with fail
        generalize (w.alloc (.cells #[.int .i64 a.k, .int .i64 a.n, .string (strOf a.s), .bool a.b] 61)).alloc (.cells #[.int .i64 b.k, .int .i64 b.n, .string (strOf b.s), .bool b.b] 61) = w0 at *
        have HX0 : Hid (Grew w0 w0) := Grew.refl w0
        go_upto_region 2 with (go_at_call 215; (with_reducible refine (H1.out _).mono ?_); rintro e w1 ⟨rfl, hx⟩; have HX1 := Lib.hid (HX0.out.trans hx); clear hx)
        have a1' := HX1.out.1.cell a1
        have b1' := HX1.out.1.cell b1
        go_upto_region 5 with (go_at_call 215; (with_reducible refine (H2.out _).mono ?_); rintro e w2 ⟨rfl, hx⟩; have HX2 := Lib.hid (HX1.out.trans hx); clear hx)
        have a2' := HX2.out.1.cell a2
        have b2' := HX2.out.1.cell b2
        go_wp2_with (go_at_call 215; (with_reducible refine (H3.out _).mono ?_); rintro e w3 ⟨rfl, hx⟩; have HX3 := Lib.hid (HX2.out.trans hx); clear hx)
        go_ret
        exact ⟨rfl, HG0.out.trans HX3.out⟩
    · have d2 := beq_int_ne z2
      have d2' : (r2 != 0) = true := by simp [z2]
      rw [if_pos rfl, if_neg z2]
      clear z2
      go_enter Tryz.func175, Tryz.ntmps175
      go_upto_region 1 with fail
      generalize (w.alloc (.cells #[.int .i64 a.k, .int .i64 a.n, .string (strOf a.s), .bool a.b] 61)).alloc (.cells #[.int .i64 b.k, .int .i64 b.n, .string (strOf b.s), .bool b.b] 61) = w0 at *
      have HX0 : Hid (Grew w0 w0) := Grew.refl w0
      go_upto_region 2 with (go_at_call 215; (with_reducible refine (H1.out _).mono ?_); rintro e w1 ⟨rfl, hx⟩; have HX1 := Lib.hid (HX0.out.trans hx); clear hx)
      have a1' := HX1.out.1.cell a1
      have b1' := HX1.out.1.cell b1
      go_wp2_with (go_at_call 215; (with_reducible refine (H2.out _).mono ?_); rintro e w2 ⟨rfl, hx⟩; have HX2 := Lib.hid (HX1.out.trans hx); clear hx)
      go_ret
      exact ⟨rfl, HG0.out.trans HX2.out⟩
  · have d1 := beq_int_ne z1
    have d1' : (r1 != 0) = true := by simp [z1]
    rw [if_neg z1]
    clear z1
    go_enter Tryz.func175, Tryz.ntmps175
    go_upto_region 1 with fail
    generalize (w.alloc (.cells #[.int .i64 a.k, .int .i64 a.n, .string (strOf a.s), .bool a.b] 61)).alloc (.cells #[.int .i64 b.k, .int .i64 b.n, .string (strOf b.s), .bool b.b] 61) = w0 at *
    have HX0 : Hid (Grew w0 w0) := Grew.refl w0
    go_wp2_with (go_at_call 215; (with_reducible refine (H1.out _).mono ?_); rintro e w1 ⟨rfl, hx⟩; have HX1 := Lib.hid (HX0.out.trans hx); clear hx)
    go_ret
    exact ⟨rfl, HG0.out.trans HX1.out⟩
end Go.Proofs.YtlhbpflcffjhmaaGreat

namespace Go.Proofs.YtlhbpflcffjhmaaGreat
open Go.RowKit

theorem cmpI_cases (x y : Int) : (Lib.compareInt x y = -1 ∧ decide (x < y) = true ∧ (x == y) = false) ∨ (x = y ∧ Lib.compareInt x y = 0) ∨ (Lib.compareInt x y = 1 ∧ decide (x < y) = false ∧ (x == y) = false) := by
  unfold Lib.compareInt
  by_cases h1 : x < y
  · exact .inl ⟨by rw [if_pos h1], decide_eq_true h1, beq_eq_false_iff_ne.2 (by omega)⟩
  · by_cases h2 : x > y
    · exact .inr (.inr ⟨by rw [if_neg h1, if_pos h2], decide_eq_false h1, beq_eq_false_iff_ne.2 (by omega)⟩)
    · exact .inr (.inl ⟨by omega, by rw [if_neg h1, if_neg h2]⟩)

set_option maxRecDepth 100000 in
set_option maxHeartbeats 16000000 in
theorem rorder_any (w : World) (a b : C) (sa : Option Addr) (ca : Nat) (sb : Option Addr) (cb : Nat) (ha : SetR w (.slice sa a.set.length ca) a.set) (hb : SetR w (.slice sb b.set.length cb) b.set) :
    Calls Tryz.prog 127 #[.agg #[.string (strOf a.name), .int .i64 a.op, .int .i64 a.v.k, .int .i64 a.v.n, .string (strOf a.v.s), .bool a.v.b, .slice sa a.set.length ca], .agg #[.string (strOf b.name), .int .i64 b.op, .int .i64 b.v.k, .int .i64 b.v.n, .string (strOf b.v.s), .bool b.v.b, .slice sb b.set.length cb]] w fun e w' => e = .returned (.int .i64 (orderC a b)) ∧ Ext w w' := by
  obtain ⟨hx0, hb1, hb2⟩ := boxes2 w (.cells #[.string (strOf a.name), .int .i64 a.op, .int .i64 a.v.k, .int .i64 a.v.n, .string (strOf a.v.s), .bool a.v.b, .slice sa a.set.length ca] 64) (.cells #[.string (strOf b.name), .int .i64 b.op, .int .i64 b.v.k, .int .i64 b.v.n, .string (strOf b.v.s), .bool b.v.b, .slice sb b.set.length cb] 64)
  have hres : orderC a b = if Lib.compareBytes a.name b.name = 0 then (if Lib.compareInt a.op b.op = 0 then (if wholeV a.v b.v = 0 then cmpL wholeV a.set b.set else wholeV a.v b.v) else Lib.compareInt a.op b.op) else Lib.compareBytes a.name b.name := rfl
  rw [hres]
  clear hres
  obtain ⟨hc1, hm1⟩ : a.set.length ≤ ca ∧ ca ≤ maxLen := by obtain ⟨a', c', e, h1, h2⟩ := Row.shape ha; cases e; exact ⟨h1, h2⟩
  obtain ⟨hc2, hm2⟩ : b.set.length ≤ cb ∧ cb ≤ maxLen := by obtain ⟨a', c', e, h1, h2⟩ := Row.shape hb; cases e; exact ⟨h1, h2⟩
  unfold maxLen at hm1 hm2
  have HA := Lib.hid (SetR.ext ha hx0)
  have HB := Lib.hid (SetR.ext hb hx0)
  have HX0 := Lib.hid hx0
  have HWH : Hid (∀ W, Calls Tryz.prog 175 #[.agg #[.int .i64 a.v.k, .int .i64 a.v.n, .string (strOf a.v.s), .bool a.v.b], .agg #[.int .i64 b.v.k, .int .i64 b.v.n, .string (strOf b.v.s), .bool b.v.b]] W fun e w' => e = .returned (.int .i64 (wholeV a.v b.v)) ∧ Grew W w') := fun W => rwhole_any W a.v b.v
  have a0 := cell_of_row _ _ 0 _ _ _ hb1
  have a1 := cell_of_row _ _ 1 _ _ _ hb1
  have a2 := cell_of_row _ _ 2 _ _ _ hb1
  have a3 := cell_of_row _ _ 3 _ _ _ hb1
  have a4 := cell_of_row _ _ 4 _ _ _ hb1
  have a5 := cell_of_row _ _ 5 _ _ _ hb1
  have a6 := cell_of_row _ _ 6 _ _ _ hb1
  have b0 := cell_of_row _ _ 0 _ _ _ hb2
  have b1 := cell_of_row _ _ 1 _ _ _ hb2
  have b2 := cell_of_row _ _ 2 _ _ _ hb2
  have b3 := cell_of_row _ _ 3 _ _ _ hb2
  have b4 := cell_of_row _ _ 4 _ _ _ hb2
  have b5 := cell_of_row _ _ 5 _ _ _ hb2
  have b6 := cell_of_row _ _ 6 _ _ _ hb2
  clear ha hb hx0 hb1 hb2
  rcases bytes_cases a.name b.name with ⟨e1, e2, e3⟩ | ⟨e1, e2, e3⟩ | ⟨e1, e2, e3⟩
  · rw [e1, if_neg (by decide)]
    have e4 : (a.name != b.name) = true := by rw [bne, e3]; rfl
    go_enter Tryz.func127, Tryz.ntmps127
    go_upto_region 1 with fail
    generalize (w.alloc (.cells #[.string (strOf a.name), .int .i64 a.op, .int .i64 a.v.k, .int .i64 a.v.n, .string (strOf a.v.s), .bool a.v.b, .slice sa a.set.length ca] 64)).alloc (.cells #[.string (strOf b.name), .int .i64 b.op, .int .i64 b.v.k, .int .i64 b.v.n, .string (strOf b.v.s), .bool b.v.b, .slice sb b.set.length cb] 64) = w0 at *
    go_wp2_with fail
    go_ret
    exact ⟨rfl, HX0.out⟩
  · rw [e2, if_pos rfl]
    have e4 : (a.name == b.name) = true := by rw [e1]; exact beq_self_eq_true _
    have e5 : (a.name != b.name) = false := by rw [bne, e4]; rfl
    clear e1 e2 e3
    rcases cmpI_cases a.op b.op with ⟨g1, g2, g3⟩ | ⟨g1, g2⟩ | ⟨g1, g2, g3⟩
    · rw [g1, if_neg (by decide)]
      have g4 : (a.op != b.op) = true := by rw [bne, g3]; rfl
      go_enter Tryz.func127, Tryz.ntmps127
      go_upto_region 1 with fail
      generalize (w.alloc (.cells #[.string (strOf a.name), .int .i64 a.op, .int .i64 a.v.k, .int .i64 a.v.n, .string (strOf a.v.s), .bool a.v.b, .slice sa a.set.length ca] 64)).alloc (.cells #[.string (strOf b.name), .int .i64 b.op, .int .i64 b.v.k, .int .i64 b.v.n, .string (strOf b.v.s), .bool b.v.b, .slice sb b.set.length cb] 64) = w0 at *
      go_wp2_with fail
      go_ret
      exact ⟨rfl, HX0.out⟩
    · rw [g2, if_pos rfl]
      have g3 : (a.op == b.op) = true := by rw [g1]; exact beq_self_eq_true _
      have g4 : (a.op != b.op) = false := by rw [bne, g3]; rfl
      clear g1 g2
      generalize wholeV a.v b.v = r3 at *
      by_cases z3 : r3 = 0
      · subst z3
        rw [if_pos rfl]
        generalize hn1 : a.set.length = n1 at *
        generalize hn2 : b.set.length = n2 at *
        have HN1 := Lib.hid hn1
        have HN2 := Lib.hid hn2
        clear hn1 hn2
        go_enter Tryz.func127, Tryz.ntmps127
        go_upto_region 1 with fail
        generalize (w.alloc (.cells #[.string (strOf a.name), .int .i64 a.op, .int .i64 a.v.k, .int .i64 a.v.n, .string (strOf a.v.s), .bool a.v.b, .slice sa n1 ca] 64)).alloc (.cells #[.string (strOf b.name), .int .i64 b.op, .int .i64 b.v.k, .int .i64 b.v.n, .string (strOf b.v.s), .bool b.v.b, .slice sb n2 cb] 64) = w0 at *
        go_upto_region 12 with (go_at_call 175; (with_reducible refine (HWH.out _).mono ?_); rintro e w1 ⟨rfl, hx⟩; have HX1 := Lib.hid hx.1; clear hx)
        go_wp2_with fail
        go_loopw [6] (fun i wr => ∃ k : Nat, k ≤ n1 ∧ k ≤ n2 ∧ i = .int .i64 k ∧ Hid (cmpL wholeV (a.set.drop k) (b.set.drop k) = cmpL wholeV a.set b.set) ∧ Hid (Ext w0 wr)) (fun i _ => n1 - (intOf i).toNat)
        case atStart => exact ⟨0, Nat.zero_le _, Nat.zero_le _, rfl, rfl, HX1.out⟩
        case round =>
          clear HX1
          obtain ⟨k, hk, hkm, rfl, hcm, hx⟩ := hrel
          have q6 := hx.out.cell a6
          have p6 := hx.out.cell b6
          by_cases hlt : k < n1
          · have k1 : k < a.set.length := by rw [HN1.out]; exact hlt
            have hI : decide ((k : Int) < (n1 : Int)) = true := decide_eq_true (by omega)
            have hkN : (k : Int) < (n1 : Int) := by omega
            by_cases hlm : k < n2
            · have k2 : k < b.set.length := by rw [HN2.out]; exact hlm
              have hI2 : decide ((k : Int) < (n2 : Int)) = true := decide_eq_true (by omega)
              have hkM : (k : Int) < (n2 : Int) := by omega
              obtain ⟨B1, o1, rfl, f0, f1, f2, f3⟩ := SetR.at (SetR.ext HA.out hx.out) k1
              obtain ⟨B2, o2, rfl, g0, g1, g2, g3⟩ := SetR.at (SetR.ext HB.out hx.out) k2
              have hcall := fun W => rwhole_any W a.set[k] b.set[k]
              have hst : wholeV a.set[k] b.set[k] = 0 → cmpL wholeV (a.set.drop (k + 1)) (b.set.drop (k + 1)) = cmpL wholeV a.set b.set := fun h => by rw [← cmpL_step k1 k2 h, hcm.out]
              have hsp : wholeV a.set[k] b.set[k] ≠ 0 → cmpL wholeV a.set b.set = wholeV a.set[k] b.set[k] := fun h => by rw [← hcm.out, cmpL_stop k1 k2 h]
              have HCALL := Lib.hid hcall
              have HST := Lib.hid hst
              have HSP := Lib.hid hsp
              clear hcall hst hsp
              generalize a.set[k] = x at *
              generalize b.set[k] = y at *
              go_upto_region 15 with fail
              refine wp_region_facts [Fact.eq (.pointer (some ⟨w.heap.size, 6, none⟩)),
                  Fact.eq (.slice (some ⟨B1, o1, none⟩) n1 ca),
                  Fact.eq (.int .i64 k),
                  Fact.eq (.pointer (some ⟨B1, o1 + k * 4, none⟩)),
                  Fact.eq (.agg #[.int .i64 x.k, .int .i64 x.n, .string (strOf x.s), .bool x.b]),
                  Fact.eq (.pointer (some ⟨w.heap.size + 1, 6, none⟩)),
                  Fact.eq (.slice (some ⟨B2, o2, none⟩) n2 cb),
                  Fact.eq (.int .i64 k),
                  Fact.eq (.pointer (some ⟨B2, o2 + k * 4, none⟩)),
                  Fact.eq (.agg #[.int .i64 y.k, .int .i64 y.n, .string (strOf y.s), .bool y.b]),
                  Fact.eq (.int .i64 (wholeV x y)),
                  Fact.eq (.int .i64 (wholeV x y))]
                [[], [(0, 49)], [], [(1, 50), (2, 51)], [(3, 52)], [], [(5, 54)], [], [(6, 55), (7, 56)], [(8, 57)], [(4, 53), (9, 58)], [(10, 59)]]
                [(0, 49), (1, 50), (2, 51), (3, 52), (4, 53), (5, 54), (6, 55), (7, 56), (8, 57), (9, 58), (10, 59), (11, 5)] (by kernel_rfl) (by kernel_rfl) ?_ ?_
              · refine ⟨?_, ?_, ?_, ?_, ?_, ?_, ?_, ?_, ?_, ?_, ?_, ?_, trivial⟩
                · intro w1 hx1; change wpList _ _ _ _ _ _; go_wp2_with fail; exact ⟨rfl, Ext.refl _, rfl, rfl⟩
                · intro w1 hx1; rintro _ rfl; change wpList _ _ _ _ _ _; have m := hx1.cell q6; go_wp2_with fail; exact ⟨rfl, Ext.refl _, rfl, rfl⟩
                · intro w1 hx1; change wpList _ _ _ _ _ _; exact ob_move rfl rfl rfl rfl rfl
                · intro w1 hx1; rintro _ rfl; rintro _ rfl; change wpList _ _ _ _ _ _; go_wp2_with fail; exact ⟨rfl, Ext.refl _, rfl, rfl⟩
                · intro w1 hx1; rintro _ rfl; change wpList _ _ _ _ _ _; have m0 := hx1.cell f0; have m1 := hx1.cell f1; have m2 := hx1.cell f2; have m3 := hx1.cell f3; go_wp2_with fail; exact ⟨rfl, Ext.refl _, rfl, rfl⟩
                · intro w1 hx1; change wpList _ _ _ _ _ _; go_wp2_with fail; exact ⟨rfl, Ext.refl _, rfl, rfl⟩
                · intro w1 hx1; rintro _ rfl; change wpList _ _ _ _ _ _; have m := hx1.cell p6; go_wp2_with fail; exact ⟨rfl, Ext.refl _, rfl, rfl⟩
                · intro w1 hx1; change wpList _ _ _ _ _ _; exact ob_move rfl rfl rfl rfl rfl
                · intro w1 hx1; rintro _ rfl; rintro _ rfl; change wpList _ _ _ _ _ _; go_wp2_with fail; exact ⟨rfl, Ext.refl _, rfl, rfl⟩
                · intro w1 hx1; rintro _ rfl; change wpList _ _ _ _ _ _; have m0 := hx1.cell g0; have m1 := hx1.cell g1; have m2 := hx1.cell g2; have m3 := hx1.cell g3; go_wp2_with fail; exact ⟨rfl, Ext.refl _, rfl, rfl⟩
                · intro w1 hx1; rintro _ rfl; rintro _ rfl; change wpList _ _ _ _ _ _; go_wp2_with fail; (with_reducible refine (HCALL.out _).mono ?_); rintro e w2 ⟨rfl, hx2⟩; go_wp2_with fail; exact ⟨rfl, hx2.1, rfl, rfl⟩
                · intro w1 hx1; rintro _ rfl; change wpList _ _ _ _ _ _; exact ob_assign rfl rfl rfl rfl rfl
              · intro w1 hx1; rintro _ rfl; rintro _ rfl; rintro _ rfl; rintro _ rfl; rintro _ rfl; rintro _ rfl; rintro _ rfl; rintro _ rfl; rintro _ rfl; rintro _ rfl; rintro _ rfl; rintro _ rfl; refine depsThen_nil ?_; dsimp only; simp only [Act.put, List.setIfInBounds_toArray, List.set_cons_zero, List.set_cons_succ]
                have HX2 := Lib.hid (hx.out.trans hx1)
                clear q6 p6 f0 f1 f2 f3 g0 g1 g2 g3 hx1 hx HCALL
                by_cases hz : wholeV x y = 0
                · have hres := Lib.hid (HST.out hz)
                  rw [hz]
                  clear hz HST HSP
                  go_wp2_with fail
                  go_roundw
                  case rel => exact ⟨k + 1, hlt, hlm, by go_num, hres.out, HX2.out⟩
                  case measure => simp [intOf]; omega
                · have hres := Lib.hid (HSP.out hz)
                  have hd : (wholeV x y != 0) = true := by simp [hz]
                  have hd1 := beq_int_ne hz
                  clear HST HSP hz
                  generalize wholeV x y = r at *
                  go_wp2_with fail
                  go_ret
                  exact ⟨by rw [hres.out]; rfl, HX0.out.trans HX2.out⟩
            · obtain rfl : k = n2 := by omega
              have hI2 : decide ((k : Int) < (k : Int)) = false := decide_eq_false (by omega)
              have hI3 : decide ((n1 : Int) < (k : Int)) = false := decide_eq_false (by omega)
              have hres : Hid (cmpL wholeV a.set b.set = 1) := by show _ = _; rw [← hcm.out, cmpL_more k1 (by rw [HN2.out]; omega)]
              go_wp2_with fail
              go_ret
              exact ⟨by rw [hres.out]; rfl, HX0.out.trans hx.out⟩
          · obtain rfl : k = n1 := by omega
            have hI : decide ((k : Int) < (k : Int)) = false := decide_eq_false (by omega)
            by_cases hlm : k < n2
            · have hI2 : decide ((k : Int) < (n2 : Int)) = true := decide_eq_true (by omega)
              have hres : Hid (cmpL wholeV a.set b.set = -1) := by show _ = _; rw [← hcm.out, cmpL_less (by rw [HN1.out]; omega) (by rw [HN2.out]; exact hlm)]
              go_wp2_with fail
              go_ret
              exact ⟨by rw [hres.out]; rfl, HX0.out.trans hx.out⟩
            · obtain rfl : k = n2 := by omega
              have hres : Hid (cmpL wholeV a.set b.set = 0) := by show _ = _; rw [← hcm.out, cmpL_same (by rw [HN1.out]; omega) (by rw [HN2.out]; omega)]
              go_wp2_with fail
              go_ret
              exact ⟨by rw [hres.out]; rfl, HX0.out.trans hx.out⟩
      · have d3 := beq_int_ne z3
        have d3' : (r3 != 0) = true := by simp [z3]
        rw [if_neg z3]
        clear z3
        go_enter Tryz.func127, Tryz.ntmps127
        go_upto_region 1 with fail
        generalize (w.alloc (.cells #[.string (strOf a.name), .int .i64 a.op, .int .i64 a.v.k, .int .i64 a.v.n, .string (strOf a.v.s), .bool a.v.b, .slice sa a.set.length ca] 64)).alloc (.cells #[.string (strOf b.name), .int .i64 b.op, .int .i64 b.v.k, .int .i64 b.v.n, .string (strOf b.v.s), .bool b.v.b, .slice sb b.set.length cb] 64) = w0 at *
        go_wp2_with (go_at_call 175; (with_reducible refine (HWH.out _).mono ?_); rintro e w1 ⟨rfl, hx⟩; have HX1 := Lib.hid hx.1; clear hx)
        go_ret
        exact ⟨rfl, HX0.out.trans HX1.out⟩
    · rw [g1, if_neg (by decide)]
      have g4 : (a.op != b.op) = true := by rw [bne, g3]; rfl
      go_enter Tryz.func127, Tryz.ntmps127
      go_upto_region 1 with fail
      generalize (w.alloc (.cells #[.string (strOf a.name), .int .i64 a.op, .int .i64 a.v.k, .int .i64 a.v.n, .string (strOf a.v.s), .bool a.v.b, .slice sa a.set.length ca] 64)).alloc (.cells #[.string (strOf b.name), .int .i64 b.op, .int .i64 b.v.k, .int .i64 b.v.n, .string (strOf b.v.s), .bool b.v.b, .slice sb b.set.length cb] 64) = w0 at *
      go_wp2_with fail
      go_ret
      exact ⟨rfl, HX0.out⟩
  · rw [e1, if_neg (by decide)]
    have e4 : (a.name != b.name) = true := by rw [bne, e3]; rfl
    go_enter Tryz.func127, Tryz.ntmps127
    go_upto_region 1 with fail
    generalize (w.alloc (.cells #[.string (strOf a.name), .int .i64 a.op, .int .i64 a.v.k, .int .i64 a.v.n, .string (strOf a.v.s), .bool a.v.b, .slice sa a.set.length ca] 64)).alloc (.cells #[.string (strOf b.name), .int .i64 b.op, .int .i64 b.v.k, .int .i64 b.v.n, .string (strOf b.v.s), .bool b.v.b, .slice sb b.set.length cb] 64) = w0 at *
    go_wp2_with fail
    go_ret
    exact ⟨rfl, HX0.out⟩
end Go.Proofs.YtlhbpflcffjhmaaGreat

namespace Go.Proofs.YtlhbpflcffjhmaaGreat
open Go.RowKit

set_option maxRecDepth 100000 in
set_option maxHeartbeats 16000000 in
theorem rpcompare_any (w : World) (v1 v2 : Value) (p q : List C) (h1 : PredR w v1 p) (h2 : PredR w v2 q) :
    Calls Tryz.prog 90 #[v1, v2] w fun e w' => e = .returned (.int .i64 (cmpP p q)) ∧ Ext w w' := by
  obtain ⟨a1, ca, rfl, hc1, hm1⟩ := h1.shape
  obtain ⟨a2, cb, rfl, hc2, hm2⟩ := h2.shape
  unfold maxLen at hm1 hm2
  have HA := Lib.hid h1
  have HB := Lib.hid h2
  generalize hn1 : p.length = n1 at *
  generalize hn2 : q.length = n2 at *
  have HN1 := Lib.hid hn1
  have HN2 := Lib.hid hn2
  clear hn1 hn2 h1 h2
  unfold cmpP
  go_enter Tryz.func90, Tryz.ntmps90
  go_wp2_with fail
  go_loopw [5] (fun i wr => ∃ k : Nat, k ≤ n1 ∧ k ≤ n2 ∧ i = .int .i64 k ∧ Hid (cmpL orderC (p.drop k) (q.drop k) = cmpL orderC p q) ∧ Hid (Ext w wr)) (fun i _ => n1 - (intOf i).toNat)
  case atStart => exact ⟨0, Nat.zero_le _, Nat.zero_le _, rfl, rfl, Ext.refl w⟩
  case round =>
    obtain ⟨k, hk, hkm, rfl, hcm, hx⟩ := hrel
    by_cases hlt : k < n1
    · have k1 : k < p.length := by rw [HN1.out]; exact hlt
      have hI : decide ((k : Int) < (n1 : Int)) = true := decide_eq_true (by omega)
      have hkN : (k : Int) < (n1 : Int) := by omega
      by_cases hlm : k < n2
      · have k2 : k < q.length := by rw [HN2.out]; exact hlm
        have hI2 : decide ((k : Int) < (n2 : Int)) = true := decide_eq_true (by omega)
        have hkM : (k : Int) < (n2 : Int) := by omega
        obtain ⟨B1, o1, sa, sc, rfl, f0, f1, f2, f3, f4, f5, f6, fs⟩ := (HA.out.ext hx.out).at k1
        obtain ⟨B2, o2, ta, tc, rfl, g0, g1, g2, g3, g4, g5, g6, gs⟩ := (HB.out.ext hx.out).at k2
        have hst : orderC p[k] q[k] = 0 → cmpL orderC (p.drop (k + 1)) (q.drop (k + 1)) = cmpL orderC p q := fun h => by rw [← cmpL_step k1 k2 h, hcm.out]
        have hsp : orderC p[k] q[k] ≠ 0 → cmpL orderC p q = orderC p[k] q[k] := fun h => by rw [← hcm.out, cmpL_stop k1 k2 h]
        have HST := Lib.hid hst
        have HSP := Lib.hid hsp
        have FS := Lib.hid fs
        have GS := Lib.hid gs
        clear hst hsp fs gs
        generalize p[k] = x at *
        generalize q[k] = y at *
        go_upto_region 4 with fail
        refine wp_region_facts [Fact.eq (.slice (some ⟨B1, o1, none⟩) n1 ca),
            Fact.eq (.int .i64 k),
            Fact.eq (.pointer (some ⟨B1, o1 + k * 7, none⟩)),
            Fact.eq (.agg #[.string (strOf x.name), .int .i64 x.op, .int .i64 x.v.k, .int .i64 x.v.n, .string (strOf x.v.s), .bool x.v.b, .slice sa x.set.length sc]),
            Fact.eq (.slice (some ⟨B2, o2, none⟩) n2 cb),
            Fact.eq (.int .i64 k),
            Fact.eq (.pointer (some ⟨B2, o2 + k * 7, none⟩)),
            Fact.eq (.agg #[.string (strOf y.name), .int .i64 y.op, .int .i64 y.v.k, .int .i64 y.v.n, .string (strOf y.v.s), .bool y.v.b, .slice ta y.set.length tc]),
            Fact.eq (.int .i64 (orderC x y)),
            Fact.eq (.int .i64 (orderC x y))]
          [[], [], [(0, 19), (1, 20)], [(2, 21)], [], [], [(4, 23), (5, 24)], [(6, 25)], [(3, 22), (7, 26)], [(8, 27)]]
          [(0, 19), (1, 20), (2, 21), (3, 22), (4, 23), (5, 24), (6, 25), (7, 26), (8, 27), (9, 6)] (by kernel_rfl) (by kernel_rfl) ?_ ?_
        · refine ⟨?_, ?_, ?_, ?_, ?_, ?_, ?_, ?_, ?_, ?_, trivial⟩
          · intro w1 hx1; change wpList _ _ _ _ _ _; exact ob_move rfl rfl rfl rfl rfl
          · intro w1 hx1; change wpList _ _ _ _ _ _; exact ob_move rfl rfl rfl rfl rfl
          · intro w1 hx1; rintro _ rfl; rintro _ rfl; change wpList _ _ _ _ _ _; go_wp2_with fail; exact ⟨rfl, Ext.refl _, rfl, rfl⟩
          · intro w1 hx1; rintro _ rfl; change wpList _ _ _ _ _ _; have m0 := hx1.cell f0; have m1 := hx1.cell f1; have m2 := hx1.cell f2; have m3 := hx1.cell f3; have m4 := hx1.cell f4; have m5 := hx1.cell f5; have m6 := hx1.cell f6; go_wp2_with fail; exact ⟨rfl, Ext.refl _, rfl, rfl⟩
          · intro w1 hx1; change wpList _ _ _ _ _ _; exact ob_move rfl rfl rfl rfl rfl
          · intro w1 hx1; change wpList _ _ _ _ _ _; exact ob_move rfl rfl rfl rfl rfl
          · intro w1 hx1; rintro _ rfl; rintro _ rfl; change wpList _ _ _ _ _ _; go_wp2_with fail; exact ⟨rfl, Ext.refl _, rfl, rfl⟩
          · intro w1 hx1; rintro _ rfl; change wpList _ _ _ _ _ _; have m0 := hx1.cell g0; have m1 := hx1.cell g1; have m2 := hx1.cell g2; have m3 := hx1.cell g3; have m4 := hx1.cell g4; have m5 := hx1.cell g5; have m6 := hx1.cell g6; go_wp2_with fail; exact ⟨rfl, Ext.refl _, rfl, rfl⟩
          · intro w1 hx1; rintro _ rfl; rintro _ rfl; change wpList _ _ _ _ _ _; go_wp2_with fail; (with_reducible refine (rorder_any w1 x y sa sc ta tc (SetR.ext FS.out hx1) (SetR.ext GS.out hx1)).mono ?_); rintro e w2 ⟨rfl, hx2⟩; go_wp2_with fail; exact ⟨rfl, hx2, rfl, rfl⟩
          · intro w1 hx1; rintro _ rfl; change wpList _ _ _ _ _ _; exact ob_assign rfl rfl rfl rfl rfl
        · intro w1 hx1; rintro _ rfl; rintro _ rfl; rintro _ rfl; rintro _ rfl; rintro _ rfl; rintro _ rfl; rintro _ rfl; rintro _ rfl; rintro _ rfl; rintro _ rfl; refine depsThen_nil ?_; dsimp only; simp only [Act.put, List.setIfInBounds_toArray, List.set_cons_zero, List.set_cons_succ]
          have HX2 := Lib.hid (hx.out.trans hx1)
          clear f0 f1 f2 f3 f4 f5 f6 g0 g1 g2 g3 g4 g5 g6 hx1 hx FS GS
          by_cases hz : orderC x y = 0
          · have hres := Lib.hid (HST.out hz)
            rw [hz]
            clear hz HST HSP
            go_wp2_with fail
            go_roundw
            case rel => exact ⟨k + 1, hlt, hlm, by go_num, hres.out, HX2.out⟩
            case measure => simp [intOf]; omega
          · have hres := Lib.hid (HSP.out hz)
            have hd : (orderC x y != 0) = true := by simp [hz]
            have hd1 := beq_int_ne hz
            clear HST HSP hz
            generalize orderC x y = r at *
            go_wp2_with fail
            go_ret
            exact ⟨by rw [hres.out]; rfl, HX2.out⟩
      · obtain rfl : k = n2 := by omega
        have hI2 : decide ((k : Int) < (k : Int)) = false := decide_eq_false (by omega)
        have hI3 : decide ((n1 : Int) < (k : Int)) = false := decide_eq_false (by omega)
        have hres : Hid (cmpL orderC p q = 1) := by show _ = _; rw [← hcm.out, cmpL_more k1 (by rw [HN2.out]; omega)]
        go_wp2_with fail
        go_ret
        exact ⟨by rw [hres.out]; rfl, hx.out⟩
    · obtain rfl : k = n1 := by omega
      have hI : decide ((k : Int) < (k : Int)) = false := decide_eq_false (by omega)
      by_cases hlm : k < n2
      · have hI2 : decide ((k : Int) < (n2 : Int)) = true := decide_eq_true (by omega)
        have hres : Hid (cmpL orderC p q = -1) := by show _ = _; rw [← hcm.out, cmpL_less (by rw [HN1.out]; omega) (by rw [HN2.out]; exact hlm)]
        go_wp2_with fail
        go_ret
        exact ⟨by rw [hres.out]; rfl, hx.out⟩
      · obtain rfl : k = n2 := by omega
        have hres : Hid (cmpL orderC p q = 0) := by show _ = _; rw [← hcm.out, cmpL_same (by rw [HN1.out]; omega) (by rw [HN2.out]; omega)]
        go_wp2_with fail
        go_ret
        exact ⟨by rw [hres.out]; rfl, hx.out⟩

theorem rpsame_any (w : World) (v1 v2 : Value) (p q : List C) (h1 : PredR w v1 p) (h2 : PredR w v2 q) :
    Calls Tryz.prog 42 #[v1, v2] w fun e w' => e = .returned (.bool (cmpP p q == 0)) ∧ Ext w w' := by
  have hc := rpcompare_any w v1 v2 p q h1 h2
  obtain ⟨a1, ca, rfl, _, _⟩ := h1.shape
  obtain ⟨a2, cb, rfl, _, _⟩ := h2.shape
  have HC := Lib.hid hc
  clear hc h1 h2
  generalize p.length = n1 at *
  generalize q.length = n2 at *
  go_enter Tryz.func42, Tryz.ntmps42
  go_wp2_with (go_at_call 90; (with_reducible refine HC.out.mono ?_); rintro e w2 ⟨rfl, hx2⟩; have HX2 := Lib.hid hx2; clear hx2)
  go_ret
  exact ⟨rfl, HX2.out⟩
end Go.Proofs.YtlhbpflcffjhmaaGreat

namespace Go.Proofs.YtlhbpflcffjhmaaGreat
open Go.RowKit Go.Sort

theorem set_lit (w : World) (l : List V) (hm : l.length ≤ maxLen) : SetR (w.alloc (.cells (l.flatMap vC).toArray 61)) (.slice (some ⟨w.heap.size, 0, none⟩) l.length l.length) l :=
  Row.of_own (World.ownsRow_lit (base := w.heap.size) (e := 61) (size := 4) w (l.flatMap vC).toArray l.length (Nat.le_refl _) hm (by simp only [List.size_toArray]; exact flat_len vC 4 vC_len l))
theorem pred_lit (w : World) (us : List CS) (hm : us.length ≤ maxLen) (hs : ∀ x ∈ us, SetR w x.h x.c.set) : PredR (w.alloc (.cells (us.flatMap csC).toArray 64)) (.slice (some ⟨w.heap.size, 0, none⟩) us.length us.length) (us.map CS.c) :=
  PredR.mk us (Row.of_own (World.ownsRow_lit (base := w.heap.size) (e := 64) (size := 7) w (us.flatMap csC).toArray us.length (Nat.le_refl _) hm (by simp only [List.size_toArray]; exact flat_len csC 7 csC_len us))) fun x hx => (hs x hx).ext ((Ext.refl w).alloc _)
theorem attr_lit (w : World) (l : List (List UInt8 × V)) (hm : l.length ≤ maxLen) : AttrR (w.alloc (.cells (l.flatMap aC).toArray 167)) (.slice (some ⟨w.heap.size, 0, none⟩) l.length l.length) l :=
  Row.of_own (World.ownsRow_lit (base := w.heap.size) (e := 167) (size := 5) w (l.flatMap aC).toArray l.length (Nat.le_refl _) hm (by simp only [List.size_toArray]; exact flat_len aC 5 aC_len l))

set_option maxRecDepth 100000 in
theorem lawN_any (w : World) (n : Int) : Calls Tryz.prog 58 #[.int .i64 n] w fun e w' => e = .returned (.agg #[.int .i64 1, .int .i64 n, .string ⟨#[]⟩, .bool false]) ∧ Ext w w' := by
  go_enter Tryz.func58, Tryz.ntmps58
  go_wp2
  have hR := heap_alloc_new w (.cells #[.int .i64 1, .int .i64 n, .string ⟨#[]⟩, .bool false] 61)
  have r0 := cell_of_row _ _ 0 _ _ _ hR
  have r1 := cell_of_row _ _ 1 _ _ _ hR
  have r2 := cell_of_row _ _ 2 _ _ _ hR
  have r3 := cell_of_row _ _ 3 _ _ _ hR
  refine bodyPost_ret (v := .agg #[.int .i64 1, .int .i64 n, .string ⟨#[]⟩, .bool false]) (by simp [results, Tryz.results58, go_sem, r0, r1, r2, r3]) rfl ⟨rfl, (Ext.refl w).alloc _⟩
def vN1 (n : Int) : V := ⟨1, n, [], false⟩
def aP : List C := [⟨[97], 7, vN1 5, []⟩, ⟨[97], 4, vN1 9, []⟩]
def aQ : List C := [⟨[98], 1, ⟨0, 0, [], false⟩, []⟩, ⟨[97], 9, ⟨0, 0, [], false⟩, [vN1 2, vN1 1, vN1 2]⟩, ⟨[98], 1, ⟨0, 0, [], false⟩, []⟩]
def aR : List C := [⟨[97], 9, ⟨0, 0, [], false⟩, [vN1 1, vN1 2]⟩, ⟨[98], 1, ⟨0, 0, [], false⟩, []⟩]
theorem aQ_may : mayP aQ = true := by kernel_rfl
theorem aQ_norm : normP aQ = aR := by kernel_rfl
theorem aR_same : decide (cmpP (normP aQ) aR = 0) = true := by kernel_rfl
theorem aP1 : matchP aP [([97], vN1 5)] = true := by kernel_rfl
theorem aP2 : matchP aP [([97], vN1 9)] = false := by kernel_rfl
theorem aP3 : matchP aP [([97], ⟨2, 0, [53], false⟩)] = false := by kernel_rfl
theorem aP4 : matchP aP [] = false := by kernel_rfl

end Go.Proofs.YtlhbpflcffjhmaaGreat
