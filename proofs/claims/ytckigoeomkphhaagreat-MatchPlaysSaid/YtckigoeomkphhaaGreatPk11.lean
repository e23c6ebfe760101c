/- DERIVED: THE SHELF's CONTRACTS AT THIS DUMP, IN PLAIN WORDS (tools/lay-plain.mjs out of 'TryzShelfI.lean', which tools/lay-shelf.mjs wrote): THE SAME DECLARATIONS UNDER THE SAME YtckigoeomkphhaaGreatS: 'import', 'namespace', 'open', 'def', 'theorem' AND NOTHING ELSE: no command of the shelf's: FOR A HAND-IN. Each laying: the table of numbers ('.._ren') and one theorem, a field a fact of the dump's own or the kernel's comparison; each contract: ONE APPLICATION.
DERIVED: THE SHELF's CONTRACTS AT THIS DUMP, IN PLAIN WORDS (tools/lay-plain.mjs out of 'YtckigoeomkphhaaGreatMkRaw.lean', which tools/lay-shelf.mjs wrote): THE SAME DECLARATIONS UNDER THE SAME YtckigoeomkphhaaGreatS: 'import', 'namespace', 'open', 'def', 'theorem' AND NOTHING ELSE: no command of the shelf's: FOR A HAND-IN. Each laying: the table of numbers ('.._ren') and one theorem, a field a fact of the dump's own or the kernel's comparison; each contract: ONE APPLICATION.
slices.Sorted(maps.Keys(m)) at a map of ints told by its entries (over Mk, laid).
An index of predicates (08): Add.
An index of predicates (08): its closures; Ids, Get, Looks, Match.
An index of predicates (08): Ids, Get, Looks, Match.
An index of predicates (08): Looks, Match. -/
import Derived.Shelf.Sort.Plain
import Derived.Shelf.Slices.In.SortNone
import Derived.Test.YtckigoeomkphhaaGreatProg
import Derived.Shelf.SlIterI.Nil
import Derived.Shelf.SlIterI.Sorted
import Derived.Test.YtckigoeomkphhaaGreatPk2
import Derived.Test.YtckigoeomkphhaaGreatPk10
namespace Go.Proofs
open Go.Shelf
def Tryz.lays189_ren : Go.Shelf.Ren := ⟨fun | 189 => 59 | 125 => 74 | 257 => 99 | 128 => 118 | 129 => 119 | 294 => 125 | 295 => 126 | 296 => 127 | 297 => 128 | 298 => 129 | 299 => 130 | 216 => 131 | 300 => 132 | 301 => 133 | 328 => 150 | 329 => 137 | 330 => 138 | 331 => 151 | 332 => 152 | 215 => 120 | 343 => 157 | n => n, fun | 28 => 30 | 3 => 3 | 46 => 118 | 0 => 0 | 51 => 144 | 53 => 146 | 4 => 4 | 183 => 137 | 182 => 136 | 131 => 141 | 5 => 5 | 9 => 9 | 218 => 155 | 222 => 159 | 228 => 168 | 229 => 169 | n => n, fun | n => n⟩
theorem Tryz.lays189 : Go.Proofs.Lays.n189 Tryz.prog Tryz.lays189_ren := {
  mixed := by kernel_rfl
  f125 := Tryz.func74.trans (congrArg some (by kernel_rfl))
  f128 := Tryz.func118.trans (congrArg some (by kernel_rfl))
  f129 := Tryz.func119.trans (congrArg some (by kernel_rfl))
  f189 := Tryz.func59.trans (congrArg some (by kernel_rfl))
  f215 := Tryz.func120.trans (congrArg some (by kernel_rfl))
  f216 := Tryz.func131.trans (congrArg some (by kernel_rfl))
  f257 := Tryz.func99.trans (congrArg some (by kernel_rfl))
  f294 := Tryz.func125.trans (congrArg some (by kernel_rfl))
  f295 := Tryz.func126.trans (congrArg some (by kernel_rfl))
  f296 := Tryz.func127.trans (congrArg some (by kernel_rfl))
  f297 := Tryz.func128.trans (congrArg some (by kernel_rfl))
  f298 := Tryz.func129.trans (congrArg some (by kernel_rfl))
  f299 := Tryz.func130.trans (congrArg some (by kernel_rfl))
  f300 := Tryz.func132.trans (congrArg some (by kernel_rfl))
  f301 := Tryz.func133.trans (congrArg some (by kernel_rfl))
  f328 := Tryz.func150.trans (congrArg some (by kernel_rfl))
  f329 := Tryz.func137.trans (congrArg some (by kernel_rfl))
  f330 := Tryz.func138.trans (congrArg some (by kernel_rfl))
  f331 := Tryz.func151.trans (congrArg some (by kernel_rfl))
  f332 := Tryz.func152.trans (congrArg some (by kernel_rfl))
  f343 := Tryz.func157.trans (congrArg some (by kernel_rfl))
  t0 := Tryz.underlying0
  a0 := Tryz.isAgg0
  z0 := Tryz.sizeOf0
  v0 := Tryz.zeroValue0
  t3 := Tryz.underlying3
  a3 := Tryz.isAgg3
  z3 := Tryz.sizeOf3
  v3 := Tryz.zeroValue3
  t4 := Tryz.underlying4
  a4 := Tryz.isAgg4
  z4 := Tryz.sizeOf4
  v4 := Tryz.zeroValue4
  t5 := Tryz.underlying5
  a5 := Tryz.isAgg5
  z5 := Tryz.sizeOf5
  v5 := Tryz.zeroValue5
  t9 := Tryz.underlying9
  a9 := Tryz.isAgg9
  z9 := Tryz.sizeOf9
  v9 := Tryz.zeroValue9
  t28 := Tryz.underlying30
  a28 := Tryz.isAgg30
  z28 := Tryz.sizeOf30
  v28 := Tryz.zeroValue30
  t46 := Tryz.underlying118
  a46 := Tryz.isAgg118
  z46 := Tryz.sizeOf118
  v46 := Tryz.zeroValue118
  t51 := Tryz.underlying144
  a51 := Tryz.isAgg144
  z51 := Tryz.sizeOf144
  v51 := Tryz.zeroValue144
  t53 := Tryz.underlying146
  a53 := Tryz.isAgg146
  z53 := Tryz.sizeOf146
  v53 := Tryz.zeroValue146
  t131 := Tryz.underlying141
  a131 := Tryz.isAgg141
  z131 := Tryz.sizeOf141
  v131 := Tryz.zeroValue141
  t182 := Tryz.underlying136
  a182 := Tryz.isAgg136
  z182 := Tryz.sizeOf136
  v182 := Tryz.zeroValue136
  t183 := Tryz.underlying137
  a183 := Tryz.isAgg137
  z183 := Tryz.sizeOf137
  v183 := Tryz.zeroValue137
  t218 := Tryz.underlying155
  a218 := Tryz.isAgg155
  z218 := Tryz.sizeOf155
  v218 := Tryz.zeroValue155
  t222 := Tryz.underlying159
  a222 := Tryz.isAgg159
  z222 := Tryz.sizeOf159
  v222 := Tryz.zeroValue159
  t228 := Tryz.underlying168
  a228 := Tryz.isAgg168
  z228 := Tryz.sizeOf168
  v228 := Tryz.zeroValue168
  t229 := Tryz.underlying169
  a229 := Tryz.isAgg169
  z229 := Tryz.sizeOf169
  v229 := Tryz.zeroValue169 }
open Go.Sort Go.RowKit in
theorem Tryz.slices_Sort_int (blk off cap : Nat) (zs : List Int) (w : World) (hH : Holds (Value.int .i64) w blk off zs.toArray) (hblk : blk < w.heap.size) (hsz : zs.length < 4611686018427387904) :
    Calls Tryz.prog 59 #[.slice (some ⟨blk, off, none⟩) zs.length cap] w fun e w' =>
      e = .returned (.tuple #[]) ∧ ∃ n os, w' = grow (putRow (Value.int .i64) (Sort.ahead w n) blk off (zs.mergeSort fun x y => decide (x ≤ y)).toArray) os := Any.slices_Sort_int Tryz.lays189 blk off cap zs w hH hblk hsz
open Go.RowKit Go.Sort in
/-- .. and plain. (LAID: no walk: one application.) -/
theorem Tryz.slices_Sort_int_none (p : Option Addr) (cap : Nat) (w : World) :
    Calls Tryz.prog 59 #[.slice p 0 cap] w fun e w' => e = .returned (.tuple #[]) ∧ w' = w := Any.slices_Sort_int_none Tryz.lays189 p cap w
end Go.Proofs

namespace Go.Proofs
open Go.Shelf
def Tryz.keysP_ren : Go.Shelf.Ren := ⟨fun | 7 => 37 | 10 => 60 | n => n, fun | 23 => 69 | 26 => 3 | 3 => 28 | 28 => 88 | 0 => 0 | 27 => 87 | 33 => 85 | 4 => 4 | n => n, fun | n => n⟩
theorem Tryz.keysP : Go.Proofs.SlLaysZI.n7 Tryz.prog Tryz.keysP_ren := {
  mixed := by kernel_rfl
  f7 := ⟨Tryz.f37.name, by decide, Tryz.func37.trans (congrArg some (by kernel_rfl))⟩
  f10 := ⟨Tryz.f60.name, by decide, Tryz.func60.trans (congrArg some (by kernel_rfl))⟩
  t0 := Tryz.underlying0
  a0 := Tryz.isAgg0
  z0 := Tryz.sizeOf0
  v0 := Tryz.zeroValue0
  t4 := Tryz.underlying4
  a4 := Tryz.isAgg4
  z4 := Tryz.sizeOf4
  v4 := Tryz.zeroValue4
  t23 := Tryz.underlying69
  a23 := Tryz.isAgg69
  z23 := Tryz.sizeOf69
  v23 := Tryz.zeroValue69
  t26 := Tryz.underlying3
  a26 := Tryz.isAgg3
  z26 := Tryz.sizeOf3
  v26 := Tryz.zeroValue3
  t27 := Tryz.underlying87
  a27 := Tryz.isAgg87
  z27 := Tryz.sizeOf87
  v27 := Tryz.zeroValue87
  t28 := Tryz.underlying88
  a28 := Tryz.isAgg88
  z28 := Tryz.sizeOf88
  v28 := Tryz.zeroValue88
  t33 := Tryz.underlying85
  a33 := Tryz.isAgg85
  z33 := Tryz.sizeOf85
  v33 := Tryz.zeroValue85 }
def Tryz.sortedP_ren : Go.Shelf.Ren := ⟨fun | 6 => 36 | 8 => 58 | 9 => 59 | 11 => 98 | 13 => 74 | 12 => 99 | 23 => 118 | 24 => 119 | 14 => 125 | 15 => 126 | 16 => 127 | 17 => 128 | 18 => 129 | 19 => 130 | 20 => 131 | 21 => 132 | 22 => 133 | 25 => 150 | 26 => 137 | 27 => 138 | 28 => 151 | 29 => 152 | 30 => 120 | 31 => 157 | n => n, fun | 26 => 3 | 28 => 88 | 24 => 30 | 0 => 0 | 3 => 3 | 37 => 118 | 48 => 144 | 50 => 146 | 4 => 4 | 40 => 137 | 39 => 136 | 45 => 141 | 5 => 5 | 9 => 9 | 51 => 155 | 55 => 159 | 57 => 168 | 58 => 169 | 33 => 85 | n => n, fun | n => n⟩
theorem Tryz.sortedP : Go.Proofs.SlLaysZI.n6 Tryz.prog Tryz.sortedP_ren := {
  mixed := by kernel_rfl
  f6 := ⟨Tryz.f36.name, by decide, Tryz.func36.trans (congrArg some (by kernel_rfl))⟩
  f8 := ⟨Tryz.f58.name, by decide, Tryz.func58.trans (congrArg some (by kernel_rfl))⟩
  f11 := ⟨Tryz.f98.name, by decide, Tryz.func98.trans (congrArg some (by kernel_rfl))⟩
  t0 := Tryz.underlying0
  a0 := Tryz.isAgg0
  z0 := Tryz.sizeOf0
  v0 := Tryz.zeroValue0
  t24 := Tryz.underlying30
  a24 := Tryz.isAgg30
  z24 := Tryz.sizeOf30
  v24 := Tryz.zeroValue30
  t26 := Tryz.underlying3
  a26 := Tryz.isAgg3
  z26 := Tryz.sizeOf3
  v26 := Tryz.zeroValue3
  t28 := Tryz.underlying88
  a28 := Tryz.isAgg88
  z28 := Tryz.sizeOf88
  v28 := Tryz.zeroValue88
  i26 := by kernel_rfl }
end Go.Proofs

namespace Go.Proofs.YtckigoeomkphhaaGreat
open Go.RowKit Go.MapKept Go.Maps Go.Sort Go.Shelf Go.WideShapes

theorem sort_intsH (l : List Int) : (l.mergeSort fun x y => decide (x ≤ y)).Perm l ∧ (l.mergeSort fun x y => decide (x ≤ y)).Pairwise fun a b => a ≤ b := by
  refine ⟨List.mergeSort_perm _ _, ?_⟩
  have h := List.pairwise_mergeSort (le := fun x y : Int => decide (x ≤ y)) (fun a b c h1 h2 => by
    simp only [decide_eq_true_eq] at *
    omega) (fun a b => by
    simp only [Bool.or_eq_true, decide_eq_true_eq]
    omega) l
  exact h.imp fun h => by simpa using h
theorem sortsH (m : Nat) : AnyZI.SortsIn Tryz.prog Tryz.sortedP_ren Fence.wide m :=
  ⟨fun blk off cap ss W hH hblk hsz => callsIn_wide.2 (Tryz.slices_Sort_int blk off cap ss W hH hblk hsz), fun p cap W => callsIn_wide.2 (Tryz.slices_Sort_int_none p cap W)⟩
/-- What the kit's word on maps asks. -/
theorem owns_ids {w : World} {b : Nat} {L : List (Int × Value)} (h : MapE w b (.int .i64) (L.map fun k => (.int .i64 k.1, k.2))) (hw : ∀ k ∈ L, (Lit.int .i64 k.1).wf = true) (hl : L.length ≤ maxLen) :
    ∃ D0 : DataW Unit, w.ownsMap Tryz.prog 3 (fun _ => some (.nil, [])) b L.length D0 ∧ (intKeys D0).Perm (L.map (·.1)) ∧ Maps.size D0 = L.length := by
  obtain ⟨es, clock, hb, hs, hk, hE⟩ := h
  have hlen : es.size = L.length := by
    have := congrArg List.length hE
    rwa [List.length_map, List.length_map, Array.length_toList] at this
  have hkey : ∀ x ∈ es.toList, ∃ a, x.key = .int .i64 a ∧ (Lit.int .i64 a).wf = true := fun x hx => by
    have hm : (x.key, x.val) ∈ L.map fun k => (Value.int .i64 k.1, k.2) := by rw [← hE]; exact List.mem_map.2 ⟨x, hx, rfl⟩
    obtain ⟨k, hk, e⟩ := List.mem_map.1 hm
    exact ⟨k.1, (congrArg Prod.fst e).symm, hw k hk⟩
  have hrd : ∀ x ∈ es.toList, ∃ a, x.key = .int .i64 a ∧ WideElems.rd (H := Unit) Tryz.prog 3 (fun _ => some (.nil, [])) x = some (.int .i64 a, .nil) := fun x hx => by
    obtain ⟨a, e, hwf⟩ := hkey x hx
    have hko : keyOf Tryz.prog 3 x.key = some (.int .i64 a) := by rw [e]; simp [keyOf, Tryz.underlying3, mapKey, hwf]
    exact ⟨a, e, by unfold WideElems.rd; rw [hko]; rfl⟩
  refine ⟨.map ((es.toList.map (WideElems.rg Tryz.prog 3 (fun _ => some (.nil, [])))).foldr DataW.insert []), ⟨es, clock, hb, ⟨by rw [hlen]; exact hl, hs, fun x hx => by obtain ⟨a, _, e⟩ := hrd x hx; exact ⟨_, e⟩⟩, by rw [hlen]; exact Nat.le_refl _, rfl⟩, ?_, ?_⟩
  · show (List.map _ _).Perm _
    refine ((sorted_perm _).map _).trans ?_
    rw [List.map_map]
    have e1 : L.map (·.1) = es.toList.map ((fun p : Lit × DataW Unit => Go.intOf p.1) ∘ WideElems.rg Tryz.prog 3 (fun _ => some (.nil, []))) := by
      have e2 : L.map (·.1) = (L.map fun k => (Value.int .i64 k.1, k.2)).map (fun p => match p.1 with | .int _ a => a | _ => 0) := by rw [List.map_map]; rfl
      rw [e2, ← hE, List.map_map]
      refine List.map_congr_left fun x hx => ?_
      obtain ⟨a, e3, e4⟩ := hrd x hx
      simp only [Function.comp, e3, WideElems.rg_of e4]
      rfl
    rw [e1]
  · show List.length (List.foldr DataW.insert [] (List.map (WideElems.rg Tryz.prog 3 fun _ => some (.nil, [])) es.toList)) = _
    rw [length_sorted, List.length_map, Array.length_toList, hlen]

theorem keysH_any (mb : Option Nat) (W : World) : Calls Tryz.prog 37 #[.map mb] W fun e w' => e = .returned (.func (.func 60) #[] #[.pointer (some ⟨W.heap.size, 0, none⟩)]) ∧ w' = W.alloc (.cells #[.map mb] 69) :=
  (callsIn_wide (n := 5)).1 (AnyZI.keys_in Tryz.keysP Fence.wide 5 trivial rfl mb W)
set_option maxHeartbeats 1000000 in
theorem sortedH_any (w : World) (b : Nat) (L : List (Int × Value)) (h : MapE w b (.int .i64) (L.map fun k => (.int .i64 k.1, k.2))) (hw : ∀ k ∈ L, (Lit.int .i64 k.1).wf = true) (hl : L.length ≤ 1000000) :
    Calls Tryz.prog 36 #[.func (.func 60) #[] #[.pointer (some ⟨w.heap.size, 0, none⟩)]] (w.alloc (.cells #[.map (some b)] 69)) fun e w' =>
      ∃ (v : Value) (l : List Int), e = .returned v ∧ l.Perm (L.map (·.1)) ∧ (l.Pairwise fun a b => a ≤ b) ∧ w'.ownsRow w.heap.size 3 1 v l.length (l.map (Value.int .i64)) ∧ Ext w w' := by
  have hbl := h.lt
  obtain ⟨D0, hown, hperm, hsz⟩ := owns_ids h hw (by unfold maxLen; omega)
  have hseq : SeqGives Fence.wide 2 Tryz.prog 60 #[.pointer (some ⟨w.heap.size, 0, none⟩)] encZ (fun ss => ss.Perm (intKeys D0)) (Maps.size D0) (w.alloc (.cells #[.map (some b)] 69)) :=
    AnyZI.keys_gives (ρ := Tryz.keysP_ren) { Tryz.keysP with } Fence.wide _ trivial rfl (by omega) w.heap.size b L.length D0 _ (by simp) (by simp) (by
      obtain ⟨es, clock, hb, Ft, hs, hD⟩ := hown
      exact ⟨es, clock, (Below.heap_alloc _ _ b hbl).trans hb, Ft, hs, hD⟩)
  have cS := AnyZI.sorted_in Tryz.sortedP Fence.wide 5 trivial trivial trivial trivial rfl (by omega) (sortsH _) (enters_of Tryz.func59 (by kernel_rfl) rfl) 60 #[.pointer (some ⟨w.heap.size, 0, none⟩)] trivial (enters_of Tryz.func60 (by kernel_rfl) rfl) _ _ (by rw [hsz]; unfold maxLen; omega) (by rw [hsz]; omega) _ hseq
  change CallsIn _ _ Tryz.prog 36 _ _ _ at cS
  refine ((callsIn_wide (n := 5)).1 cS).mono ?_
  rintro e w' ⟨v, ss, rfl, hS, hrow, hnil, hb⟩
  obtain ⟨p1, p2⟩ := sort_intsH ss
  refine ⟨v, _, rfl, p1.trans (hS.trans hperm), p2, ?_, ?_⟩
  · rw [p1.length_eq]
    exact own_low hrow (by rw [World.size_alloc]; exact Nat.le_succ _)
  · exact ((Ext.refl w).alloc _).trans hb
end Go.Proofs.YtckigoeomkphhaaGreat

namespace Go.Proofs.YtckigoeomkphhaaGreat
open Go.RowKit Go.MapKept
variable {w w1 w2 w' : World} {base b bp bq : Nat} {S : List PE} {Q : List PQ}

/-- What Add leaves. -/
def AddR (w w' : World) (base b bp bq : Nat) (S : List PE) (id : Int) (p : List C) : Prop := ∃ S' Q', IdxR w' base b bp bq S' Q' ∧ sS S' = addS (sS S) id p ∧ TurnX base bp bq w w' ∧ ∀ k ∈ S', k ∈ S ∨ ∀ q, k.h.ownBlock = some q → w.heap.size ≤ q
theorem sS_snoc (S : List PE) (k : PE) : sS (S ++ [k]) = sS S ++ [(k.id, k.p)] := by unfold sS; rw [List.map_append]; rfl

set_option maxRecDepth 100000 in
set_option maxHeartbeats 16000000 in
theorem add_any (w : World) (base b bp bq : Nat) (S : List PE) (Q : List PQ) (hi : IdxR w base b bp bq S Q) (hbase : base ≤ w.heap.size) (hpq : bp ≠ bq) (h6 : ∀ k ∈ S, k.p.length ≤ 6) (h256 : S.length ≤ 256) (id : Int) (v : Value) (p : List C) (hp : PredR w v p) :
    Calls Tryz.prog 8 #[.pointer (some ⟨b, 0, none⟩), .int .i64 id, v] w fun e w' => e = .returned (.int .i64 (addE (sS S) id p)) ∧ AddR w w' base b bp bq S id p := by
  have hno : ∀ (w' : World) (e : Int), addE (sS S) id p = e → e ≠ 0 → Ext w w' → AddR w w' base b bp bq S id p := fun w' e h1 h2 hx =>
    ⟨S, Q, hi.ext hx, by unfold addS; rw [h1, if_neg h2], TurnT.of_ext hx, fun k hk => .inl hk⟩
  have hn := normal_bothT w v p hp
  obtain ⟨av, cv, rfl, _, _⟩ := hp.shape
  have tb0 := cell_of_row _ _ 0 _ _ _ hi.box
  have HI := Lib.hid hi
  have HN := Lib.hid hn
  have HNO := Lib.hid hno
  have H6 := Lib.hid h6
  have HLEN : Hid (S.length ≤ 256) := h256
  clear hi hn hno hp h6 h256
  obtain ⟨pl, hpl⟩ : ∃ pl, pl = p.length := ⟨_, rfl⟩
  rw [← hpl] at HN ⊢
  clear hpl
  have hq := eqmap_nil
  go_enter Tryz.func8, Tryz.ntmps8
  go_upto_region 4 with (go_at_call 28; (with_reducible refine HN.out.mono ?_); rintro e w1 ⟨na, nc, us, rfl, hc1, hc2, hus, hown, hset, hx⟩; have HUS := Lib.hid hus; have HOWN := Lib.hid hown; have HSET := Lib.hid hset; have HX := Lib.hid hx; clear hus hown hset hx)
  unfold maxLen at hc2
  have hlk := (mp_look (HI.out.ext HX.out).mp id).1
  obtain ⟨va, vc, hve, _, _⟩ := ((HI.out.ext HX.out).val id).pred.shape
  rw [hve] at hlk
  have tb1 := HX.out.cell tb0
  have hS0 : (sS S).length = S.length := by unfold sS; rw [List.length_map]
  have HS0 := Lib.hid hS0
  obtain ⟨ul, hul⟩ : ∃ ul, ul = us.length := ⟨_, rfl⟩
  have HUL := Lib.hid hul
  rw [← hul] at hc1 HOWN ⊢
  obtain ⟨pl2, hpl2⟩ : ∃ k, k = (predS S id).length := ⟨_, rfl⟩
  rw [← hpl2] at hlk
  clear hve tb0 hS0 hul hpl2
  by_cases hneg : id < 0
  · have hd : decide (id < 0) = true := decide_eq_true hneg
    have he : addE (sS S) id p = 1 := by unfold addE; rw [if_pos hneg]
    have HE := Lib.hid he
    clear he hneg
    generalize hasS (sS S) id = hb at *
    generalize erT p = er at *
    go_wp2_with fail
    go_ret
    exact ⟨by rw [HE.out]; rfl, HNO.out _ _ HE.out (by decide) HX.out⟩
  have hd : decide (id < 0) = false := decide_eq_false hneg
  cases hm : mayP p with
  | false =>
    have he : addE (sS S) id p = 30 := by unfold addE; rw [if_neg hneg, if_pos hm]
    have her : erT p = 30 := by unfold erT; rw [hm]; rfl
    have HE := Lib.hid he
    rw [her]
    clear he hneg her hm
    generalize hasS (sS S) id = hb at *
    go_wp2_with fail
    go_ret
    exact ⟨by rw [HE.out]; rfl, HNO.out _ _ HE.out (by decide) HX.out⟩
  | true =>
    have her : erT p = 0 := by unfold erT; rw [hm]; rfl
    have hnf : nfT p = normP p := by unfold nfT; rw [if_pos hm]
    rw [her]
    have HNF := Lib.hid hnf
    have HM := Lib.hid hm
    have HNG := Lib.hid hneg
    clear her hnf hm hneg
    cases hh : hasS (sS S) id with
    | true =>
      have he : addE (sS S) id p = 9 := by unfold addE; rw [if_neg (by have := HNG.out; omega), if_neg (by rw [HM.out]; decide), if_pos hh]
      have HE := Lib.hid he
      rw [hh] at hlk
      clear he hh
      go_wp2_with fail
      go_ret
      exact ⟨by rw [HE.out]; rfl, HNO.out _ _ HE.out (by decide) HX.out⟩
    | false =>
      rw [hh] at hlk
      have HH := Lib.hid hh
      clear hh
      have HMP := Lib.hid (HI.out.ext HX.out).mp
      obtain ⟨sn, hsn⟩ : ∃ sn, sn = S.length := ⟨_, rfl⟩
      have HSN := Lib.hid hsn
      have hmn : (eS S).length = sn := by rw [hsn]; unfold eS; rw [List.length_map]
      have HMN := Lib.hid hmn
      clear hsn hmn
      by_cases hful : 256 ≤ sn
      · have hF : decide ((256 : Int) ≤ (sn : Int)) = true := decide_eq_true (by omega)
        have he : addE (sS S) id p = 7 := by unfold addE; rw [if_neg (by have := HNG.out; omega), if_neg (by rw [HM.out]; decide), if_neg (by rw [HH.out]; decide), if_pos (by rw [HS0.out, ← HSN.out]; exact hful)]
        have HE := Lib.hid he
        clear he hful
        go_wp2_with (refine wpList_lenE (.tmp 49) 69 rfl rfl Tryz.underlying69 rfl HMP.out (n := sn) HMN.out ?_)
        go_ret
        exact ⟨by rw [HE.out]; rfl, HNO.out _ _ HE.out (by decide) HX.out⟩
      · have hF : decide ((256 : Int) ≤ (sn : Int)) = false := decide_eq_false (by omega)
        have he : addE (sS S) id p = 0 := by unfold addE; rw [if_neg (by have := HNG.out; omega), if_neg (by rw [HM.out]; decide), if_neg (by rw [HH.out]; decide), if_neg (by rw [HS0.out, ← HSN.out]; exact hful)]
        have HE := Lib.hid he
        clear he
        go_upto_region 14 with (first
          | (refine wpList_lenE (.tmp 49) 69 rfl rfl Tryz.underlying69 rfl HMP.out (n := sn) HMN.out ?_)
          | (refine wpList_putX rfl (.tmp 55) (.tmp 56) (.tmp 57) 69 rfl Tryz.underlying69 Tryz.underlying3 (.int .i64 id) (.slice na ul nc) rfl rfl rfl HMP.out rfl ?_; intro w5 hbut hput; have HBUT := Lib.hid hbut; have HPUT := Lib.hid hput; clear hbut hput))
        have hI1 := HI.out.ext HX.out
        have hle1 : base ≤ w1.heap.size := Nat.le_trans hbase HX.out.size
        have hmap1 := hI1.maps
        have ht5 : TurnX base bp bq w1 w5 := But.ofM HBUT.out (.inl rfl)
        have hmp5 : MapE w5 bp (.int .i64) (eS (S ++ [⟨id, normP p, .slice na ul nc⟩])) := by
          rcases HPUT.out with ⟨_, h⟩ | ⟨j, u, h1, _⟩
          · unfold eS at h ⊢; rw [List.map_append]; exact h
          · obtain ⟨hj, e, _⟩ := eS_at h1
            have := (hasS_iff (S := sS S) (id := id)).2 ⟨(S[j].id, S[j].p), (by unfold sS; exact List.mem_map.2 ⟨S[j], List.getElem_mem hj, rfl⟩), e⟩
            rw [HH.out] at this; cases this
        have hn1 : PredT base w1 (.slice na ul nc) (normP p) := by
          rw [← HNF.out, ← HUS.out]
          exact (PredT.of (by rw [← HUL.out]; exact HOWN.out) HSET.out).low hbase
        have hnew5 := hn1.turn ht5 (fun q hq => .inl (hmap1 q hq)) (by decide) (by decide)
        have hpr5 : ∀ k ∈ S ++ [(⟨id, normP p, .slice na ul nc⟩ : PE)], PredT base w5 k.h k.p := fun k hk => by
          rcases List.mem_append.1 hk with hk | hk
          · exact (hI1.turnP ht5).2 k hk
          · rw [List.mem_singleton.1 hk]; exact hnew5
        have hpt5 : PartsR w5 base bq Q := hI1.parts.keep HBUT.out.grown (fun e => hpq (Option.some.inj e)) fun k e => .inr fun cs t fr hcs => by
          cases e
          obtain ⟨es, c, hh⟩ := hmap1 _ (.inl rfl)
          rw [hh] at hcs; cases hcs
        have hrow5 : w5.ownsRow base 52 7 (.slice na ul nc) us.length (us.flatMap csC) := ht5.own (own_low (by rw [← HUL.out]; exact HOWN.out) hbase) (fun q hq hm => by
          obtain ⟨es, c, hh⟩ := hmap1 q hm
          exact own_noMap (HOWN.out) hq hh) (by decide)
        have hset5 : ∀ x ∈ us, SetO base w5 x := fun x hx => ht5.own (own_low (HSET.out x hx) hbase) (fun q hq hm => by
          obtain ⟨es, c, hh⟩ := hmap1 q hm
          exact own_noMap (HSET.out x hx) hq hh) (by decide)
        have hmap5 : ∀ q, Two2 bp bq q → ∃ es c, w5.heap[q]? = some (.map es c) := by
          rintro q (rfl | rfl)
          · obtain ⟨es, c, h, _⟩ := hmp5; exact ⟨es, c, h⟩
          · obtain ⟨es, c, h, _⟩ := hpt5.mq; exact ⟨es, c, h⟩
        have hul6 : us.length ≤ 6 := by
          have h1 := congrArg List.length HUS.out
          rw [List.length_map, HNF.out] at h1
          have h2 := normP_len p
          have h3 := may_len HM.out
          omega
        have hbox5 := (hI1.turnP ht5).1
        have HW5 : Hid (base ≤ w5.heap.size) := Nat.le_trans hle1 (by rw [HBUT.out.size]; exact Nat.le_refl _)
        have HT5 := Lib.hid ((TurnT.of_ext HX.out : TurnX base bp bq w w1).trans ht5)
        have HMP5 := Lib.hid hmp5
        have HPR5 := Lib.hid hpr5
        have HPT5 := Lib.hid hpt5
        have HROW5 := Lib.hid hrow5
        have HSET5 := Lib.hid hset5
        have HMAP5 := Lib.hid hmap5
        have HBOX5 := Lib.hid hbox5
        have HU6 : Hid (us.length ≤ 6) := hul6
        clear hI1 hmap1 ht5 hmp5 hn1 hnew5 hpr5 hpt5 hrow5 hset5 hmap5 hbox5 hul6 hle1 HBUT HPUT hlk tb1 HMP HMN hF hd
        go_wp2_with fail
        go_loopw [60] (fun i wr => ∃ k : Nat, k ≤ ul ∧ i = .int .i64 k ∧ Hid (∃ Q', PartsR wr base bq Q' ∧ ∀ nm, (lookQ Q' nm).map pcK = partsOf (sS S ++ [(id, (us.map CS.c).take k)]) nm) ∧ Hid (TurnT (fun q => q = bq) 77 base w5 wr)) (fun i _ => ul - (intOf i).toNat)
        case atStart => exact ⟨0, Nat.zero_le _, rfl, ⟨Q, HPT5.out, fun nm => by rw [HI.out.cont nm, List.take_zero, partsOf_append, partsOf_one]; simp⟩, TurnT.refl _ _ _ _⟩
        case round =>
          obtain ⟨k, hk, rfl, hQ, hT⟩ := hrel
          by_cases hlt : k < ul
          · have hI : decide ((k : Int) < (ul : Int)) = true := decide_eq_true (by omega)
            have hkN : (k : Int) < (ul : Int) := by omega
            have hkl : k < us.length := by have := HUL.out; omega
            obtain ⟨Q1, hP1, hC1⟩ := hQ.out
            have hrow := hT.out.own HROW5.out (fun q hq hm => by obtain ⟨es, c, hh⟩ := HMAP5.out q (.inr hm); exact own_noMap HROW5.out hq hh) (by decide)
            have hxk := hT.out.own (HSET5.out us[k] (List.getElem_mem hkl)) (fun q hq hm => by obtain ⟨es, c, hh⟩ := HMAP5.out q (.inr hm); exact own_noMap (HSET5.out us[k] (List.getElem_mem hkl)) hq hh) (by decide)
            have hrow2 : Row wr 7 (.slice na ul nc) ul (us.flatMap csC) := by have h := Row.of_own hrow; rw [← HUL.out] at h; exact h
            obtain ⟨B, o, rfl, gg⟩ := cs_atP hrow2 hkl (by omega)
            have hstep : ∀ nm, partsOf (sS S ++ [(id, (us.map CS.c).take (k + 1))]) nm = partsOf (sS S ++ [(id, (us.map CS.c).take k)]) nm ++ if decide (us[k].c.name = nm) then [(id, us[k].c)] else [] := fun nm => by
              have h := partsOf_more (sS S) id (us.map CS.c) k (by rw [List.length_map]; exact hkl) nm
              rw [List.getElem_map] at h
              exact h
            have HSTEP := Lib.hid hstep
            have HXK : Hid (SetO base wr us[k]) := hxk
            clear hstep hxk hrow hrow2
            generalize us[k] = x at *
            obtain ⟨sa, sc, hxe, _, _⟩ := Row.shape HXK.out.set
            have g0 := gg 0 _ rfl (by decide)
            have g1 := gg 1 _ rfl (by decide)
            have g2 := gg 2 _ rfl (by decide)
            have g3 := gg 3 _ rfl (by decide)
            have g4 := gg 4 _ rfl (by decide)
            have g5 := gg 5 _ rfl (by decide)
            have g6 := gg 6 _ rfl (by decide)
            rw [hxe] at g6
            rw [Nat.add_zero] at g0
            obtain ⟨c, xh⟩ := x
            dsimp only at *
            have HXE := Lib.hid hxe
            have HC1 := Lib.hid hC1
            have HP1 := Lib.hid hP1
            have HT := Lib.hid hT.out
            clear hxe hC1 gg hQ hT
            go_upto_region 17 with fail
            obtain ⟨hxa, hba⟩ := boxes1 wr (.cells #[.string (strOf c.name), .int .i64 c.op, .int .i64 c.v.k, .int .i64 c.v.n, .string (strOf c.v.s), .bool c.v.b, .slice sa c.set.length sc] 52)
            have x0 := cell_of_row _ _ 0 _ _ _ hba
            have x1 := cell_of_row _ _ 1 _ _ _ hba
            have x2 := cell_of_row _ _ 2 _ _ _ hba
            have x3 := cell_of_row _ _ 3 _ _ _ hba
            have x4 := cell_of_row _ _ 4 _ _ _ hba
            have x5 := cell_of_row _ _ 5 _ _ _ hba
            have x6 := cell_of_row _ _ 6 _ _ _ hba
            have HPA := Lib.hid (hP1.ext hxa)
            have HXKA := Lib.hid (own_ext HXK.out hxa)
            have hbw := hxa.size
            have HTA := Lib.hid (HT.out.trans (TurnT.of_ext hxa))
            have HBA := Lib.hid hba
            clear hP1 hxa hba g0 g1 g2 g3 g4 g5 g6 HP1 HT HXK
            have HBXL : Hid (wr.heap.size < (wr.alloc (.cells #[.string (strOf c.name), .int .i64 c.op, .int .i64 c.v.k, .int .i64 c.v.n, .string (strOf c.v.s), .bool c.v.b, .slice sa c.set.length sc] 52)).heap.size) := by show _ < _; rw [World.size_alloc]; exact Nat.lt_succ_self _
            generalize hbxn : wr.heap.size = bx at *
            clear hbxn
            generalize wr.alloc (.cells #[.string (strOf c.name), .int .i64 c.op, .int .i64 c.v.k, .int .i64 c.v.n, .string (strOf c.v.s), .bool c.v.b, .slice sa c.set.length sc] 52) = wa at *
            have hvr := valQ_row HPA.out c.name
            obtain ⟨va, vc, hve, hvc, hvm⟩ := own_shape hvr
            unfold maxLen at hvm
            have hvl : (lookQ Q1 c.name).length ≤ 1542 := by
              have h1 := congrArg List.length (HC1.out c.name)
              rw [List.length_map] at h1
              rw [h1]
              have h2 := parts_le (R := sS S ++ [(id, (us.map CS.c).take k)]) (m := 6) (fun q hq => by
                rcases List.mem_append.1 hq with hq | hq
                · obtain ⟨z, hz, rfl⟩ := List.mem_map.1 hq
                  exact H6.out z hz
                · rw [List.mem_singleton.1 hq]
                  have := HU6.out
                  show ((us.map CS.c).take k).length ≤ 6
                  rw [List.length_take, List.length_map]
                  omega) c.name
              rw [List.length_append, List.length_singleton, HS0.out] at h2
              have := HLEN.out
              omega
            obtain ⟨vn, hvn⟩ : ∃ vn, vn = (lookQ Q1 c.name).length := ⟨_, rfl⟩
            have HVN := Lib.hid hvn
            rw [hve] at hvr
            rw [← hvn] at hvr hvl hvc
            have HVE : Hid (valQ Q1 c.name = .slice va vn vc) := by show _ = _; rw [hvn]; exact hve
            have HVR := Lib.hid hvr
            have hib := HTA.out.box HBOX5.out (fun hm => by
              obtain ⟨es, cc, hh⟩ := HMAP5.out b (.inr hm)
              have := HBOX5.out
              rw [hh] at this; cases this) (by decide)
            have ib1 := cell_of_row _ _ 1 _ _ _ hib
            have HNR : Hid (∀ q, (Value.slice va vn vc).ownBlock ≠ some q → some q ∉ [none, none, none, none, none, none, none, none, none, none, none, none, none, none, none, none, none, (Value.slice va vn vc).ownBlock]) := fun q hq hm => by
              simp only [List.mem_cons, List.not_mem_nil, or_false, reduceCtorEq, false_or] at hm
              exact hq hm.symm
            have HNB := Lib.hid (HNR.out b (own_ne HVR.out hib (by decide)))
            have HNX := Lib.hid (HNR.out bx (own_ne HVR.out HBA.out (by decide)))
            have HNQ := Lib.hid (HNR.out bq (fun e => by
              obtain ⟨es, cc, hh, _⟩ := HPA.out.mq
              exact own_noMap HVR.out e hh))
            have HLA : Hid (∀ g, (Value.slice va vn vc).ownBlock = some g → g < wa.heap.size) := fun g hg => own_lt HVR.out g hg
            have HLB := HLA
            have HMQ : Hid (∀ W, Rr.Buts [none, none, none, none, none, none, none, none, none, none, none, none, none, none, none, none, none, (Value.slice va vn vc).ownBlock] wa W → MapE W bq .string (eQ Q1)) := fun W hW => by
              obtain ⟨es, cc, h1, h2⟩ := HPA.out.mq
              exact ⟨es, cc, (hW.block bq (Array.getElem?_eq_some_iff.1 h1).1 HNQ.out).trans h1, h2⟩
            have HROW := Lib.hid (fun (W : World) => pt_row W id c sa sc)
            have hb1 : (vn + 1) * 96 ≤ 140737488355328 := by omega
            have hb2 : vn + 1 ≤ maxLen := by unfold maxLen; omega
            have hbw2 : base ≤ wa.heap.size := Nat.le_trans HW5.out HTA.out.size
            clear hvr hve hvn hib
            refine Rr.wp_region_rows_chain 18 [none, none, none, none, none, none, none, none, none, none, none, none, none, none, none, none, none, (Value.slice va vn vc).ownBlock] [Rr.FactB.eq (.pointer (some ⟨b, 0, none⟩)),
                Rr.FactB.eq (.pointer (some ⟨b, 0, none⟩)),
                Rr.FactB.eq (.pointer (some ⟨b, 1, none⟩)),
                Rr.FactB.eq (.map (some bq)),
                Rr.FactB.eq (.pointer (some ⟨bx, 0, none⟩)),
                Rr.FactB.eq (.string (strOf c.name)),
                Rr.FactB.eq (.pointer (some ⟨b, 0, none⟩)),
                Rr.FactB.eq (.pointer (some ⟨b, 0, none⟩)),
                Rr.FactB.eq (.pointer (some ⟨b, 1, none⟩)),
                Rr.FactB.eq (.map (some bq)),
                Rr.FactB.eq (.pointer (some ⟨bx, 0, none⟩)),
                Rr.FactB.eq (.string (strOf c.name)),
                Rr.FactB.eq (.slice va vn vc),
                Rr.FactB.eq (.int .i64 id),
                Rr.FactB.eq (.agg #[.string (strOf c.name), .int .i64 c.op, .int .i64 c.v.k, .int .i64 c.v.n, .string (strOf c.v.s), .bool c.v.b, .slice sa c.set.length sc]),
                Rr.FactB.eq (.agg #[.int .i64 id, .string (strOf c.name), .int .i64 c.op, .int .i64 c.v.k, .int .i64 c.v.n, .string (strOf c.v.s), .bool c.v.b, .slice sa c.set.length sc]),
                Rr.FactB.later wa.heap.size 8 1 [.int .i64 id, .string (strOf c.name), .int .i64 c.op, .int .i64 c.v.k, .int .i64 c.v.n, .string (strOf c.v.s), .bool c.v.b, .slice sa c.set.length sc],
                Rr.FactB.ownL base 77 8 (vn + 1) ((lookQ Q1 c.name).flatMap ptC ++ [.int .i64 id, .string (strOf c.name), .int .i64 c.op, .int .i64 c.v.k, .int .i64 c.v.n, .string (strOf c.v.s), .bool c.v.b, .slice sa c.set.length sc]) (Value.slice va vn vc).ownBlock wa.heap.size]
              [Rr.FactB.any, Rr.FactB.any, Rr.FactB.any, Rr.FactB.any, Rr.FactB.any, Rr.FactB.any, Rr.FactB.any, Rr.FactB.any, Rr.FactB.any, Rr.FactB.any, Rr.FactB.any, Rr.FactB.any, Rr.FactB.any, Rr.FactB.any, Rr.FactB.any, Rr.FactB.any, Rr.FactB.any, (Rr.FactB.own base 77 8 vn ((lookQ Q1 c.name).flatMap ptC) none).at (.slice va vn vc), Rr.FactB.any]
              [[], [(0, 64)], [(1, 65)], [(2, 66)], [], [(4, 68)], [], [(6, 70)], [(7, 71)], [(8, 72)], [], [(10, 74)], [(9, 73), (11, 75)], [], [], [(13, 77), (14, 78)], [(15, 79)], [(12, 76), (16, 80)]]
              [(0, 64), (1, 65), (2, 66), (3, 67), (4, 68), (5, 69), (6, 70), (7, 71), (8, 72), (9, 73), (10, 74), (11, 75), (12, 76), (13, 77), (14, 78), (15, 79), (16, 80), (17, 81)] (by kernel_rfl) (by kernel_rfl) ?_ ?_ ?_ ?_ ?_
            · refine ⟨?_, ?_, ?_, ?_, ?_, ?_, ?_, ?_, ?_, ?_, ?_, ?_, ?_, ?_, ?_, ?_, ?_, ?_, trivial⟩
              · exact fun _ _ h => h
              · exact fun _ _ h => h
              · exact fun _ _ h => h
              · exact fun _ _ h => h
              · exact fun _ _ h => h
              · exact fun _ _ h => h
              · exact fun _ _ h => h
              · exact fun _ _ h => h
              · exact fun _ _ h => h
              · exact fun _ _ h => h
              · exact fun _ _ h => h
              · exact fun _ _ h => h
              · exact fun _ _ h => h
              · exact fun _ _ h => h
              · exact fun _ _ h => h
              · exact fun _ _ h => h
              · change ∀ row ∈ ([none, none, none, none, none, none, none, none, none, none, none, none, none, none, none, none, none, (Value.slice va vn vc).ownBlock] : List (Option Nat)), ¬ (Rr.FactB.later wa.heap.size 8 1 [.int .i64 id, .string (strOf c.name), .int .i64 c.op, .int .i64 c.v.k, .int .i64 c.v.n, .string (strOf c.v.s), .bool c.v.b, .slice sa c.set.length sc]).bad row; exact (List.forall_mem_cons.2 ⟨Rr.later_none, (List.forall_mem_cons.2 ⟨Rr.later_none, (List.forall_mem_cons.2 ⟨Rr.later_none, (List.forall_mem_cons.2 ⟨Rr.later_none, (List.forall_mem_cons.2 ⟨Rr.later_none, (List.forall_mem_cons.2 ⟨Rr.later_none, (List.forall_mem_cons.2 ⟨Rr.later_none, (List.forall_mem_cons.2 ⟨Rr.later_none, (List.forall_mem_cons.2 ⟨Rr.later_none, (List.forall_mem_cons.2 ⟨Rr.later_none, (List.forall_mem_cons.2 ⟨Rr.later_none, (List.forall_mem_cons.2 ⟨Rr.later_none, (List.forall_mem_cons.2 ⟨Rr.later_none, (List.forall_mem_cons.2 ⟨Rr.later_none, (List.forall_mem_cons.2 ⟨Rr.later_none, (List.forall_mem_cons.2 ⟨Rr.later_none, (List.forall_mem_cons.2 ⟨Rr.later_none, (List.forall_mem_cons.2 ⟨(Rr.later_row (by first | exact HLA.out | exact HLB.out)), (fun _ h => absurd h List.not_mem_nil)⟩)⟩)⟩)⟩)⟩)⟩)⟩)⟩)⟩)⟩)⟩)⟩)⟩)⟩)⟩)⟩)⟩)⟩)
              · change ∀ row ∈ ([none, none, none, none, none, none, none, none, none, none, none, none, none, none, none, none, none, none] : List (Option Nat)), ¬ (Rr.FactB.ownL base 77 8 (vn + 1) ((lookQ Q1 c.name).flatMap ptC ++ [.int .i64 id, .string (strOf c.name), .int .i64 c.op, .int .i64 c.v.k, .int .i64 c.v.n, .string (strOf c.v.s), .bool c.v.b, .slice sa c.set.length sc]) (Value.slice va vn vc).ownBlock wa.heap.size).bad row; exact (List.forall_mem_cons.2 ⟨Rr.ownL_none, (List.forall_mem_cons.2 ⟨Rr.ownL_none, (List.forall_mem_cons.2 ⟨Rr.ownL_none, (List.forall_mem_cons.2 ⟨Rr.ownL_none, (List.forall_mem_cons.2 ⟨Rr.ownL_none, (List.forall_mem_cons.2 ⟨Rr.ownL_none, (List.forall_mem_cons.2 ⟨Rr.ownL_none, (List.forall_mem_cons.2 ⟨Rr.ownL_none, (List.forall_mem_cons.2 ⟨Rr.ownL_none, (List.forall_mem_cons.2 ⟨Rr.ownL_none, (List.forall_mem_cons.2 ⟨Rr.ownL_none, (List.forall_mem_cons.2 ⟨Rr.ownL_none, (List.forall_mem_cons.2 ⟨Rr.ownL_none, (List.forall_mem_cons.2 ⟨Rr.ownL_none, (List.forall_mem_cons.2 ⟨Rr.ownL_none, (List.forall_mem_cons.2 ⟨Rr.ownL_none, (List.forall_mem_cons.2 ⟨Rr.ownL_none, (List.forall_mem_cons.2 ⟨Rr.ownL_none, (fun _ h => absurd h List.not_mem_nil)⟩)⟩)⟩)⟩)⟩)⟩)⟩)⟩)⟩)⟩)⟩)⟩)⟩)⟩)⟩)⟩)⟩)⟩)
            · refine ⟨?_, ?_, ?_, ?_, ?_, ?_, ?_, ?_, ?_, ?_, ?_, ?_, ?_, ?_, ?_, ?_, ?_, ?_, ?_, trivial⟩
              · exact fun _ _ h => h
              · exact fun _ _ h => h
              · exact fun _ _ h => h
              · exact fun _ _ h => h
              · exact fun _ _ h => h
              · exact fun _ _ h => h
              · exact fun _ _ h => h
              · exact fun _ _ h => h
              · exact fun _ _ h => h
              · exact fun _ _ h => h
              · exact fun _ _ h => h
              · exact fun _ _ h => h
              · exact fun _ _ h => h
              · exact fun _ _ h => h
              · exact fun _ _ h => h
              · exact fun _ _ h => h
              · exact fun _ _ h => h
              · change ∀ row ∈ ([none, none, none, none, none, none, none, none, none, none, none, none, none, none, none, none, none, none] : List (Option Nat)), ¬ ((Rr.FactB.own base 77 8 vn ((lookQ Q1 c.name).flatMap ptC) none).at (.slice va vn vc)).bad row; exact (List.forall_mem_cons.2 ⟨(Rr.at_calm Rr.own_none'), (List.forall_mem_cons.2 ⟨(Rr.at_calm Rr.own_none'), (List.forall_mem_cons.2 ⟨(Rr.at_calm Rr.own_none'), (List.forall_mem_cons.2 ⟨(Rr.at_calm Rr.own_none'), (List.forall_mem_cons.2 ⟨(Rr.at_calm Rr.own_none'), (List.forall_mem_cons.2 ⟨(Rr.at_calm Rr.own_none'), (List.forall_mem_cons.2 ⟨(Rr.at_calm Rr.own_none'), (List.forall_mem_cons.2 ⟨(Rr.at_calm Rr.own_none'), (List.forall_mem_cons.2 ⟨(Rr.at_calm Rr.own_none'), (List.forall_mem_cons.2 ⟨(Rr.at_calm Rr.own_none'), (List.forall_mem_cons.2 ⟨(Rr.at_calm Rr.own_none'), (List.forall_mem_cons.2 ⟨(Rr.at_calm Rr.own_none'), (List.forall_mem_cons.2 ⟨(Rr.at_calm Rr.own_none'), (List.forall_mem_cons.2 ⟨(Rr.at_calm Rr.own_none'), (List.forall_mem_cons.2 ⟨(Rr.at_calm Rr.own_none'), (List.forall_mem_cons.2 ⟨(Rr.at_calm Rr.own_none'), (List.forall_mem_cons.2 ⟨(Rr.at_calm Rr.own_none'), (List.forall_mem_cons.2 ⟨(Rr.at_calm Rr.own_none'), (fun _ h => absurd h List.not_mem_nil)⟩)⟩)⟩)⟩)⟩)⟩)⟩)⟩)⟩)⟩)⟩)⟩)⟩)⟩)⟩)⟩)⟩)⟩)
              · exact fun _ _ h => h
            · intro f hf; simp only [List.mem_cons, List.not_mem_nil, or_false] at hf; rcases hf with rfl | rfl | rfl | rfl | rfl | rfl | rfl | rfl | rfl | rfl | rfl | rfl | rfl | rfl | rfl | rfl | rfl | rfl | rfl
              · exact True.intro
              · exact True.intro
              · exact True.intro
              · exact True.intro
              · exact True.intro
              · exact True.intro
              · exact True.intro
              · exact True.intro
              · exact True.intro
              · exact True.intro
              · exact True.intro
              · exact True.intro
              · exact True.intro
              · exact True.intro
              · exact True.intro
              · exact True.intro
              · exact True.intro
              · exact ⟨own_ext HVR.out ((Ext.refl _).drew), fun _ _ h => nomatch h⟩
              · exact True.intro
            · refine ⟨?_, ?_, ?_, ?_, ?_, ?_, ?_, ?_, ?_, ?_, ?_, ?_, ?_, ?_, ?_, ?_, ?_, ?_, trivial⟩
              · intro w1 hx1 hg1; change wpList _ _ _ _ _ _; refine Rr.lift (fun _ _ h => Rr.grew_of h) ?_; exact ob_move rfl rfl rfl rfl rfl
              · intro w1 hx1 hg1; rintro _ rfl; change wpList _ _ _ _ _ _; refine Rr.lift (fun _ _ h => Rr.grew_of h) ?_; go_wp2_with fail; exact ⟨rfl, Ext.refl _, rfl, rfl⟩
              · intro w1 hx1 hg1; rintro _ rfl; change wpList _ _ _ _ _ _; refine Rr.lift (fun _ _ h => Rr.grew_of h) ?_; go_wp2_with fail; exact ⟨rfl, Ext.refl _, rfl, rfl⟩
              · intro w1 hx1 hg1; rintro _ rfl; change wpList _ _ _ _ _ _; refine Rr.lift (fun _ _ h => Rr.grew_of h) ?_; have m0 := hx1.cell ib1 HNB.out; go_wp2_with fail; exact ⟨rfl, Ext.refl _, rfl, rfl⟩
              · intro w1 hx1 hg1; change wpList _ _ _ _ _ _; refine Rr.lift (fun _ _ h => Rr.grew_of h) ?_; go_wp2_with fail; exact ⟨rfl, Ext.refl _, rfl, rfl⟩
              · intro w1 hx1 hg1; rintro _ rfl; change wpList _ _ _ _ _ _; refine Rr.lift (fun _ _ h => Rr.grew_of h) ?_; have m0 := hx1.cell x0 HNX.out; go_wp2_with fail; exact ⟨rfl, Ext.refl _, rfl, rfl⟩
              · intro w1 hx1 hg1; change wpList _ _ _ _ _ _; refine Rr.lift (fun _ _ h => Rr.grew_of h) ?_; exact ob_move rfl rfl rfl rfl rfl
              · intro w1 hx1 hg1; rintro _ rfl; change wpList _ _ _ _ _ _; refine Rr.lift (fun _ _ h => Rr.grew_of h) ?_; go_wp2_with fail; exact ⟨rfl, Ext.refl _, rfl, rfl⟩
              · intro w1 hx1 hg1; rintro _ rfl; change wpList _ _ _ _ _ _; refine Rr.lift (fun _ _ h => Rr.grew_of h) ?_; go_wp2_with fail; exact ⟨rfl, Ext.refl _, rfl, rfl⟩
              · intro w1 hx1 hg1; rintro _ rfl; change wpList _ _ _ _ _ _; refine Rr.lift (fun _ _ h => Rr.grew_of h) ?_; have m0 := hx1.cell ib1 HNB.out; go_wp2_with fail; exact ⟨rfl, Ext.refl _, rfl, rfl⟩
              · intro w1 hx1 hg1; change wpList _ _ _ _ _ _; refine Rr.lift (fun _ _ h => Rr.grew_of h) ?_; go_wp2_with fail; exact ⟨rfl, Ext.refl _, rfl, rfl⟩
              · intro w1 hx1 hg1; rintro _ rfl; change wpList _ _ _ _ _ _; refine Rr.lift (fun _ _ h => Rr.grew_of h) ?_; have m0 := hx1.cell x0 HNX.out; go_wp2_with fail; exact ⟨rfl, Ext.refl _, rfl, rfl⟩
              · intro w1 hx1 hg1; rintro _ rfl; rintro _ rfl; change wpList _ _ _ _ _ _; refine Rr.lift (fun _ _ h => Rr.grew_of h) ?_; have k1 := mq_look (HMQ.out w1 hx1) c.name; rw [HVE.out] at k1; go_wp2_with fail; exact ⟨rfl, Ext.refl _, rfl, rfl⟩
              · intro w1 hx1 hg1; change wpList _ _ _ _ _ _; refine Rr.lift (fun _ _ h => Rr.grew_of h) ?_; exact ob_move rfl rfl rfl rfl rfl
              · intro w1 hx1 hg1; change wpList _ _ _ _ _ _; refine Rr.lift (fun _ _ h => Rr.grew_of h) ?_; have m0 := hx1.cell x0 HNX.out; have m1 := hx1.cell x1 HNX.out; have m2 := hx1.cell x2 HNX.out; have m3 := hx1.cell x3 HNX.out; have m4 := hx1.cell x4 HNX.out; have m5 := hx1.cell x5 HNX.out; have m6 := hx1.cell x6 HNX.out; go_wp2_with fail; exact ⟨rfl, Ext.refl _, rfl, rfl⟩
              · intro w1 hx1 hg1; rintro _ rfl; rintro _ rfl; change wpList _ _ _ _ _ _; refine Rr.lift (fun _ _ h => Rr.grew_of h) ?_; go_wp2_with fail; exact ⟨rfl, Ext.refl _, rfl, rfl⟩
              · intro w1 hx1 hg1; rintro _ rfl; change wpList _ _ _ _ _ _; refine Rr.lift (fun _ _ h => Rr.grew_of h) ?_; go_wp2_with fail; exact ⟨rfl, (Ext.refl _).alloc _, rfl, HROW.out w1, _, _, _, rfl, hx1.size, by rw [World.size_alloc]; exact Nat.lt_succ_self _⟩
              · intro w1 hx1 hg1; rintro _ rfl; intro v80 h80; change wpList _ _ _ _ _ _; refine Rr.wpList_append_rowA 75 77 (.tmp 76) (.tmp 80) rfl base _ 8 96 Tryz.underlying75 info_part rfl (by decide) rfl _ vn ((lookQ Q1 c.name).flatMap ptC) rfl hg1.1 1 [.int .i64 id, .string (strOf c.name), .int .i64 c.op, .int .i64 c.v.k, .int .i64 c.v.n, .string (strOf c.v.s), .bool c.v.b, .slice sa c.set.length sc] h80.1 (pt_one id c sa sc) hb1 hb2 (Nat.le_trans hbw2 hx1.size) ?_; intro v' w2 ho2 hg2 hat; exact wpList_nil ⟨rfl, hg2, rfl, ho2, hat.imp (fun h => h) fun e => ⟨_, e, hx1.size⟩⟩
            · intro w1 hx1; intro hgs; rintro _ rfl; rintro _ rfl; rintro _ rfl; rintro _ rfl; rintro _ rfl; rintro _ rfl; rintro _ rfl; rintro _ rfl; rintro _ rfl; rintro _ rfl; rintro _ rfl; rintro _ rfl; rintro _ rfl; rintro _ rfl; rintro _ rfl; rintro _ rfl; intro v80 h80; intro v81 h81; refine depsThen_nil ?_; dsimp only; simp only [Act.put, List.setIfInBounds_toArray, List.set_cons_zero, List.set_cons_succ, List.drop_succ_cons, List.drop_zero]
              replace h80 : (Rr.FactB.later wa.heap.size 8 1 [.int .i64 id, .string (strOf c.name), .int .i64 c.op, .int .i64 c.v.k, .int .i64 c.v.n, .string (strOf c.v.s), .bool c.v.b, .slice sa c.set.length sc]).p v80 w1 := h80
              replace h81 : (Rr.FactB.ownL base 77 8 (vn + 1) ((lookQ Q1 c.name).flatMap ptC ++ [.int .i64 id, .string (strOf c.name), .int .i64 c.op, .int .i64 c.v.k, .int .i64 c.v.n, .string (strOf c.v.s), .bool c.v.b, .slice sa c.set.length sc]) (Value.slice va vn vc).ownBlock wa.heap.size).p v81 w1 := h81
              clear hgs
              obtain ⟨ho81, hl81⟩ := h81
              obtain ⟨a81, c81, rfl, _, _⟩ := own_shape ho81
              have HO81 := Lib.hid ho81
              have HL81 := Lib.hid hl81
              have HMQ1 := Lib.hid (HMQ.out w1 hx1)
              have HG1 := Lib.hid (hx1.grown (row := (Value.slice va vn vc).ownBlock) fun q hq => by
                simp only [List.mem_cons, List.not_mem_nil, or_false, reduceCtorEq, false_or] at hq
                exact hq.symm)
              clear ho81 hl81 h80 hx1 x0 x1 x2 x3 x4 x5 x6 ib1 HROW HLA HLB HNB HNX HNQ HNR HMQ hb1 hb2
              go_wp2_with (refine wpList_putX rfl (.tmp 67) (.tmp 69) (.tmp 81) 70 rfl Tryz.underlying70 Tryz.underlying9 (.string (strOf c.name)) (.slice a81 (vn + 1) c81) rfl rfl rfl HMQ1.out trivial ?_; intro w9 hbut hput; have HBUT := Lib.hid hbut; have HPUT := Lib.hid hput; clear hbut hput)
              have hxc : csC ⟨c, .slice sa c.set.length sc⟩ = [.string (strOf c.name), .int .i64 c.op, .int .i64 c.v.k, .int .i64 c.v.n, .string (strOf c.v.s), .bool c.v.b, .slice sa c.set.length sc] := rfl
              have hpt1 : SetO base w1 ⟨c, .slice sa c.set.length sc⟩ := by
                have h0 : SetO base wa ⟨c, .slice sa c.set.length sc⟩ := by have h := HXKA.out; rw [HXE.out] at h; exact h
                exact own_keep h0 HG1.out fun q hq e => own_apart h0 HVR.out (by decide) q e hq
              have hsets1 : ∀ y ∈ lookQ Q1 c.name ++ [(⟨id, ⟨c, .slice sa c.set.length sc⟩⟩ : PC)], SetO base w1 y.x := fun y hy => by
                rcases List.mem_append.1 hy with hy | hy
                · have h0 := valQ_sets HPA.out c.name y hy
                  exact own_keep h0 HG1.out fun q hq e => own_apart h0 HVR.out (by decide) q e hq
                · rw [List.mem_singleton.1 hy]; exact hpt1
              obtain ⟨Q2, hP2, hL2⟩ := HPA.out.store c.name (.slice a81 (vn + 1) c81) (lookQ Q1 c.name ++ [⟨id, ⟨c, .slice sa c.set.length sc⟩⟩]) (by
                rw [List.length_append, List.length_singleton, ← HVN.out, List.flatMap_append, List.flatMap_singleton]; exact HO81.out) hsets1 (by rw [HVE.out]; exact HG1.out) (by rw [HVE.out]; exact HL81.out) HBUT.out HPUT.out
              have hC2 : ∀ nm, (lookQ Q2 nm).map pcK = partsOf (sS S ++ [(id, (us.map CS.c).take (k + 1))]) nm := fun nm => by
                rw [HSTEP.out nm, hL2 nm]
                by_cases e : nm = c.name
                · subst e
                  rw [if_pos rfl, List.map_append, HC1.out, decide_eq_true rfl, if_pos rfl]; rfl
                · rw [if_neg e, HC1.out, decide_eq_false (fun h => e h.symm), if_neg (by decide), List.append_nil]
              have hT9 : TurnT (fun q => q = bq) 77 base w5 w9 := (HTA.out.trans (TurnT.of_row HVR.out (Nat.le_refl _) HG1.out)).trans (But.ofM HBUT.out rfl)
              have HP2 := Lib.hid hP2
              have HC2 := Lib.hid hC2
              have HT9 := Lib.hid hT9
              clear hP2 hC2 hT9 hL2 hsets1 hpt1 hxc HBUT HPUT HO81 HL81 HG1 HMQ1 HPA HTA HVR HVE HVN HBA HXKA HC1 HSTEP
              go_roundw
              case rel => exact ⟨k + 1, hlt, by go_num, ⟨Q2, HP2.out, HC2.out⟩, HT9.out⟩
              case measure => simp [intOf]; omega
          · obtain rfl : k = ul := by omega
            have hI : decide ((k : Int) < (k : Int)) = false := decide_eq_false (by omega)
            have hres : AddR w wr base b bp bq S id p := by
              obtain ⟨Q1, hP1, hC1⟩ := hQ.out
              have hall : (us.map CS.c).take k = normP p := by
                rw [List.take_of_length_le (by rw [List.length_map, ← HUL.out]; exact Nat.le_refl _), HUS.out, HNF.out]
              rw [hall] at hC1
              have hs : sS (S ++ [(⟨id, normP p, .slice na k nc⟩ : PE)]) = sS S ++ [(id, normP p)] := sS_snoc _ _
              have hb9 := hT.out.box HBOX5.out (fun hm => by
                obtain ⟨es, cc, hh⟩ := HMAP5.out b (.inr hm)
                have := HBOX5.out
                rw [hh] at this; cases this) (by decide)
              refine ⟨S ++ [⟨id, normP p, .slice na k nc⟩], Q1, ⟨hb9, MapE.turn hT.out HMP5.out hpq, fun z hz => (HPR5.out z hz).turn hT.out (fun q hq => .inl (HMAP5.out q (.inr hq))) (by decide) (by decide), hP1, by rw [hs]; exact hC1⟩, by rw [hs]; unfold addS; rw [HE.out, if_pos rfl], HT5.out.trans (hT.out.mono fun q hq => .inr hq), fun z hz => by
                rcases List.mem_append.1 hz with hz | hz
                · exact .inl hz
                · rw [List.mem_singleton.1 hz]; exact .inr fun q hq => own_base HOWN.out q hq⟩
            have HRES := Lib.hid hres
            clear hres hQ hT
            go_wp2_with fail
            go_ret
            exact ⟨by rw [HE.out]; rfl, HRES.out⟩
end Go.Proofs.YtckigoeomkphhaaGreat

namespace Go.Proofs.YtckigoeomkphhaaGreat
open Go.RowKit Go.MapKept
variable {w w1 w2 w' : World} {base b bp bq : Nat} {S : List PE} {Q : List PQ}

theorem ent_rem1 : ∀ args w, (callFunc 30 args).run Tryz.prog w = .ok (.enter 30 args) w := enters_of Tryz.func30 (by kernel_rfl) rfl
theorem ent_mat1 : ∀ args w, (callFunc 32 args).run Tryz.prog w = .ok (.enter 32 args) w := enters_of Tryz.func32 (by kernel_rfl) rfl
theorem ent_mat2 : ∀ args w, (callFunc 35 args).run Tryz.prog w = .ok (.enter 35 args) w := enters_of Tryz.func35 (by kernel_rfl) rfl
theorem ent_look1 : ∀ args w, (callFunc 38 args).run Tryz.prog w = .ok (.enter 38 args) w := enters_of Tryz.func38 (by kernel_rfl) rfl

set_option maxHeartbeats 4000000 in
theorem rem1_any (W : World) (id : Int) (c : C) (sa : Option Addr) (sc : Nat) (B : Nat) (x : Int) (hB : W.cell? ⟨B, 0, none⟩ = some (.int .i64 x)) :
    Calls Tryz.prog 30 #[.agg #[.int .i64 id, .string (strOf c.name), .int .i64 c.op, .int .i64 c.v.k, .int .i64 c.v.n, .string (strOf c.v.s), .bool c.v.b, .slice sa c.set.length sc], .pointer (some ⟨B, 0, none⟩)] W fun e W' => e = .returned (.bool (id == x)) ∧ Ext W W' := by
  obtain ⟨hxa, hb⟩ := boxes1 W (.cells #[.int .i64 id, .string (strOf c.name), .int .i64 c.op, .int .i64 c.v.k, .int .i64 c.v.n, .string (strOf c.v.s), .bool c.v.b, .slice sa c.set.length sc] 77)
  have c0 := cell_of_row _ _ 0 _ _ _ hb
  have hB2 := hxa.cell hB
  have HX := Lib.hid hxa
  clear hxa hb hB
  go_enter Tryz.func30, Tryz.ntmps30
  go_wp2
  go_ret
  exact ⟨rfl, HX.out⟩

/-! How often a predicate's constraints held. -/
def eH (H : List (Int × Nat)) : List (Value × Value) := H.map fun h => (.int .i64 h.1, .int .i64 (h.2 : Nat))
def getH (H : List (Int × Nat)) (id : Int) : Nat := match H.find? (fun h => decide (h.1 = id)) with | none => 0 | some h => h.2
/-- The map hb holds the counts of what has been asked. -/
def HeldR (hb : Nat) (d : List ((Int × C) × V)) (W : World) : Prop := ∃ H : List (Int × Nat), MapE W hb (.int .i64) (eH H) ∧ ∀ id, getH H id = cntOf d id
theorem eH_ids {H : List (Int × Nat)} (h : ((eH H).map (·.1)).Nodup) : (H.map (·.1)).Nodup := by
  have e : (eH H).map (·.1) = (H.map (·.1)).map (Value.int .i64) := by unfold eH; rw [List.map_map, List.map_map]; rfl
  rw [e] at h
  exact List.Pairwise.of_map _ (fun a b hne e => hne (by rw [e])) h
theorem getH_at {H : List (Int × Nat)} (hn : (H.map (·.1)).Nodup) {j : Nat} (hj : j < H.length) : getH H H[j].1 = H[j].2 := by
  have hf : H.find? (fun h => decide (h.1 = H[j].1)) = some H[j] := by
    induction H generalizing j with
    | nil => cases hj
    | cons x r ih =>
      have h1 := List.nodup_cons.1 hn
      rw [List.find?_cons]
      cases j with
      | zero => simp
      | succ j =>
        have hj2 : j < r.length := by simpa using hj
        have : x.1 ≠ r[j].1 := fun e => h1.1 (by show x.1 ∈ List.map (·.1) r; rw [e]; exact List.mem_map.2 ⟨r[j], List.getElem_mem hj2, rfl⟩)
        simp only [List.getElem_cons_succ, this, decide_false]
        exact ih h1.2 hj2
  unfold getH; rw [hf]
theorem getH_no {H : List (Int × Nat)} {id : Int} (h : ∀ x ∈ H, x.1 ≠ id) : getH H id = 0 := by
  unfold getH
  rw [List.find?_eq_none.2 fun k hk => by simpa using h k hk]
theorem eH_none {H : List (Int × Nat)} {id : Int} (h : ∀ x ∈ eH H, x.1 ≠ Value.int .i64 id) : ∀ x ∈ H, x.1 ≠ id := fun x hx e => h _ (List.mem_map.2 ⟨x, hx, rfl⟩) (by rw [e])
theorem eH_at {H : List (Int × Nat)} {id : Int} {j : Nat} {v : Value} (h : (eH H)[j]? = some (Value.int .i64 id, v)) : ∃ hj : j < H.length, H[j].1 = id ∧ v = .int .i64 (H[j].2 : Nat) := by
  unfold eH at h
  rw [List.getElem?_map] at h
  cases ht : H[j]? with
  | none => rw [ht] at h; cases h
  | some u =>
    obtain ⟨hj, rfl⟩ := List.getElem?_eq_some_iff.1 ht
    rw [ht] at h
    simp only [Option.map_some, Option.some.injEq, Prod.mk.injEq] at h
    exact ⟨hj, by simpa using h.1, h.2.symm⟩
theorem held_look {W : World} {hb : Nat} {H : List (Int × Nat)} (h : MapE W hb (.int .i64) (eH H)) (id : Int) :
    (Instr.lookup 80 (.map (some hb)) (.int .i64 id) false).run Tryz.prog W = .ok (.int .i64 (getH H id : Nat)) W := by
  rcases h.look (P := Tryz.prog) Tryz.underlying80 Tryz.underlying3 (z := .int .i64 0) (by kernel_rfl) (key := .int .i64 id) rfl with ⟨h1, h2, _⟩ | ⟨j, v, h1, h2, _⟩
  · rw [h2, getH_no (eH_none h1)]; rfl
  · obtain ⟨hj, hn, rfl⟩ := eH_at h1
    rw [h2, ← hn, getH_at (eH_ids h.keys.2) hj]
theorem held_put {W : World} {hb : Nat} {H : List (Int × Nat)} (h0 : (H.map (·.1)).Nodup) {id : Int} {m : Nat}
    (h : ((∀ p ∈ eH H, p.1 ≠ Value.int .i64 id) ∧ MapE W hb (.int .i64) (eH H ++ [(Value.int .i64 id, .int .i64 (m : Nat))])) ∨ ∃ (j : Nat) (u : Value), (eH H)[j]? = some (Value.int .i64 id, u) ∧ MapE W hb (.int .i64) ((eH H).set j (Value.int .i64 id, .int .i64 (m : Nat)))) :
    ∃ H', MapE W hb (.int .i64) (eH H') ∧ ∀ i, getH H' i = if i = id then m else getH H i := by
  rcases h with ⟨h1, h2⟩ | ⟨j, u, h1, h2⟩
  · have hno := eH_none h1
    refine ⟨H ++ [(id, m)], by unfold eH at h2 ⊢; rw [List.map_append]; exact h2, fun i => ?_⟩
    unfold getH
    rw [List.find?_append]
    by_cases e : i = id
    · subst e
      rw [if_pos rfl, List.find?_eq_none.2 fun k hk => by simpa using hno k hk]
      simp
    · rw [if_neg e]
      have : ¬ id = i := fun e2 => e e2.symm
      cases hf : List.find? (fun h : Int × Nat => decide (h.1 = i)) H <;> simp [this]
  · obtain ⟨hj, hn, _⟩ := eH_at h1
    have hm : MapE W hb (.int .i64) (eH (H.set j (id, m))) := by unfold eH at h2 ⊢; rw [List.map_set]; exact h2
    refine ⟨H.set j (id, m), hm, fun i => ?_⟩
    have hnn := eH_ids hm.keys.2
    by_cases e : i = id
    · subst e
      rw [if_pos rfl]
      have hj2 : j < (H.set j (i, m)).length := by rw [List.length_set]; exact hj
      have h3 := getH_at hnn hj2
      rw [List.getElem_set_self] at h3
      exact h3
    · rw [if_neg e]
      by_cases hex : ∃ q ∈ H, q.1 = i
      · obtain ⟨q, hq, rfl⟩ := hex
        obtain ⟨k, hk, rfl⟩ := List.getElem_of_mem hq
        have hij : j ≠ k := fun e2 => e (by subst e2; exact hn)
        have hi2 : k < (H.set j (id, m)).length := by rw [List.length_set]; exact hk
        have h3 := getH_at hnn hi2
        rw [List.getElem_set_ne hij] at h3
        rw [h3, getH_at h0 hk]
      · have hno : ∀ q ∈ H, q.1 ≠ i := fun q hq e => hex ⟨q, hq, e⟩
        rw [getH_no hno]
        refine getH_no fun q hq e2 => ?_
        obtain ⟨k, hk, rfl⟩ := List.getElem_of_mem hq
        rw [List.length_set] at hk
        rw [List.getElem_set] at e2
        split at e2
        · exact e e2.symm
        · exact hno _ (List.getElem_mem hk) e2
theorem cntOf_le (d : List ((Int × C) × V)) (id : Int) : cntOf d id ≤ d.length := by unfold cntOf; exact List.length_filter_le _ _
theorem HeldR.same {hb : Nat} {d : List ((Int × C) × V)} {W W' : World} (h : HeldR hb d W) (e : W'.heap[hb]? = W.heap[hb]?) : HeldR hb d W' := by
  obtain ⟨H, ⟨es, clock, h1, h2⟩, h3⟩ := h
  exact ⟨H, ⟨es, clock, e.trans h1, h2⟩, h3⟩

set_option maxRecDepth 100000 in
set_option maxHeartbeats 8000000 in
theorem mat1_any (W : World) (d : List ((Int × C) × V)) (id : Int) (c : C) (sa : Option Addr) (sc : Nat) (v : V) (B hb : Nat) (hJ : HeldR hb d W) (hd : d.length < 1000000) (hs : SetR W (.slice sa c.set.length sc) c.set) (hB : W.cell? ⟨B, 0, none⟩ = some (.map (some hb))) :
    Calls Tryz.prog 32 #[.agg #[.int .i64 id, .string (strOf c.name), .int .i64 c.op, .int .i64 c.v.k, .int .i64 c.v.n, .string (strOf c.v.s), .bool c.v.b, .slice sa c.set.length sc], .agg #[.int .i64 v.k, .int .i64 v.n, .string (strOf v.s), .bool v.b], .pointer (some ⟨B, 0, none⟩)] W fun e W' => e = .returned (.tuple #[]) ∧ HeldR hb (d ++ [((id, c), v)]) W' ∧ W.grownBy W' (some hb) := by
  obtain ⟨hxa, hb1, hb2⟩ := boxes2 W (.cells #[.int .i64 id, .string (strOf c.name), .int .i64 c.op, .int .i64 c.v.k, .int .i64 c.v.n, .string (strOf c.v.s), .bool c.v.b, .slice sa c.set.length sc] 77) (.cells #[.int .i64 v.k, .int .i64 v.n, .string (strOf v.s), .bool v.b] 49)
  have c0 := cell_of_row _ _ 0 _ _ _ hb1
  have c1 := cell_of_row _ _ 1 _ _ _ hb1
  have c2 := cell_of_row _ _ 2 _ _ _ hb1
  have c3 := cell_of_row _ _ 3 _ _ _ hb1
  have c4 := cell_of_row _ _ 4 _ _ _ hb1
  have c5 := cell_of_row _ _ 5 _ _ _ hb1
  have c6 := cell_of_row _ _ 6 _ _ _ hb1
  have c7 := cell_of_row _ _ 7 _ _ _ hb1
  have d0 := cell_of_row _ _ 0 _ _ _ hb2
  have d1 := cell_of_row _ _ 1 _ _ _ hb2
  have d2 := cell_of_row _ _ 2 _ _ _ hb2
  have d3 := cell_of_row _ _ 3 _ _ _ hb2
  have hB2 := hxa.cell hB
  obtain ⟨H, hH, hcnt⟩ := hJ
  have HH := Lib.hid (hH.ext hxa)
  have HCNT := Lib.hid hcnt
  have HX := Lib.hid hxa
  have hcall := pholds_any _ c sa sc (hs.ext hxa) v
  have hle : getH H id ≤ 1000000 := by rw [hcnt]; exact Nat.le_trans (cntOf_le d id) (Nat.le_of_lt hd)
  have hsn := fun i => cntOf_snoc d ((id, c), v) i
  have HSN := Lib.hid hsn
  have HCALL := Lib.hid hcall
  clear hcall hcnt hxa hb1 hb2 hB hs hd hH hsn
  cases hh : holdsC c v with
  | false =>
    have HHC := Lib.hid hh
    rw [hh] at HCALL
    clear hh
    go_enter Tryz.func32, Tryz.ntmps32
    go_wp2_with (go_at_call 33; (with_reducible refine HCALL.out.mono ?_); rintro e w2 ⟨rfl, hx⟩; have HX2 := Lib.hid hx; clear hx)
    go_end0
    refine ⟨rfl, ⟨H, HH.out.ext HX2.out, fun i => ?_⟩, ⟨(HX.out.trans HX2.out).os, (HX.out.trans HX2.out).tape, (HX.out.trans HX2.out).output, (HX.out.trans HX2.out).size, fun k hk _ => (HX.out.trans HX2.out).block k hk⟩⟩
    rw [HSN.out, HCNT.out]
    simp [HHC.out]
  | true =>
    have HHC := Lib.hid hh
    rw [hh] at HCALL
    clear hh
    go_enter Tryz.func32, Tryz.ntmps32
    go_upto_region 2 with (go_at_call 33; (with_reducible refine HCALL.out.mono ?_); rintro e w2 ⟨rfl, hx⟩; have HX2 := Lib.hid hx; clear hx)
    have hlk := held_look (HH.out.ext HX2.out) id
    have c0' := HX2.out.cell c0
    have hB3 := HX2.out.cell hB2
    have hM2 := HH.out.ext HX2.out
    have HM2 := Lib.hid hM2
    clear hM2 c0 c1 c2 c3 c4 c5 c6 c7 d0 d1 d2 d3 hB2
    generalize hg : getH H id = gh at *
    have HG := Lib.hid hg
    clear hg
    go_wp2_with (refine wpList_putX rfl (.tmp 9) (.tmp 11) (.tmp 13) 80 rfl Tryz.underlying80 Tryz.underlying3 (.int .i64 id) (.int .i64 ((gh : Int) + 1)) rfl rfl rfl HM2.out rfl ?_; intro w9 hbut hput; have HBUT := Lib.hid hbut; have HPUT := Lib.hid hput; clear hbut hput)
    go_end0
    have hput := HPUT.out
    rw [show ((gh : Int) + 1) = ((gh + 1 : Nat) : Int) by omega] at hput
    obtain ⟨H', h1, h2⟩ := held_put (eH_ids HM2.out.keys.2) hput
    have hx := HX.out.trans HX2.out
    refine ⟨rfl, ⟨H', h1, fun i => ?_⟩, ⟨HBUT.out.os.trans hx.os, HBUT.out.tape.trans hx.tape, HBUT.out.output.trans hx.output, by rw [HBUT.out.size]; exact hx.size, fun k hk hne => (HBUT.out.block k fun e => hne (by rw [e])).trans (hx.block k hk)⟩⟩
    rw [h2, HSN.out, HCNT.out]
    by_cases e : i = id
    · subst e
      rw [if_pos rfl, ← HG.out, HCNT.out]; simp [HHC.out]
    · rw [if_neg e]
      have : ¬ id = i := fun h => e h.symm
      simp [this]
end Go.Proofs.YtckigoeomkphhaaGreat

namespace Go.Proofs.YtckigoeomkphhaaGreat
open Go.RowKit Go.MapKept
variable {w w1 w2 w' : World} {base b bp bq : Nat} {S : List PE} {Q : List PQ}

theorem mat2_any (W : World) (x : Int) (B B2 hb : Nat) (H : List (Int × Nat)) (hB : W.cell? ⟨B, 0, none⟩ = some (.map (some hb))) (hB2 : W.cell? ⟨B2, 0, none⟩ = some (.pointer (some ⟨b, 0, none⟩))) (hH : MapE W hb (.int .i64) (eH H)) (hi : IdxR W base b bp bq S Q) :
    Calls Tryz.prog 35 #[.int .i64 x, .pointer (some ⟨B, 0, none⟩), .pointer (some ⟨B2, 0, none⟩)] W fun e W' => e = .returned (.bool (decide (getH H x < (predS S x).length))) ∧ Ext W W' := by
  have HLH : Hid (∀ W', Ext W W' → (Instr.lookup 80 (.map (some hb)) (.int .i64 x) false).run Tryz.prog W' = .ok (.int .i64 (getH H x : Nat)) W') := fun W' hx => held_look (hH.ext hx) x
  obtain ⟨va, vc, hve, _, _⟩ := (hi.val x).pred.shape
  have HLP : Hid (∀ W', Ext W W' → (Instr.lookup 69 (.map (some bp)) (.int .i64 x) false).run Tryz.prog W' = .ok (.slice va (predS S x).length vc) W') := fun W' hx => by rw [← hve]; exact (mp_look (hi.mp.ext hx) x).2
  have tb0 := cell_of_row _ _ 0 _ _ _ hi.box
  clear hi hH hve
  generalize getH H x = gh at *
  generalize (predS S x).length = pl at *
  have hres : decide ((gh : Int) < (pl : Int)) = decide (gh < pl) := by by_cases h : gh < pl <;> simp [h]
  have HRES := Lib.hid hres
  clear hres
  go_enter Tryz.func35, Tryz.ntmps35
  go_upto_region 1 with fail
  refine wp_region_facts [Fact.eq (.map (some hb)),
      Fact.eq (.int .i64 x),
      Fact.eq (.int .i64 gh),
      Fact.eq (.pointer (some ⟨b, 0, none⟩)),
      Fact.eq (.pointer (some ⟨b, 0, none⟩)),
      Fact.eq (.pointer (some ⟨b, 0, none⟩)),
      Fact.eq (.map (some bp)),
      Fact.eq (.int .i64 x),
      Fact.eq (.slice va pl vc),
      Fact.eq (.int .i64 pl),
      Fact.eq (.bool (decide ((gh : Int) < (pl : Int)))),
      Fact.eq (.bool (decide ((gh : Int) < (pl : Int))))]
    [[], [], [(0, 5), (1, 6)], [], [(3, 8)], [(4, 9)], [(5, 10)], [], [(6, 11), (7, 12)], [(8, 13)], [(2, 7), (9, 14)], [(10, 15)]]
    [(0, 5), (1, 6), (2, 7), (3, 8), (4, 9), (5, 10), (6, 11), (7, 12), (8, 13), (9, 14), (10, 15), (11, 4)] (by kernel_rfl) (by kernel_rfl) ?_ ?_
  · refine ⟨?_, ?_, ?_, ?_, ?_, ?_, ?_, ?_, ?_, ?_, ?_, ?_, trivial⟩
    · intro w1 hx1; change wpList _ _ _ _ _ _; have m0 := hx1.cell hB; go_wp2_with fail; exact ⟨rfl, Ext.refl _, rfl, rfl⟩
    · intro w1 hx1; change wpList _ _ _ _ _ _; exact ob_move rfl rfl rfl rfl rfl
    · intro w1 hx1; rintro _ rfl; rintro _ rfl; change wpList _ _ _ _ _ _; have k1 := HLH.out w1 hx1; go_wp2_with fail; exact ⟨rfl, Ext.refl _, rfl, rfl⟩
    · intro w1 hx1; change wpList _ _ _ _ _ _; have m0 := hx1.cell hB2; go_wp2_with fail; exact ⟨rfl, Ext.refl _, rfl, rfl⟩
    · intro w1 hx1; rintro _ rfl; change wpList _ _ _ _ _ _; go_wp2_with fail; exact ⟨rfl, Ext.refl _, rfl, rfl⟩
    · intro w1 hx1; rintro _ rfl; change wpList _ _ _ _ _ _; go_wp2_with fail; exact ⟨rfl, Ext.refl _, rfl, rfl⟩
    · intro w1 hx1; rintro _ rfl; change wpList _ _ _ _ _ _; have m0 := hx1.cell tb0; go_wp2_with fail; exact ⟨rfl, Ext.refl _, rfl, rfl⟩
    · intro w1 hx1; change wpList _ _ _ _ _ _; exact ob_move rfl rfl rfl rfl rfl
    · intro w1 hx1; rintro _ rfl; rintro _ rfl; change wpList _ _ _ _ _ _; have k1 := HLP.out w1 hx1; go_wp2_with fail; exact ⟨rfl, Ext.refl _, rfl, rfl⟩
    · intro w1 hx1; rintro _ rfl; change wpList _ _ _ _ _ _; go_wp2_with fail; exact ⟨rfl, Ext.refl _, rfl, rfl⟩
    · intro w1 hx1; rintro _ rfl; rintro _ rfl; change wpList _ _ _ _ _ _; go_wp2_with fail; exact ⟨rfl, Ext.refl _, rfl, rfl⟩
    · intro w1 hx1; rintro _ rfl; change wpList _ _ _ _ _ _; exact ob_assign rfl rfl rfl rfl rfl
  · intro w1 hx1; rintro _ rfl; rintro _ rfl; rintro _ rfl; rintro _ rfl; rintro _ rfl; rintro _ rfl; rintro _ rfl; rintro _ rfl; rintro _ rfl; rintro _ rfl; rintro _ rfl; rintro _ rfl; refine depsThen_nil ?_; dsimp only; simp only [Act.put, List.setIfInBounds_toArray, List.set_cons_zero, List.set_cons_succ]
    go_wp2_with fail
    go_ret
    exact ⟨by rw [← HRES.out]; rfl, hx1⟩

set_option maxRecDepth 100000 in
set_option maxHeartbeats 4000000 in
theorem look1_any (W : World) (id : Int) (c : C) (sa : Option Addr) (sc : Nat) (v : V) (B n : Nat) (hn : n < 1000000) (hB : W.heap[B]? = some (.cells #[.int .i64 (n : Nat)] 3 (0, 0))) :
    Calls Tryz.prog 38 #[.agg #[.int .i64 id, .string (strOf c.name), .int .i64 c.op, .int .i64 c.v.k, .int .i64 c.v.n, .string (strOf c.v.s), .bool c.v.b, .slice sa c.set.length sc], .agg #[.int .i64 v.k, .int .i64 v.n, .string (strOf v.s), .bool v.b], .pointer (some ⟨B, 0, none⟩)] W fun e W' => e = .returned (.tuple #[]) ∧ W'.heap[B]? = some (.cells #[.int .i64 (n + 1 : Nat)] 3 (0, 0)) ∧ W.grownBy W' (some B) := by
  obtain ⟨hxa, hb1, hb2⟩ := boxes2 W (.cells #[.int .i64 id, .string (strOf c.name), .int .i64 c.op, .int .i64 c.v.k, .int .i64 c.v.n, .string (strOf c.v.s), .bool c.v.b, .slice sa c.set.length sc] 77) (.cells #[.int .i64 v.k, .int .i64 v.n, .string (strOf v.s), .bool v.b] 49)
  have hb := block_later hB hxa
  have m0 := cell_of_row _ _ 0 _ _ _ hb
  have z0 := frozen_of_row _ _ 0 _ _ hb
  have hrng : ((n : Int) + 1) = ((n + 1 : Nat) : Int) := by omega
  have HRNG := Lib.hid hrng
  have HB := Lib.hid hb
  have HX := Lib.hid hxa
  clear hb1 hb2 hB hb hxa hrng
  go_enter Tryz.func38, Tryz.ntmps38
  go_upto_region 1 with fail
  generalize (W.alloc (.cells #[.int .i64 id, .string (strOf c.name), .int .i64 c.op, .int .i64 c.v.k, .int .i64 c.v.n, .string (strOf c.v.s), .bool c.v.b, .slice sa c.set.length sc] 77)).alloc (.cells #[.int .i64 v.k, .int .i64 v.n, .string (strOf v.s), .bool v.b] 49) = wa at *
  go_wp2_with fail
  go_end0
  have hg := grown_setC wa B 0 (.int .i64 ((n : Int) + 1))
  have hs := setCell_blockC wa B 0 (.int .i64 ((n : Int) + 1)) _ _ _ HB.out
  refine ⟨rfl, ?_, ⟨hg.os.trans HX.out.os, hg.tape.trans HX.out.tape, hg.output.trans HX.out.output, Nat.le_trans HX.out.size hg.size, fun k hk hne => (hg.block k (Nat.lt_of_lt_of_le hk HX.out.size) hne).trans (HX.out.block k hk)⟩⟩
  rw [← HRNG.out]
  exact hs

set_option maxRecDepth 100000 in
set_option maxHeartbeats 4000000 in
theorem ids_any (w : World) (base b bp bq : Nat) (S : List PE) (Q : List PQ) (hi : IdxR w base b bp bq S Q) (hl : S.length ≤ 256) (hid : ∀ k ∈ S, (Lit.int .i64 k.id).wf = true) :
    Calls Tryz.prog 12 #[.pointer (some ⟨b, 0, none⟩)] w fun e w' => ∃ (v : Value) (l : List Int), e = .returned v ∧ l.Perm ((sS S).map (·.1)) ∧ (l.Pairwise fun a b => a ≤ b) ∧ w'.ownsRow w.heap.size 3 1 v l.length (l.flatMap iC1) ∧ Ext w w' := by
  have hm : MapE w bp (.int .i64) ((S.map fun k => (k.id, k.h)).map fun k => (.int .i64 k.1, k.2)) := by
    have h := hi.mp
    unfold eS at h
    rw [List.map_map]; exact h
  have hsd := sortedH_any w bp (S.map fun k => (k.id, k.h)) hm (fun k hk => by obtain ⟨x, hx, rfl⟩ := List.mem_map.1 hk; exact hid x hx) (by rw [List.length_map]; omega)
  have HSD := Lib.hid hsd
  have tb0 := cell_of_row _ _ 0 _ _ _ hi.box
  have HKS : Hid ((S.map fun k => (k.id, k.h)).map (·.1) = (sS S).map (·.1)) := by show _ = _; unfold sS; rw [List.map_map, List.map_map]; rfl
  clear hm hsd hi hid
  go_enter Tryz.func12, Tryz.ntmps12
  go_wp2_with (first
    | (go_at_call 37; (with_reducible refine (keysH_any (some bp) w).mono ?_); rintro e w1 ⟨rfl, rfl⟩)
    | (go_at_call 36; (with_reducible refine HSD.out.mono ?_); rintro e w2 ⟨v, l, rfl, h1, h2, h3, h4⟩; have H1 := Lib.hid h1; have H2 := Lib.hid h2; have H3 := Lib.hid h3; have H4 := Lib.hid h4; clear h1 h2 h3 h4))
  go_ret
  refine ⟨v, l, rfl, ?_, H2.out, ?_, H4.out⟩
  · have h := H1.out; rw [HKS.out] at h; exact h
  · rw [flat_iC1]; exact H3.out

set_option maxRecDepth 100000 in
set_option maxHeartbeats 4000000 in
theorem get_no (w : World) (base b bp bq : Nat) (S : List PE) (Q : List PQ) (hi : IdxR w base b bp bq S Q) (id : Int) (hh : hasS (sS S) id = false) :
    Calls Tryz.prog 11 #[.pointer (some ⟨b, 0, none⟩), .int .i64 id] w fun e w' => e = .returned (.tuple #[.slice none 0 0, .bool false]) ∧ Ext w w' := by
  have hlk := (mp_look hi.mp id).1
  rw [hh] at hlk
  obtain ⟨va, vc, hve, _, _⟩ := (hi.val id).pred.shape
  rw [hve] at hlk
  have tb0 := cell_of_row _ _ 0 _ _ _ hi.box
  clear hi hve hh
  generalize (predS S id).length = pl at *
  go_enter Tryz.func11, Tryz.ntmps11
  go_wp2_with fail
  go_ret2
  exact ⟨rfl, Ext.refl _⟩
set_option maxRecDepth 100000 in
set_option maxHeartbeats 4000000 in
theorem get_yes (w : World) (base b bp bq : Nat) (S : List PE) (Q : List PQ) (hi : IdxR w base b bp bq S Q) (id : Int) (hh : hasS (sS S) id = true) :
    Calls Tryz.prog 11 #[.pointer (some ⟨b, 0, none⟩), .int .i64 id] w fun e w' => ∃ (a : Option Addr) (cap : Nat) (us : List CS), e = .returned (.tuple #[.slice a us.length cap, .bool true]) ∧ us.map CS.c = nfT (predS S id) ∧ w'.ownsRow w.heap.size 52 7 (.slice a us.length cap) us.length (us.flatMap csC) ∧ (∀ x ∈ us, SetO w.heap.size w' x) ∧ Ext w w' := by
  have hlk := (mp_look hi.mp id).1
  rw [hh] at hlk
  have hn := normal_bothT w _ _ (hi.val id).pred
  obtain ⟨va, vc, hve, _, _⟩ := (hi.val id).pred.shape
  rw [hve] at hlk hn
  have HN := Lib.hid hn
  have tb0 := cell_of_row _ _ 0 _ _ _ hi.box
  clear hi hve hh hn
  obtain ⟨pl, hpl⟩ : ∃ pl, pl = (predS S id).length := ⟨_, rfl⟩
  rw [← hpl] at HN hlk
  clear hpl
  go_enter Tryz.func11, Tryz.ntmps11
  go_wp2_with (go_at_call 28; (with_reducible refine HN.out.mono ?_); rintro e w1 ⟨na, nc, us, rfl, hc1, hc2, hus, hown, hset, hx⟩; have HUS := Lib.hid hus; have HOWN := Lib.hid hown; have HSET := Lib.hid hset; have HX := Lib.hid hx; clear hc1 hc2 hus hown hset hx)
  go_ret2
  exact ⟨na, nc, us, rfl, HUS.out, HOWN.out, HSET.out, HX.out⟩
end Go.Proofs.YtckigoeomkphhaaGreat

namespace Go.Proofs.YtckigoeomkphhaaGreat
open Go.RowKit Go.MapKept
variable {w w1 w2 w' : World} {base b bp bq : Nat} {S : List PE} {Q : List PQ}

theorem pairs_small (h6 : ∀ k ∈ S, k.p.length ≤ 6) (h256 : S.length ≤ 256) (l : List AT) : (pairsOf (sS S) l).length ≤ 1536 := by
  have h := pairs_le (S := sS S) (m := 6) (fun k hk => by unfold sS at hk; obtain ⟨x, hx, rfl⟩ := List.mem_map.1 hk; exact h6 x hx) l
  rw [sS_len] at h
  omega

set_option maxRecDepth 100000 in
set_option maxHeartbeats 8000000 in
theorem looks_any (w : World) (base b bp bq : Nat) (S : List PE) (Q : List PQ) (hi : IdxR w base b bp bq S Q) (h6 : ∀ k ∈ S, k.p.length ≤ 6) (h256 : S.length ≤ 256) (key : List UInt8) (va : Value) (l : List AT) (hv : AttrR w va l) :
    Calls Tryz.prog 13 #[.pointer (some ⟨b, 0, none⟩), .agg #[.string (strOf key), va]] w fun e w' => e = .returned (.int .i64 ((pairsOf (sS S) l).length : Nat)) ∧ Ext w w' := by
  obtain ⟨a, cap, rfl, _, _⟩ := Row.shape hv
  have hsm := pairs_small h6 h256 l
  obtain ⟨hx2, hb1, hb2⟩ := boxes2 w (.cells #[.string (strOf key), .slice a l.length cap] 34) (.cells #[.int .i64 0] 3)
  have hask := asked_any w _ base b bp bq S Q hi hx2 key _ l hv 38 #[.pointer (some ⟨w.heap.size + 1, 0, none⟩)] (w.heap.size + 1) (by omega) (by rw [World.size_alloc, World.size_alloc]; omega)
    (fun d W => W.heap[w.heap.size + 1]? = some (.cells #[.int .i64 (d.length : Nat)] 3 (0, 0))) ent_look1 hb2 (fun d W W' h e => (e _ (by rw [World.size_alloc, World.size_alloc]; omega)).trans h)
    (fun d W id c sa sc v hJ hx hs hd => (look1_any W id c sa sc v _ d.length (by omega) hJ).mono fun e W' h => ⟨h.1, by rw [List.length_append, List.length_singleton]; exact h.2.1, h.2.2⟩)
  have e0 := cell_of_row _ _ 0 _ _ _ hb1
  have e1 := cell_of_row _ _ 1 _ _ _ hb1
  have HASK := Lib.hid hask
  clear hask hv hx2 hb1 hb2 hi h6 h256 hsm
  generalize l.length = n at *
  go_enter Tryz.func13, Tryz.ntmps13
  go_upto_region 3 with (go_at_call 31; (with_reducible refine HASK.out.mono ?_); rintro e w5 ⟨rfl, hj, hx⟩; have HJ := Lib.hid hj; have HX := Lib.hid hx; clear hj hx)
  have c0 := cell_of_row _ _ 0 _ _ _ HJ.out
  go_wp2_with fail
  go_ret
  exact ⟨rfl, HX.out⟩

theorem cell_same {W W' : World} {B : Nat} {u : Value} (hc : W.cell? ⟨B, 0, none⟩ = some u) (e : W'.heap[B]? = W.heap[B]?) : W'.cell? ⟨B, 0, none⟩ = some u := by
  unfold World.cell? at hc ⊢; rw [e]; exact hc
theorem cell_grown {W W' : World} {B q : Nat} {u : Value} (h : W.grownBy W' (some q)) (hc : W.cell? ⟨B, 0, none⟩ = some u) (hne : B ≠ q) : W'.cell? ⟨B, 0, none⟩ = some u :=
  cell_same hc (h.block B (World.block_lt_of_cell? W _ hc) fun e => hne (Option.some.inj e))
theorem predS_at (hn : (S.map PE.id).Nodup) {k : PE} (hk : k ∈ S) : predS S k.id = k.p := by
  obtain ⟨j, hj, rfl⟩ := List.getElem_of_mem hk
  unfold predS; rw [findS_at hn hj]

set_option maxRecDepth 100000 in
set_option maxHeartbeats 8000000 in
theorem match_any (w : World) (base b bp bq : Nat) (S : List PE) (Q : List PQ) (hi : IdxR w base b bp bq S Q) (h6 : ∀ k ∈ S, k.p.length ≤ 6) (h256 : S.length ≤ 256) (hid : ∀ k ∈ S, (Lit.int .i64 k.id).wf = true) (key : List UInt8) (va : Value) (l : List AT) (hv : AttrR w va l) :
    Calls Tryz.prog 10 #[.pointer (some ⟨b, 0, none⟩), .agg #[.string (strOf key), va]] w fun e w' => ∃ (v : Value) (r : List Int), e = .returned v ∧ w'.ownsRow w.heap.size 3 1 v r.length (r.flatMap iC1) ∧ (∀ L, RelSL (sS S) L → r = (L.filter fun k => matchP k.2 l).map (·.1)) ∧ r.length ≤ 256 ∧ Ext w w' := by
  obtain ⟨a, cap, rfl, _, _⟩ := Row.shape hv
  have hsm := pairs_small h6 h256 l
  obtain ⟨hx4, hb1, hb2, hb3, hb4⟩ := boxes4 w (.cells #[.pointer (some ⟨b, 0, none⟩)] 23) (.cells #[.string (strOf key), .slice a l.length cap] 34) (.map #[] 0) (.cells #[.map (some (w.heap.size + 1 + 1))] 80)
  have hmk : (Instr.makeMap 80 none).run Tryz.prog ((w.alloc (.cells #[.pointer (some ⟨b, 0, none⟩)] 23)).alloc (.cells #[.string (strOf key), .slice a l.length cap] 34)) = .ok (.map (some (w.heap.size + 1 + 1))) (((w.alloc (.cells #[.pointer (some ⟨b, 0, none⟩)] 23)).alloc (.cells #[.string (strOf key), .slice a l.length cap] 34)).alloc (.map #[] 0)) := by
    have h := run_makeMap (P := Tryz.prog) 80 ((w.alloc (.cells #[.pointer (some ⟨b, 0, none⟩)] 23)).alloc (.cells #[.string (strOf key), .slice a l.length cap] 34))
    rw [World.size_alloc, World.size_alloc] at h
    exact h
  have hj0 : HeldR (w.heap.size + 1 + 1) [] ((((w.alloc (.cells #[.pointer (some ⟨b, 0, none⟩)] 23)).alloc (.cells #[.string (strOf key), .slice a l.length cap] 34)).alloc (.map #[] 0)).alloc (.cells #[.map (some (w.heap.size + 1 + 1))] 80)) := ⟨[], ⟨#[], 0, hb3, stamped_empty 0, by simp, rfl⟩, fun _ => rfl⟩
  have hcb := cell_of_row _ _ 0 _ _ _ hb4
  have hask := asked_any w _ base b bp bq S Q hi hx4 key _ l hv 32 #[.pointer (some ⟨w.heap.size + 1 + 1 + 1, 0, none⟩)] (w.heap.size + 1 + 1) (by omega) (by rw [World.size_alloc, World.size_alloc, World.size_alloc, World.size_alloc]; omega)
    (fun d W => HeldR (w.heap.size + 1 + 1) d W ∧ W.cell? ⟨w.heap.size + 1 + 1 + 1, 0, none⟩ = some (.map (some (w.heap.size + 1 + 1))) ∧ W.cell? ⟨w.heap.size, 0, none⟩ = some (.pointer (some ⟨b, 0, none⟩))) ent_mat1 ⟨hj0, hcb, cell_of_row _ _ 0 _ _ _ hb1⟩
    (fun d W W' h e => ⟨h.1.same (e (w.heap.size + 1 + 1) (by rw [World.size_alloc, World.size_alloc, World.size_alloc, World.size_alloc]; omega)), cell_same h.2.1 (e (w.heap.size + 1 + 1 + 1) (by rw [World.size_alloc, World.size_alloc, World.size_alloc, World.size_alloc]; omega)), cell_same h.2.2 (e w.heap.size (by rw [World.size_alloc, World.size_alloc, World.size_alloc, World.size_alloc]; omega))⟩)
    (fun d W id c sa sc v hJ hx hs hd => (mat1_any W d id c sa sc v _ _ hJ.1 (by omega) hs hJ.2.1).mono fun e W' h => ⟨h.1, ⟨h.2.1, cell_grown h.2.2 hJ.2.1 (by omega), cell_grown h.2.2 hJ.2.2 (by omega)⟩, h.2.2⟩)
  have e0 := cell_of_row _ _ 0 _ _ _ hb1
  have e1 := cell_of_row _ _ 0 _ _ _ hb2
  have e2 := cell_of_row _ _ 1 _ _ _ hb2
  have HASK := Lib.hid hask
  have HI := Lib.hid hi
  have HID := Lib.hid hid
  have H256 := Lib.hid h256
  clear hask hv hx4 hb1 hb2 hb3 hb4 hi h6 hsm hj0 hid h256
  obtain ⟨n, hn⟩ : ∃ n, n = l.length := ⟨_, rfl⟩
  rw [← hn] at HASK hmk e2 hcb ⊢
  clear hn
  go_enter Tryz.func10, Tryz.ntmps10
  go_upto_region 3 with (go_at_call 31; (with_reducible refine HASK.out.mono ?_); rintro e w5 ⟨rfl, ⟨hj, hcB, hcI⟩, hx⟩; have HJ := Lib.hid hj; have HCB := Lib.hid hcB; have HCI := Lib.hid hcI; have HX := Lib.hid hx; clear hj hcB hcI hx)
  have hI5 := HI.out.ext HX.out
  have hids := ids_any w5 base b bp bq S Q hI5 H256.out HID.out
  have HIDS := Lib.hid hids
  have ci := HCI.out
  have cb := HCB.out
  clear hids hmk hcb e0 e1 e2
  go_wp2_with (first
    | (go_at_call 12; (with_reducible refine HIDS.out.mono ?_); rintro e w6 ⟨v, is, rfl, h1, h2, h3, h4⟩; have H1 := Lib.hid h1; have H2 := Lib.hid h2; have H3 := Lib.hid h3; have H4 := Lib.hid h4; clear h1 h2 h3 h4; obtain ⟨av, cv, rfl, _, _⟩ := own_shape H3.out)
    | (go_at_call 34
       obtain ⟨H, hH, hcnt⟩ := HJ.out
       have hdel := deleteI_any w6 w5.heap.size _ is H3.out (by have h := H1.out.length_eq; rw [List.length_map, sS_len] at h; have := H256.out; omega) 35 #[.pointer (some ⟨w.heap.size + 1 + 1 + 1, 0, none⟩), .pointer (some ⟨w.heap.size, 0, none⟩)] (fun x => decide (getH H x < (predS S x).length)) ent_mat2 (fun W x hg _ => (by
         have hxW : Ext w5 W := H4.out.grown_none hg (own_base H3.out)
         exact mat2_any W x _ _ _ H (hxW.cell HCB.out) (hxW.cell HCI.out) (hH.ext hxW) (hI5.ext hxW)))
       (with_reducible refine hdel.mono ?_)
       rintro e w7 ⟨v', rfl, ho, hg⟩; have HO := Lib.hid ho; have HG := Lib.hid hg; have HCN := Lib.hid hcnt; clear ho hg hcnt hH))
  go_ret
  obtain ⟨hI5ids⟩ : Nonempty ((S.map PE.id).Nodup) := ⟨HI.out.ids⟩
  refine ⟨v', is.filter fun x => !decide (getH H x < (predS S x).length), rfl, own_low HO.out HX.out.size, fun L hL => ?_, ?_, ?_⟩
  · have e1 := hL.ids H1.out H2.out
    rw [e1]
    refine match_ids hL l (fun x => decide (getH H x < (predS S x).length)) fun k hk => ?_
    unfold sS at hk
    obtain ⟨z, hz, rfl⟩ := List.mem_map.1 hk
    show decide (getH H z.id < (predS S z.id).length) = _
    rw [predS_at hI5ids hz, HCN.out]
  · refine Nat.le_trans (List.length_filter_le _ _) ?_
    have h := H1.out.length_eq
    rw [List.length_map, sS_len] at h
    have := H256.out
    omega
  · exact (HX.out.trans H4.out).grown_none HG.out fun q hq => Nat.le_trans HX.out.size (own_base H3.out q hq)
end Go.Proofs.YtckigoeomkphhaaGreat
