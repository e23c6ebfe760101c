/- What the stable sort's walks share: a row that is sorted where it lies; the exchange of two elements there. (Of any program.)
The stable sort at []api.Gap: swapRange, rotate. (Printed from one text for gaps and items.)
The stable sort at []api.Gap: rotate. (Printed from one text for gaps and items.)
The stable sort at []api.Gap: symMerge where one part has one element. (Printed from one text for gaps and items.)
The stable sort at []api.Gap: symMerge where the second part has one element. (Printed from one text for gaps and items.)
PLAIN: where a symmetric merge bisects, and what the parts are to each other there.
The stable sort at []api.Gap: symMerge. (Printed from one text for gaps and items.) -/
import Derived.Lib.Hide
import Derived.Deep.Cut
import Derived.Shelf.RegionOpenPlain
import Derived.IntWalk
import Derived.Test.YtaklnpjpndkccaaGreatProg
import Derived.Deep.DeepCutAuto
import Derived.Test.YtaklnpjpndkccaaGreatPk3
import Derived.Test.YtaklnpjpndkccaaGreatPk2
namespace Go.Proofs.YtaklnpjpndkccaaGreat
open Go.RowKit Go.Sort
section
variable {α : Type} [Inhabited α] {P : Program} {enc : α → List Value} {k : Nat} {kf : α → Int} {cf : α → α → Int} {g blk off N : Nat} {w : World}

/-- A row of N elements (k cells each) at blk, off, that is sorted by cf, which asks kf. -/
structure SoE (P : Program) (enc : α → List Value) (k : Nat) (kf : α → Int) (cf : α → α → Int) (g blk off N : Nat) (w : World) : Prop where
  hk : ∀ x, (enc x).length = k
  h1 : ∀ x, ∀ v ∈ enc x, v.oneCell' = true
  hcf : ∀ x y, cf x y < 0 ↔ kf x < kf y
  eg : ∀ args w, (callFunc g args).run P w = .ok (.enter g args) w
  hcmp : CmpLays P g #[] enc k cf blk off N w
  hH : ∃ d0 : Array α, d0.size = N ∧ HoldsK enc k w blk off d0
  hblk : blk < w.heap.size
  hsz : N < 4000000000

theorem SoE.grown (m n : Nat) (dk : Array α) (os os' : Array Obj) : grow ((sortWorldK enc k w blk off m dk os).drewN n) os' = sortWorldK enc k w blk off (m + n) dk (os ++ os') := sortWorldK_grown_c enc k w blk off m n dk os os'
theorem SoE.holds (E : SoE P enc k kf cf g blk off N w) {dk : Array α} (hs : dk.size = N) (m : Nat) (os : Array Obj) : HoldsK enc k (sortWorldK enc k w blk off m dk os) blk off dk := by
  obtain ⟨d0, h0, hH⟩ := E.hH
  exact holdsK_sortWorldK_c enc k w blk off d0 dk m os hH E.hblk (hs.trans h0.symm)
theorem SoE.load (E : SoE P enc k kf cf g blk off N w) {dk : Array α} (hs : dk.size = N) {i : Nat} (hi : i < N) (m : Nat) (os : Array Obj) :
    Sem.run P (loadCellsFrom ⟨blk, off + i * k, none⟩ 0 k #[]) (sortWorldK enc k w blk off m dk os) = .ok (enc dk[i]!).toArray (sortWorldK enc k w blk off m dk os) :=
  run_loadCellsFrom_list P _ _ _ k (E.hk _) (HoldsK.cells (E.holds hs m os) E.hk (by omega))
/-- The exchange, as a region sees it. -/
theorem SoE.swap (E : SoE P enc k kf cf g blk off N w) {dk : Array α} (hs : dk.size = N) {i j : Nat} (hi : i < N) (hj : j < N) (m : Nat) (os : Array Obj) :
    ∃ (cI cJ : List Value) (W0 W1 W2 : World), W0 = (sortWorldK enc k w blk off m dk os).drew ∧ cI.length = k ∧ cJ.length = k
      ∧ Sem.run P (loadCellsFrom ⟨blk, off + i * k, none⟩ 0 k #[]) W0 = .ok cI.toArray W0 ∧ Sem.run P (loadCellsFrom ⟨blk, off + j * k, none⟩ 0 k #[]) W0 = .ok cJ.toArray W0
      ∧ Sem.run P (storeCells ⟨blk, off + i * k, none⟩ cJ 0) W0 = .ok () W1 ∧ Sem.run P (storeCells ⟨blk, off + j * k, none⟩ cI 0) W1 = .ok () W2
      ∧ W2 = sortWorldK enc k w blk off (m + 1) (swp dk i j) os := by
  have hw : (sortWorldK enc k w blk off m dk os).drew = sortWorldK enc k w blk off (m + 1) dk os := rfl
  have hH : HoldsK enc k (sortWorldK enc k w blk off m dk os).drew blk off dk := by rw [hw]; exact E.holds hs _ _
  have bnd : ∀ x, x < dk.size → x * k + k ≤ dk.size * k := fun x hx => by
    have := Nat.mul_le_mul_right k (show x + 1 ≤ dk.size from hx); rwa [Nat.add_mul, Nat.one_mul] at this
  refine ⟨enc dk[i]!, enc dk[j]!, (sortWorldK enc k w blk off m dk os).drew, (sortWorldK enc k w blk off m dk os).drew.setCells blk (off + i * k) (enc dk[j]!), ((sortWorldK enc k w blk off m dk os).drew.setCells blk (off + i * k) (enc dk[j]!)).setCells blk (off + j * k) (enc dk[i]!), rfl, E.hk _, E.hk _, ?_, ?_, ?_, ?_, ?_⟩
  · rw [hw]; exact E.load hs hi _ _
  · rw [hw]; exact E.load hs hj _ _
  · exact stores_of_holds P hH (i * k) _ (by rw [E.hk, size_flatK]; exact bnd i (by omega)) (E.h1 _)
  · exact stores_of_holds P (holds_setCells_c hH (i * k) _ (by rw [E.hk, size_flatK]; exact bnd i (by omega))) (j * k) _ (by rw [E.hk, size_setMany, size_flatK]; exact bnd j (by omega)) (E.h1 _)
  · exact sortWorldK_swp_c enc k w blk off E.hk m dk os E.hblk i j (by omega) (by omega)

/-- What a region that asks the order sees: loads and the question itself, in every world behind draws and blocks. -/
theorem SoE.ldG (E : SoE P enc k kf cf g blk off N w) {dk : Array α} (hs : dk.size = N) {i : Nat} (hi : i < N) (m : Nat) (os : Array Obj) (n' : Nat) (os' : Array Obj) :
    Sem.run P (loadCellsFrom ⟨blk, off + i * k, none⟩ 0 k #[]) (grow ((sortWorldK enc k w blk off m dk os).drewN n') os') = .ok (enc dk[i]!).toArray (grow ((sortWorldK enc k w blk off m dk os).drewN n') os') := by
  rw [SoE.grown]; exact E.load hs hi _ _
theorem SoE.cmG (E : SoE P enc k kf cf g blk off N w) {dk : Array α} (hs : dk.size = N) (x y : α) (m : Nat) (os : Array Obj) (n' : Nat) (os' : Array Obj) :
    Calls P g (#[.agg (enc x).toArray, .agg (enc y).toArray] ++ #[]) (grow ((sortWorldK enc k w blk off m dk os).drewN n') os') fun e w' => e = .returned (.int .i64 (cf x y)) ∧ ∃ q os'', w' = grow ((grow ((sortWorldK enc k w blk off m dk os).drewN n') os').drewN q) os'' := by
  rw [SoE.grown]; exact E.hcmp _ _ dk hs x y

/-- Bisection: what is known of a question that is answered yes up to a place, no from there on. -/
def BisI (Q : Nat → Bool) (lo hi i j : Nat) : Prop := lo ≤ i ∧ i ≤ j ∧ j ≤ hi ∧ (∀ t, lo ≤ t → t < i → Q t = true) ∧ ∀ t, j ≤ t → t < hi → Q t = false
theorem BisI.start (Q : Nat → Bool) {lo hi : Nat} (h : lo ≤ hi) : BisI Q lo hi lo hi := ⟨Nat.le_refl _, h, Nat.le_refl _, fun _ h1 h2 => by omega, fun _ h1 h2 => by omega⟩
theorem BisI.yes {Q : Nat → Bool} {lo hi i j h : Nat} (hb : BisI Q lo hi i j) (hm : ∀ s t, lo ≤ s → s ≤ t → t < hi → Q t = true → Q s = true) (h1 : i ≤ h) (h2 : h < j) (hq : Q h = true) : BisI Q lo hi (h + 1) j :=
  ⟨by have := hb.1; omega, by omega, hb.2.2.1, fun t ht h3 => hm t h ht (by omega) (by have := hb.2.2.1; omega) hq, hb.2.2.2.2⟩
theorem BisI.no {Q : Nat → Bool} {lo hi i j h : Nat} (hb : BisI Q lo hi i j) (hm : ∀ s t, lo ≤ s → s ≤ t → t < hi → Q t = true → Q s = true) (h1 : i ≤ h) (h2 : h < j) (hq : Q h = false) : BisI Q lo hi i h :=
  ⟨hb.1, h1, by have := hb.2.2.1; omega, hb.2.2.2.1, fun t ht h3 => by
    cases hc : Q t with
    | false => rfl
    | true => have := hm h t (by have := hb.1; omega) ht h3 hc; rw [hq] at this; exact Bool.noConfusion this⟩
end
end Go.Proofs.YtaklnpjpndkccaaGreat

namespace Go.Proofs.YtaklnpjpndkccaaGreat
open Go.RowKit Go.Sort
/-- What the walks ask of the program: the element's size is a letter. -/
structure StLGap (P : Program) (k : Nat) : Prop where
  mixed : P.follows .mixedOrders = true
  f1 : P.funcs[155]? = some Tryz.f155
  f2 : P.funcs[136]? = some Tryz.f136
  f3 : P.funcs[110]? = some Tryz.f110
  e1 : ∀ args w, (callFunc 155 args).run P w = .ok (.enter 155 args) w
  e2 : ∀ args w, (callFunc 136 args).run P w = .ok (.enter 136 args) w
  e3 : ∀ args w, (callFunc 110 args).run P w = .ok (.enter 110 args) w
  tI : P.underlying 3 = some (TypeDesc.int IntKind.i64)
  aI : ∀ w, (isAgg 3).run P w = .ok false w
  zI : ∀ w, (Go.sizeOf 3).run P w = .ok 1 w
  vI : ∀ w, (zeroValue 3).run P w = .ok (Value.int IntKind.i64 0) w
  tB : P.underlying 4 = some (TypeDesc.bool)
  aB : ∀ w, (isAgg 4).run P w = .ok false w
  zB : ∀ w, (Go.sizeOf 4).run P w = .ok 1 w
  vB : ∀ w, (zeroValue 4).run P w = .ok (Value.bool false) w
  tU : P.underlying 60 = some (TypeDesc.int IntKind.u64)
  aU : ∀ w, (isAgg 60).run P w = .ok false w
  zU : ∀ w, (Go.sizeOf 60).run P w = .ok 1 w
  vU : ∀ w, (zeroValue 60).run P w = .ok (Value.int IntKind.u64 0) w
  tS : P.underlying 32 = some (TypeDesc.slice 51)
  aS : ∀ w, (isAgg 32).run P w = .ok false w
  zS : ∀ w, (Go.sizeOf 32).run P w = .ok 1 w
  vS : ∀ w, (zeroValue 32).run P w = .ok (Value.slice none 0 0) w
  tF : P.underlying 109 = some (TypeDesc.func #[51, 51] #[3] false)
  aF : ∀ w, (isAgg 109).run P w = .ok false w
  zF : ∀ w, (Go.sizeOf 109).run P w = .ok 1 w
  vF : ∀ w, (zeroValue 109).run P w = .ok (Value.nilFunc) w
  aE : ∀ w, (isAgg 51).run P w = .ok true w
  zE : ∀ w, (Go.sizeOf 51).run P w = .ok k w
theorem Tryz.stGap : StLGap Tryz.prog 2 where
  mixed := by kernel_rfl
  f1 := Tryz.func155
  f2 := Tryz.func136
  f3 := Tryz.func110
  e1 := enters_of Tryz.func155 (by kernel_rfl) rfl
  e2 := enters_of Tryz.func136 (by kernel_rfl) rfl
  e3 := enters_of Tryz.func110 (by kernel_rfl) rfl
  tI := Tryz.underlying3
  aI := Tryz.isAgg3
  zI := Tryz.sizeOf3
  vI := Tryz.zeroValue3
  tB := Tryz.underlying4
  aB := Tryz.isAgg4
  zB := Tryz.sizeOf4
  vB := Tryz.zeroValue4
  tU := Tryz.underlying60
  aU := Tryz.isAgg60
  zU := Tryz.sizeOf60
  vU := Tryz.zeroValue60
  tS := Tryz.underlying32
  aS := Tryz.isAgg32
  zS := Tryz.sizeOf32
  vS := Tryz.zeroValue32
  tF := Tryz.underlying109
  aF := Tryz.isAgg109
  zF := Tryz.sizeOf109
  vF := Tryz.zeroValue109
  aE := Tryz.isAgg51
  zE := Tryz.sizeOf51
section
variable {α : Type} [Inhabited α] {enc : α → List Value} {kf : α → Int} {cf : α → α → Int} {g blk off N k : Nat} {w : World} {P : Program}

theorem swapRangeGap (L : StLGap P k) (E : SoE P enc k kf cf g blk off N w) (cap : Nat) (A U M V S : List α) (hUV : U.length = V.length) (hN : (A ++ U ++ M ++ V ++ S).length = N) (m : Nat) (os : Array Obj) (a b n : Nat) (ha : a = A.length) (hb : b = A.length + U.length + M.length) (hn : n = U.length) :
    Calls P 155 #[.slice (some ⟨blk, off, none⟩) N cap, .int .i64 a, .int .i64 b, .int .i64 n, .func (.func g) #[] #[]] (sortWorldK enc k w blk off m (A ++ U ++ M ++ V ++ S).toArray os)
      fun e w' => e = .returned (.tuple #[]) ∧ ∃ m' os', w' = sortWorldK enc k w blk off m' (A ++ V ++ M ++ U ++ S).toArray os' := by
  have mixed := L.mixed; have tI := L.tI; have aI := L.aI; have zI := L.zI; have vI := L.vI; have tB := L.tB; have aB := L.aB; have zB := L.zB; have vB := L.vB; have tS := L.tS; have aS := L.aS; have zS := L.zS; have vS := L.vS; have tF := L.tF; have aF := L.aF; have zF := L.zF; have vF := L.vF; have aE := L.aE; have zE := L.zE
  have uS := run_underlying L.tS
  have HE := Lib.hid E
  have hsz := E.hsz
  have hN' : A.length + U.length + M.length + V.length + S.length = N := by rw [← hN]; simp only [List.length_append]
  have hbN : b + n ≤ N := by omega
  have haN : a + n ≤ N := by omega
  have HA := Lib.hid (show a = A.length ∧ b = A.length + U.length + M.length ∧ n = U.length ∧ n = V.length from ⟨ha, hb, hn, by omega⟩)
  have HN := Lib.hid hN'
  clear E ha hb hn hUV hN hN'
  obtain ⟨w0, hw0⟩ : ∃ w0, w0 = sortWorldK enc k w blk off m (A ++ U ++ M ++ V ++ S).toArray os := ⟨_, rfl⟩
  rw [← hw0]
  have HW0 := Lib.hid hw0
  clear hw0
  go_enter L.f1, Tryz.ntmps155
  go_wp2_with fail
  go_loopg [10] n (fun g1 vi wr => ∃ i : Nat, vi = .int .i64 i ∧ i ≤ n ∧ n - i ≤ g1 ∧ Hid (∃ (m' : Nat) (os' : Array Obj) (U1 U2 V1 V2 : List α), U = U1 ++ U2 ∧ V = V1 ++ V2 ∧ U1.length = i ∧ V1.length = i ∧ wr = sortWorldK enc k w blk off m' (A ++ V1 ++ U2 ++ M ++ U1 ++ V2 ++ S).toArray os'))
  case atStart => exact ⟨0, rfl, Nat.zero_le _, Nat.le_refl _, m, os, [], U, [], V, rfl, rfl, rfl, rfl, by rw [HW0.out]; simp⟩
  case round =>
    clear HW0
    obtain ⟨i, rfl, hi, hg, hst⟩ := hrel
    by_cases h : i < n
    · have hI : decide ((i : Int) < (n : Int)) = true := decide_eq_true (by omega)
      obtain ⟨p, hp⟩ : ∃ p : Nat, (p : Int) = (a : Int) + i := ⟨a + i, by omega⟩
      obtain ⟨q, hq⟩ : ∃ q : Nat, (q : Int) = (b : Int) + i := ⟨b + i, by omega⟩
      have hp' : (a : Int) + (i : Int) = (p : Int) := hp.symm
      have hq' : (b : Int) + (i : Int) = (q : Int) := hq.symm
      have hpN : p < N := by omega
      have hqN : q < N := by omega
      have HP := Lib.hid (show p = a + i ∧ q = b + i from ⟨by omega, by omega⟩)
      clear hp hq
      obtain ⟨cI, cJ, W0, W1, W2, HX, h1, h2, h3, h4, h5, h6⟩ : ∃ (cI cJ : List Value) (W0 W1 W2 : World), Hid (∃ (m' : Nat) (os' : Array Obj) (U1 U2 V1 V2 : List α), W0 = wr.drew ∧ U = U1 ++ U2 ∧ V = V1 ++ V2 ∧ U1.length = i + 1 ∧ V1.length = i + 1 ∧ W2 = sortWorldK enc k w blk off m' (A ++ V1 ++ U2 ++ M ++ U1 ++ V2 ++ S).toArray os')
          ∧ cI.length = k ∧ cJ.length = k ∧ Sem.run P (loadCellsFrom ⟨blk, off + p * k, none⟩ 0 k #[]) wr.drew = .ok cI.toArray wr.drew ∧ Sem.run P (loadCellsFrom ⟨blk, off + q * k, none⟩ 0 k #[]) wr.drew = .ok cJ.toArray wr.drew
          ∧ Sem.run P (storeCells ⟨blk, off + p * k, none⟩ cJ 0) wr.drew = .ok () W1 ∧ Sem.run P (storeCells ⟨blk, off + q * k, none⟩ cI 0) W1 = .ok () W2 := by
        obtain ⟨m', os', U1, U2, V1, V2, e1, e2, e3, e4, e5⟩ := hst.out
        obtain ⟨hA1, hA2, hA3, hA4⟩ := HA.out
        obtain ⟨hP1, hP2⟩ := HP.out
        have hN := HN.out
        rw [e1] at hA2 hA3 hN
        rw [e2] at hA4 hN
        simp only [List.length_append] at hA2 hA3 hA4 hN
        obtain ⟨x, U3, rfl⟩ : ∃ x U3, U2 = x :: U3 := by
          cases U2 with
          | nil => simp at hA3; omega
          | cons x U3 => exact ⟨x, U3, rfl⟩
        obtain ⟨y, V3, rfl⟩ : ∃ y V3, V2 = y :: V3 := by
          cases V2 with
          | nil => simp at hA4; omega
          | cons x U3 => exact ⟨x, U3, rfl⟩
        have hsz2 : (A ++ V1 ++ (x :: U3) ++ M ++ U1 ++ (y :: V3) ++ S).toArray.size = N := by
          simp only [List.size_toArray, List.length_append, List.length_cons] at hN ⊢; omega
        obtain ⟨cI, cJ, W0, W1, W2, k0, k1, k2, k3, k4, k5, k6, k7⟩ := HE.out.swap hsz2 hpN hqN m' os'
        have hsw := swp_list (A ++ V1) (U3 ++ M ++ U1) (V3 ++ S) x y
        have eP : (A ++ V1).length = p := by simp only [List.length_append]; omega
        have eQ : p + 1 + (U3 ++ M ++ U1).length = q := by simp only [List.length_append, List.length_cons] at hA2 ⊢; omega
        rw [eP, eQ] at hsw
        have eL : A ++ V1 ++ (x :: U3) ++ M ++ U1 ++ (y :: V3) ++ S = A ++ V1 ++ x :: (U3 ++ M ++ U1 ++ y :: (V3 ++ S)) := by simp
        rw [eL, hsw] at k7
        rw [k0] at k3 k4 k5
        rw [e5]
        refine ⟨cI, cJ, W0, W1, W2, ⟨m' + 1, os', U1 ++ [x], U3, V1 ++ [y], V3, k0, by simp [e1], by simp [e2], by simp [e3], by simp [e4], ?_⟩, k1, k2, k3, k4, k5, k6⟩
        rw [k7]
        congr 2
        simp
      clear hst
      go_upto_region 3 with fail
      go_big_region_o
      all_goals go_wp2
      go_roundg (n - (i + 1))
      case measure => omega
      case rel =>
        obtain ⟨m', os', U1, U2, V1, V2, e0, e1, e2, e3, e4, e5⟩ := HX.out
        exact ⟨i + 1, by go_num, by omega, Nat.le_refl _, m', os', U1, U2, V1, V2, e1, e2, e3, e4, e5⟩
    · have hI : decide ((i : Int) < (n : Int)) = false := decide_eq_false (by omega)
      have hin : i = n := by omega
      go_wp2
      go_end0
      refine ⟨rfl, ?_⟩
      obtain ⟨m', os', U1, U2, V1, V2, e1, e2, e3, e4, e5⟩ := hst.out
      obtain ⟨hA1, hA2, hA3, hA4⟩ := HA.out
      have hU2 : U2 = [] := by rw [e1] at hA3; simp only [List.length_append] at hA3; exact List.length_eq_zero_iff.1 (by omega)
      have hV2 : V2 = [] := by rw [e2] at hA4; simp only [List.length_append] at hA4; exact List.length_eq_zero_iff.1 (by omega)
      refine ⟨m', os', ?_⟩
      rw [e5, e1, e2, hU2, hV2]
      simp
end
end Go.Proofs.YtaklnpjpndkccaaGreat

namespace Go.Proofs.YtaklnpjpndkccaaGreat
open Go.RowKit Go.Sort
section
variable {α : Type} [Inhabited α] {enc : α → List Value} {kf : α → Int} {cf : α → α → Int} {g blk off N k : Nat} {w : World} {P : Program}

theorem rotateGap (L : StLGap P k) (E : SoE P enc k kf cf g blk off N w) (cap : Nat) (A U V S : List α) (hU : U ≠ []) (hV : V ≠ []) (hN : (A ++ U ++ V ++ S).length = N) (m : Nat) (os : Array Obj) (a mm b : Nat) (ha : a = A.length) (hm : mm = A.length + U.length) (hb : b = A.length + U.length + V.length) :
    Calls P 136 #[.slice (some ⟨blk, off, none⟩) N cap, .int .i64 a, .int .i64 mm, .int .i64 b, .func (.func g) #[] #[]] (sortWorldK enc k w blk off m (A ++ U ++ V ++ S).toArray os)
      fun e w' => e = .returned (.tuple #[]) ∧ ∃ m' os', w' = sortWorldK enc k w blk off m' (A ++ V ++ U ++ S).toArray os' := by
  have mixed := L.mixed; have tI := L.tI; have aI := L.aI; have zI := L.zI; have vI := L.vI; have tB := L.tB; have aB := L.aB; have zB := L.zB; have vB := L.vB; have tS := L.tS; have aS := L.aS; have zS := L.zS; have vS := L.vS; have tF := L.tF; have aF := L.aF; have zF := L.zF; have vF := L.vF; have aE := L.aE; have zE := L.zE
  have uS := run_underlying L.tS
  have e1 := L.e1
  have HE := Lib.hid E
  have hsz := E.hsz
  have hU0 : 0 < U.length := List.length_pos_iff.2 hU
  have hV0 : 0 < V.length := List.length_pos_iff.2 hV
  have hN' : A.length + U.length + V.length + S.length = N := by rw [← hN]; simp only [List.length_append]
  have hbN : b ≤ N := by omega
  have hmb : mm < b := by omega
  have ham : a < mm := by omega
  obtain ⟨i0, hi0⟩ : ∃ x : Nat, x = U.length := ⟨_, rfl⟩
  obtain ⟨j0, hj0⟩ : ∃ x : Nat, x = V.length := ⟨_, rfl⟩
  have q1 : (mm : Int) - (a : Int) = (i0 : Int) := by omega
  have q2 : (b : Int) - (mm : Int) = (j0 : Int) := by omega
  have hi1 : 0 < i0 := by omega
  have hj1 : 0 < j0 := by omega
  have hi2 : i0 ≤ mm := by omega
  have hj2 : mm + j0 ≤ N := by omega
  have HA := Lib.hid (show A.length + i0 = mm ∧ U.length = i0 ∧ V.length = j0 from ⟨by omega, by omega, by omega⟩)
  have HN := Lib.hid hN
  clear E ha hb hm hN hN' hU hV hU0 hV0 hi0 hj0
  obtain ⟨w0, hw0⟩ : ∃ w0, w0 = sortWorldK enc k w blk off m (A ++ U ++ V ++ S).toArray os := ⟨_, rfl⟩
  rw [← hw0]
  have HW0 := Lib.hid hw0
  clear hw0
  have CL : Hid (∀ (wr : World) (i j : Nat) (P' U1 M V1 S' : List α) (pa pb : Nat), U1.length = V1.length → P'.length + U1.length + M.length + V1.length + S'.length = N → pa = P'.length → pb = P'.length + U1.length + M.length → j = U1.length →
      (∃ m' os', wr = sortWorldK enc k w blk off m' (P' ++ U1 ++ M ++ V1 ++ S').toArray os') →
      Calls P 155 #[.slice (some ⟨blk, off, none⟩) N cap, .int .i64 pa, .int .i64 pb, .int .i64 j, .func (.func g) #[] #[]] wr
        fun e w' => e = .returned (.tuple #[]) ∧ Hid (∃ m' os', w' = sortWorldK enc k w blk off m' (P' ++ V1 ++ M ++ U1 ++ S').toArray os')) :=
    fun wr i j P' U1 M V1 S' pa pb h1 h2 h3 h4 h5 h6 => by
      obtain ⟨m', os', rfl⟩ := h6
      exact (swapRangeGap L HE.out cap P' U1 M V1 S' h1 (by simp only [List.length_append]; exact h2) m' os' pa pb j h3 h4 h5).mono fun _ _ h => ⟨h.1, h.2⟩
  go_enter L.f2, Tryz.ntmps136
  go_wp2_with fail
  go_loopw [10, 11] (fun iv jv wr => ∃ i j : Nat, iv = .int .i64 i ∧ jv = .int .i64 j ∧ 0 < i ∧ 0 < j ∧ i ≤ mm ∧ mm + j ≤ N ∧ Hid (∃ (m' : Nat) (os' : Array Obj) (P' U' V' S' : List α), P'.length + i = mm ∧ U'.length = i ∧ V'.length = j ∧ P' ++ V' ++ U' ++ S' = A ++ V ++ U ++ S ∧ wr = sortWorldK enc k w blk off m' (P' ++ U' ++ V' ++ S').toArray os')) (fun iv jv _ => (intOf iv).toNat + (intOf jv).toNat)
  case atStart => exact ⟨i0, j0, rfl, rfl, hi1, hj1, hi2, hj2, m, os, A, U, V, S, HA.out.1, HA.out.2.1, HA.out.2.2, rfl, HW0.out⟩
  case round =>
    clear HW0 q1 q2 hi1 hj1 hi2 hj2
    obtain ⟨i, j, rfl, rfl, hi, hj, him, hjN, hst⟩ := hrel
    obtain ⟨p, hp⟩ : ∃ p : Nat, (p : Int) = (mm : Int) - i := ⟨mm - i, by omega⟩
    have q1 : (mm : Int) - (i : Int) = (p : Int) := hp.symm
    have HP := Lib.hid (show p = mm - i by omega)
    clear hp
    have HT : Hid (∀ P' U' V' S' : List α, P' ++ V' ++ U' ++ S' = A ++ V ++ U ++ S → P'.length + U'.length + V'.length + S'.length = N) := fun P' U' V' S' h => by
      have h1 := congrArg List.length h
      have h2 := HN.out
      simp only [List.length_append] at h1 h2
      omega
    by_cases hne : i = j
    · have hI : ((i : Int) != (j : Int)) = false := by subst hne; simp
      have C : Hid (Calls P 155 #[.slice (some ⟨blk, off, none⟩) N cap, .int .i64 p, .int .i64 mm, .int .i64 i, .func (.func g) #[] #[]] wr
        fun e w' => e = .returned (.tuple #[]) ∧ Hid (∃ m' os', w' = sortWorldK enc k w blk off m' (A ++ V ++ U ++ S).toArray os')) := by
        obtain ⟨m', os', P', U', V', S', h1, h2, h3, h4, h5⟩ := hst.out
        have hl := HT.out P' U' V' S' h4
        have := CL.out wr i i P' U' [] V' S' p mm (by omega) (by simp only [List.length_nil]; omega) (by have := HP.out; omega) (by simp only [List.length_nil]; omega) (by omega) ⟨m', os', by rw [h5]; simp⟩
        rw [show P' ++ V' ++ [] ++ U' ++ S' = A ++ V ++ U ++ S by rw [← h4]; simp] at this
        exact this
      clear hst CL HT hne
      go_wp2_with ((with_reducible refine C.out.mono ?_); rintro e w5 ⟨rfl, h5⟩)
      go_end0
      exact ⟨rfl, h5.out⟩
    · have hI : ((i : Int) != (j : Int)) = true := by simp; omega
      by_cases hlt : j < i
      · have hI2 : decide ((j : Int) < (i : Int)) = true := decide_eq_true (by omega)
        obtain ⟨i2, hi2⟩ : ∃ x : Nat, (x : Int) = (i : Int) - j := ⟨i - j, by omega⟩
        have q3 : (i : Int) - (j : Int) = (i2 : Int) := hi2.symm
        have HI := Lib.hid hi2
        clear hi2
        have C : Hid (Calls P 155 #[.slice (some ⟨blk, off, none⟩) N cap, .int .i64 p, .int .i64 mm, .int .i64 j, .func (.func g) #[] #[]] wr
          fun e w' => e = .returned (.tuple #[]) ∧ Hid (∃ (m' : Nat) (os' : Array Obj) (P' U' V' S' : List α), P'.length + i2 = mm ∧ U'.length = i2 ∧ V'.length = j ∧ P' ++ V' ++ U' ++ S' = A ++ V ++ U ++ S ∧ w' = sortWorldK enc k w blk off m' (P' ++ U' ++ V' ++ S').toArray os')) := by
          obtain ⟨m', os', P', U', V', S', h1, h2, h3, h4, h5⟩ := hst.out
          have hl := HT.out P' U' V' S' h4
          have hi2 := HI.out
          have h6 : (U'.take j).length = j := by rw [List.length_take]; omega
          have h7 : (U'.drop j).length = i2 := by rw [List.length_drop]; omega
          have h8 := List.take_append_drop j U'
          generalize U'.take j = U1 at *
          generalize U'.drop j = U2 at *
          subst h8
          refine (CL.out wr i j P' U1 U2 V' S' p mm (by omega) (by simp only [List.length_append] at hl; omega) (by have := HP.out; omega) (by omega) (by omega) ⟨m', os', by rw [h5]; simp⟩).mono ?_
          rintro e w' ⟨rfl, hw⟩
          obtain ⟨m2, os2, rfl⟩ := hw.out
          refine ⟨rfl, m2, os2, P' ++ V', U2, U1, S', by rw [List.length_append]; omega, h7, h6, ?_, by congr 1⟩
          rw [← h4]; simp
        clear hst CL HT hne
        go_wp2_with ((with_reducible refine C.out.mono ?_); rintro e w5 ⟨rfl, h5⟩)
        go_roundw
        case rel => exact ⟨i2, j, rfl, rfl, by have := HI.out; omega, hj, by have := HI.out; omega, hjN, h5⟩
        case measure => have := HI.out; simp [intOf]; omega
      · have hI2 : decide ((j : Int) < (i : Int)) = false := decide_eq_false (by omega)
        have hij : i < j := by omega
        obtain ⟨j2, hj2⟩ : ∃ x : Nat, (x : Int) = (j : Int) - i := ⟨j - i, by omega⟩
        have q3 : (j : Int) - (i : Int) = (j2 : Int) := hj2.symm
        obtain ⟨s, hs⟩ : ∃ x : Nat, (x : Int) = (mm : Int) + j := ⟨mm + j, by omega⟩
        have q4 : (mm : Int) + (j : Int) = (s : Int) := hs.symm
        obtain ⟨q, hq⟩ : ∃ x : Nat, (x : Int) = (s : Int) - i := ⟨s - i, by omega⟩
        have q5 : (s : Int) - (i : Int) = (q : Int) := hq.symm
        have hsN : s ≤ N := by omega
        have HI := Lib.hid (And.intro hj2 (And.intro hs hq))
        clear hj2 hs hq
        have C : Hid (Calls P 155 #[.slice (some ⟨blk, off, none⟩) N cap, .int .i64 p, .int .i64 q, .int .i64 i, .func (.func g) #[] #[]] wr
          fun e w' => e = .returned (.tuple #[]) ∧ Hid (∃ (m' : Nat) (os' : Array Obj) (P' U' V' S' : List α), P'.length + i = mm ∧ U'.length = i ∧ V'.length = j2 ∧ P' ++ V' ++ U' ++ S' = A ++ V ++ U ++ S ∧ w' = sortWorldK enc k w blk off m' (P' ++ U' ++ V' ++ S').toArray os')) := by
          obtain ⟨m', os', P', U', V', S', h1, h2, h3, h4, h5⟩ := hst.out
          have hl := HT.out P' U' V' S' h4
          obtain ⟨hj2, hs, hq⟩ := HI.out
          have h6 : (V'.take j2).length = j2 := by rw [List.length_take]; omega
          have h7 : (V'.drop j2).length = i := by rw [List.length_drop]; omega
          have h8 := List.take_append_drop j2 V'
          generalize V'.take j2 = V1 at *
          generalize V'.drop j2 = V2 at *
          subst h8
          refine (CL.out wr i i P' U' V1 V2 S' p q (by omega) (by simp only [List.length_append] at hl; omega) (by have := HP.out; omega) (by omega) (by omega) ⟨m', os', by rw [h5]; simp⟩).mono ?_
          rintro e w' ⟨rfl, hw⟩
          obtain ⟨m2, os2, rfl⟩ := hw.out
          refine ⟨rfl, m2, os2, P', V2, V1, U' ++ S', h1, h7, h6, ?_, by simp⟩
          rw [← h4]; simp
        clear hst CL HT hne
        go_wp2_with ((with_reducible refine C.out.mono ?_); rintro e w5 ⟨rfl, h5⟩)
        go_roundw
        case rel => exact ⟨i, j2, rfl, rfl, hi, by have := HI.out.1; omega, him, by have := HI.out.1; omega, h5⟩
        case measure => have := HI.out.1; simp [intOf]; omega
end
end Go.Proofs.YtaklnpjpndkccaaGreat

namespace Go.Proofs.YtaklnpjpndkccaaGreat
open Go.RowKit Go.Sort
section
variable {α : Type} [Inhabited α] {enc : α → List Value} {kf : α → Int} {cf : α → α → Int} {g blk off N k : Nat} {w : World} {P : Program}

set_option maxRecDepth 100000 in
set_option maxHeartbeats 8000000 in
theorem symOneGap (L : StLGap P k) (E : SoE P enc k kf cf g blk off N w) (cap : Nat) (A Y S : List α) (x : α) (hN : (A ++ [x] ++ Y ++ S).length = N) (hs : Y.Pairwise fun a b => kf a ≤ kf b) (m : Nat) (os : Array Obj) (a mm b : Nat) (ha : a = A.length) (hm : mm = A.length + 1) (hb : b = A.length + 1 + Y.length) :
    Calls P 110 #[.slice (some ⟨blk, off, none⟩) N cap, .int .i64 a, .int .i64 mm, .int .i64 b, .func (.func g) #[] #[]] (sortWorldK enc k w blk off m (A ++ [x] ++ Y ++ S).toArray os)
      fun e w' => e = .returned (.tuple #[]) ∧ Hid (∃ m' os' Z, StS kf (x :: Y) Z ∧ w' = sortWorldK enc k w blk off m' (A ++ Z ++ S).toArray os') := by
  have mixed := L.mixed; have tI := L.tI; have aI := L.aI; have zI := L.zI; have vI := L.vI; have tB := L.tB; have aB := L.aB; have zB := L.zB; have vB := L.vB; have tS := L.tS; have aS := L.aS; have zS := L.zS; have vS := L.vS; have tF := L.tF; have aF := L.aF; have zF := L.zF; have vF := L.vF; have aE := L.aE; have zE := L.zE; have tU := L.tU; have aU := L.aU; have zU := L.zU; have vU := L.vU
  have uS := run_underlying L.tS
  have HE := Lib.hid E
  have hsz := E.hsz
  have eg := E.eg
  have hN' : A.length + 1 + Y.length + S.length = N := by rw [← hN]; simp only [List.length_append, List.length_cons, List.length_nil]
  have hbN : b ≤ N := by omega
  have hmb : mm ≤ b := by omega
  have q0 : (mm : Int) - (a : Int) = 1 := by omega
  have haN : a < N := by omega
  obtain ⟨T, hT⟩ : ∃ T : Array α, T = (A ++ [x] ++ Y ++ S).toArray := ⟨_, rfl⟩
  have hTs : T.size = N := by rw [hT]; simpa using hN
  have HA := Lib.hid (show a = A.length ∧ mm = A.length + 1 ∧ b = A.length + 1 + Y.length from ⟨ha, hm, hb⟩)
  obtain ⟨Q, hQ⟩ : ∃ Q : Nat → Bool, Q = fun h => decide (cf T[h]! T[a]! < 0) := ⟨_, rfl⟩
  have HQ := Lib.hid hQ
  have hTa : T[a]! = x := by
    rw [hT, ha]
    simp
  have hTy : ∀ i (h : i < Y.length), T[mm + i]! = Y[i] := fun i h => by
    have := get_mid (A ++ [x]) Y S i h
    rw [hT, hm]
    simpa using this
  have HM : Hid (∀ s t, mm ≤ s → s ≤ t → t < b → Q t = true → Q s = true) := fun s t h1 h2 h3 h4 => by
    obtain ⟨s', rfl⟩ : ∃ s', s = mm + s' := ⟨s - mm, by omega⟩
    obtain ⟨t', rfl⟩ : ∃ t', t = mm + t' := ⟨t - mm, by omega⟩
    simp only [hQ] at h4 ⊢
    rw [hTa, hTy t' (by omega)] at h4
    rw [hTa, hTy s' (by omega)]
    have h4 := (E.hcf _ _).1 (of_decide_eq_true h4)
    refine decide_eq_true ((E.hcf _ _).2 ?_)
    rcases Nat.lt_or_ge s' t' with h5 | h5
    · have := List.pairwise_iff_getElem.1 hs s' t' (by omega) (by omega) h5
      omega
    · have : s' = t' := by omega
      subst this
      exact h4
  have HTA := Lib.hid hTa
  have HTY := Lib.hid hTy
  have HTs := Lib.hid hTs
  have HT := Lib.hid hT
  have HS := Lib.hid hs
  rw [← hT]
  clear E ha hb hm hN hN' hQ hTa hTy hTs hT hs
  go_enter L.f3, Tryz.ntmps110
  go_wp2_with fail
  go_loopw [10, 11] (fun iv jv wr => ∃ i j : Nat, iv = .int .i64 i ∧ jv = .int .i64 j ∧ j ≤ b ∧ Hid (BisI Q mm b i j ∧ ∃ (m' : Nat) (os' : Array Obj), wr = sortWorldK enc k w blk off m' T os')) (fun iv jv _ => (intOf jv).toNat - (intOf iv).toNat)
  case atStart => exact ⟨mm, b, rfl, rfl, Nat.le_refl _, BisI.start Q hmb, m, os, rfl⟩
  case round =>
    obtain ⟨i, j, rfl, rfl, hjb, hst⟩ := hrel
    by_cases h : i < j
    · have hI : decide ((i : Int) < (j : Int)) = true := decide_eq_true (by omega)
      obtain ⟨hB, m', os', hwr⟩ := hst.out
      clear hst
      have HB := Lib.hid hB
      have hmi : mm ≤ i := hB.1
      clear hB
      subst hwr
      obtain ⟨s, hs⟩ : ∃ x : Nat, (x : Int) = (i : Int) + j := ⟨i + j, by omega⟩
      have q4 : (i : Int) + (j : Int) = (s : Int) := hs.symm
      have hs2 : s < 8000000000 := by omega
      obtain ⟨h2, hh⟩ : ∃ x : Nat, (x : Int) = (s : Int) / 2 := ⟨s / 2, by omega⟩
      have q5 : (s : Int) / 2 = (h2 : Int) := hh.symm
      have hih : i ≤ h2 := by omega
      have hhj : h2 < j := by omega
      have hhN : h2 < N := by omega
      clear hs hh
      have lj := fun n' os'' => HE.out.ldG HTs.out (i := h2) hhN m' os' n' os''
      have lp := fun n' os'' => HE.out.ldG HTs.out (i := a) haN m' os' n' os''
      have hcg := fun n' os'' => HE.out.cmG HTs.out T[h2]! T[a]! m' os' n' os''
      have CLS : Hid _ := fun n' os'' => SoE.grown (enc := enc) (k := k) (w := w) (blk := blk) (off := off) m' n' T os' os''
      have hq : Q h2 = decide (cf T[h2]! T[a]! < 0) := by rw [HQ.out]
      generalize T[h2]! = xh at lj hcg hq
      generalize T[a]! = xa at lp hcg hq
      generalize sortWorldK enc k w blk off m' T os' = wq at lj lp hcg CLS ⊢
      obtain ⟨r, hr⟩ : ∃ r, r = cf xh xa := ⟨_, rfl⟩
      rw [← hr] at hq
      simp only [← hr] at hcg
      clear hr
      by_cases hlv : r < 0
      · have HQ2 := Lib.hid (hq.trans (decide_eq_true hlv))
        have hrd : decide (r < 0) = true := decide_eq_true hlv
        clear hq
        go_upto_region 5 with fail
        go_quiet_grown (first | (go_at_fn g; refine Calls.grown_of (hcg _ _)))
        go_wp2_with fail
        go_roundw
        case rel => exact ⟨h2 + 1, j, by go_num, rfl, hjb, HB.out.yes HM.out hih hhj HQ2.out, _, _, CLS.out nq osq⟩
        case measure => simp [intOf]; omega
      · have HQ2 := Lib.hid (hq.trans (decide_eq_false hlv))
        have hrd : decide (r < 0) = false := decide_eq_false hlv
        clear hq
        go_upto_region 5 with fail
        go_quiet_grown (first | (go_at_fn g; refine Calls.grown_of (hcg _ _)))
        go_wp2_with fail
        go_roundw
        case rel => exact ⟨i, h2, rfl, rfl, by omega, HB.out.no HM.out hih hhj HQ2.out, _, _, CLS.out nq osq⟩
        case measure => simp [intOf]; omega
    · have hI : decide ((i : Int) < (j : Int)) = false := decide_eq_false (by omega)
      obtain ⟨hB, m', os', hwr⟩ := hst.out
      have hij : i = j := by have := hB.2.1; omega
      subst hij
      have hmi : mm ≤ i := hB.1
      obtain ⟨e, he⟩ : ∃ e : Nat, (e : Int) = (i : Int) - 1 := ⟨i - 1, by omega⟩
      have q4 : (i : Int) - 1 = (e : Int) := he.symm
      have hae : a ≤ e := by omega
      have heN : e < b := by omega
      -- the two parts of Y
      have HP : Hid (∃ Y1 Y2, Y = Y1 ++ Y2 ∧ Y1.length = e - a ∧ (∀ y ∈ Y1, kf y < kf x) ∧ (∀ y ∈ Y2, kf x ≤ kf y)) := by
        obtain ⟨hA1, hA2, hA3⟩ := HA.out
        refine ⟨Y.take (e - a), Y.drop (e - a), (List.take_append_drop _ _).symm, by rw [List.length_take]; omega, fun y hy => ?_, fun y hy => ?_⟩
        · obtain ⟨t, ht, rfl⟩ := List.getElem_of_mem hy
          rw [List.length_take] at ht
          rw [List.getElem_take]
          have := hB.2.2.2.1 (mm + t) (by omega) (by omega)
          rw [HQ.out] at this
          have := (HE.out.hcf _ _).1 (of_decide_eq_true this)
          rw [HTA.out, HTY.out t (by omega)] at this
          exact this
        · obtain ⟨t, ht, rfl⟩ := List.getElem_of_mem hy
          rw [List.length_drop] at ht
          rw [List.getElem_drop]
          have := hB.2.2.2.2 (mm + (e - a + t)) (by omega) (by omega)
          rw [HQ.out] at this
          have : ¬ kf T[mm + (e - a + t)]! < kf T[a]! := fun h => (of_decide_eq_false this) ((HE.out.hcf _ _).2 h)
          rw [HTA.out, HTY.out (e - a + t) (by omega)] at this
          omega
      subst hwr
      rw [HT.out]
      have HTl : Hid (A.length = a ∧ (A ++ [x] ++ Y ++ S).length = N) := by
        have h1 := HT.out
        have h2 := HTs.out
        rw [h1] at h2
        exact ⟨HA.out.1.symm, by simpa using h2⟩
      obtain ⟨Y1, Y2, hY, hY1, hlt, hge⟩ := HP.out
      have HY := Lib.hid hY
      have HY1 := Lib.hid (And.intro hY1 (And.intro hlt hge))
      clear HP hB hst hmi he HTY HTA HQ HM HTs HT hY hY1 hlt hge
      obtain ⟨w0, hw0⟩ : ∃ w0, w0 = sortWorldK enc k w blk off m' (A ++ [x] ++ Y ++ S).toArray os' := ⟨_, rfl⟩
      rw [← hw0]
      have HW0 := Lib.hid hw0
      clear hw0
      go_wp2_with fail
      go_loopw [13] (fun kv wr => ∃ c : Nat, kv = .int .i64 c ∧ a ≤ c ∧ c ≤ e ∧ Hid (∃ (m' : Nat) (os' : Array Obj) (Ya Yb : List α), Y1 = Ya ++ Yb ∧ Ya.length = c - a ∧ wr = sortWorldK enc k w blk off m' (A ++ Ya ++ [x] ++ Yb ++ Y2 ++ S).toArray os')) (fun kv _ => e - (intOf kv).toNat)
      case atStart => exact ⟨a, rfl, Nat.le_refl _, hae, m', os', [], Y1, rfl, by simp, by rw [HW0.out, HY.out]; simp⟩
      case round =>
        clear HW0
        obtain ⟨c, rfl, hac, hce, hst⟩ := hrel
        by_cases hc : c < e
        · have hI : decide ((c : Int) < (e : Int)) = true := decide_eq_true (by omega)
          have hcN : c < N := by omega
          have hcN1 : c + 1 < N := by omega
          obtain ⟨d, hd⟩ : ∃ d : Nat, (d : Int) = (c : Int) + 1 := ⟨c + 1, by omega⟩
          have q6 : (c : Int) + 1 = (d : Int) := hd.symm
          have hdN : d < N := by omega
          have HD := Lib.hid (show d = c + 1 by omega)
          clear hd hcN1
          obtain ⟨cI, cJ, W0, W1, W2, HX, h1, h2, h3, h4, h5, h6⟩ : ∃ (cI cJ : List Value) (W0 W1 W2 : World), Hid (∃ (m' : Nat) (os' : Array Obj) (Ya Yb : List α), W0 = wr.drew ∧ Y1 = Ya ++ Yb ∧ Ya.length = d - a ∧ W2 = sortWorldK enc k w blk off m' (A ++ Ya ++ [x] ++ Yb ++ Y2 ++ S).toArray os')
              ∧ cI.length = k ∧ cJ.length = k ∧ Sem.run P (loadCellsFrom ⟨blk, off + c * k, none⟩ 0 k #[]) wr.drew = .ok cI.toArray wr.drew ∧ Sem.run P (loadCellsFrom ⟨blk, off + d * k, none⟩ 0 k #[]) wr.drew = .ok cJ.toArray wr.drew
              ∧ Sem.run P (storeCells ⟨blk, off + c * k, none⟩ cJ 0) wr.drew = .ok () W1 ∧ Sem.run P (storeCells ⟨blk, off + d * k, none⟩ cI 0) W1 = .ok () W2 := by
            obtain ⟨m', os', Ya, Yb, e1, e2, e3⟩ := hst.out
            obtain ⟨y, Yc, rfl⟩ : ∃ y Yc, Yb = y :: Yc := by
              cases Yb with
              | nil => have := HY1.out.1; rw [e1] at this; simp at this; omega
              | cons y Yc => exact ⟨y, Yc, rfl⟩
            have hA := HTl.out.1
            have hsz2 : (A ++ Ya ++ [x] ++ (y :: Yc) ++ Y2 ++ S).toArray.size = N := by
              have := HTl.out.2
              rw [HY.out, e1] at this
              simp only [List.size_toArray, List.length_append, List.length_cons, List.length_nil] at this ⊢; omega
            obtain ⟨cI, cJ, W0, W1, W2, k0, k1, k2, k3, k4, k5, k6, k7⟩ := HE.out.swap hsz2 hcN hdN m' os'
            have hsw := swp_list (A ++ Ya) [] (Yc ++ Y2 ++ S) x y
            have eP : (A ++ Ya).length = c := by simp only [List.length_append]; omega
            rw [eP, show c + 1 + ([] : List α).length = d from by rw [HD.out]; rfl] at hsw
            have eL : A ++ Ya ++ [x] ++ (y :: Yc) ++ Y2 ++ S = A ++ Ya ++ x :: ([] ++ y :: (Yc ++ Y2 ++ S)) := by simp
            rw [eL, hsw] at k7
            rw [k0] at k3 k4 k5
            rw [e3]
            refine ⟨cI, cJ, W0, W1, W2, ⟨m' + 1, os', Ya ++ [y], Yc, k0, by simp [e1], by rw [List.length_append, HD.out]; simp; omega, ?_⟩, k1, k2, k3, k4, k5, k6⟩
            rw [k7]
            congr 2
            simp
          clear hst
          go_upto_region 11 with fail
          go_big_region_o
          all_goals go_wp2
          go_roundw
          case rel =>
            obtain ⟨m', os', Ya, Yb, e0, e1, e2, e3⟩ := HX.out
            exact ⟨d, rfl, by have := HD.out; omega, by have := HD.out; omega, m', os', Ya, Yb, e1, e2, e3⟩
          case measure => have := HD.out; simp [intOf]; omega
        · have hI : decide ((c : Int) < (e : Int)) = false := decide_eq_false (by omega)
          have hce2 : c = e := by omega
          go_wp2_with fail
          ((try simp only [Exit.inBlock, Exit.then]); refine bodyPost_ret (results_none rfl _ _ _) rfl ?_)
          obtain ⟨m', os', Ya, Yb, e1, e2, e3⟩ := hst.out
          obtain ⟨h1, h2, h3⟩ := HY1.out
          have hYb : Yb = [] := by rw [e1] at h1; simp only [List.length_append] at h1; exact List.length_eq_zero_iff.1 (by omega)
          have hYa : Ya = Y1 := by rw [e1, hYb]; simp
          refine ⟨rfl, m', os', Y1 ++ x :: Y2, ?_, ?_⟩
          · have hs := HS.out
            rw [HY.out] at hs ⊢
            have := sts_join (kf := kf) (A1 := []) (A2 := [x]) (B1 := Y1) (B2 := Y2) (Z1 := Y1) (Z2 := x :: Y2) (StS.self (List.pairwise_append.1 hs).1) (StS.self (List.pairwise_cons.2 ⟨h3, (List.pairwise_append.1 hs).2.1⟩)) (by simp) hs (by simp) (by simpa using h2)
            simpa using this
          · rw [e3, hYa, hYb]
            congr 2
            simp
end
end Go.Proofs.YtaklnpjpndkccaaGreat

namespace Go.Proofs.YtaklnpjpndkccaaGreat
open Go.RowKit Go.Sort
section
variable {α : Type} [Inhabited α] {enc : α → List Value} {kf : α → Int} {cf : α → α → Int} {g blk off N k : Nat} {w : World} {P : Program}

set_option maxRecDepth 100000 in
set_option maxHeartbeats 8000000 in
theorem symLastGap (L : StLGap P k) (E : SoE P enc k kf cf g blk off N w) (cap : Nat) (A X S : List α) (y : α) (hX : X.length ≠ 1) (hN : (A ++ X ++ [y] ++ S).length = N) (hs : X.Pairwise fun a b => kf a ≤ kf b) (m : Nat) (os : Array Obj) (a mm b : Nat) (ha : a = A.length) (hm : mm = A.length + X.length) (hb : b = A.length + X.length + 1) :
    Calls P 110 #[.slice (some ⟨blk, off, none⟩) N cap, .int .i64 a, .int .i64 mm, .int .i64 b, .func (.func g) #[] #[]] (sortWorldK enc k w blk off m (A ++ X ++ [y] ++ S).toArray os)
      fun e w' => e = .returned (.tuple #[]) ∧ Hid (∃ m' os' Z, StS kf (X ++ [y]) Z ∧ w' = sortWorldK enc k w blk off m' (A ++ Z ++ S).toArray os') := by
  have mixed := L.mixed; have tI := L.tI; have aI := L.aI; have zI := L.zI; have vI := L.vI; have tB := L.tB; have aB := L.aB; have zB := L.zB; have vB := L.vB; have tS := L.tS; have aS := L.aS; have zS := L.zS; have vS := L.vS; have tF := L.tF; have aF := L.aF; have zF := L.zF; have vF := L.vF; have aE := L.aE; have zE := L.zE; have tU := L.tU; have aU := L.aU; have zU := L.zU; have vU := L.vU
  have uS := run_underlying L.tS
  have HE := Lib.hid E
  have hsz := E.hsz
  have eg := E.eg
  have hN' : A.length + X.length + 1 + S.length = N := by rw [← hN]; simp only [List.length_append, List.length_cons, List.length_nil]
  have hmN : mm < N := by omega
  have ham : a ≤ mm := by omega
  obtain ⟨u, hu⟩ : ∃ u : Nat, (u : Int) = (mm : Int) - (a : Int) := ⟨X.length, by omega⟩
  have q0 : (mm : Int) - (a : Int) = (u : Int) := hu.symm
  have hu1 : ((u : Int) == 1) = false := by
    have : ¬ (u : Int) = 1 := by omega
    simpa using this
  have q01 : (b : Int) - (mm : Int) = 1 := by omega
  obtain ⟨T, hT⟩ : ∃ T : Array α, T = (A ++ X ++ [y] ++ S).toArray := ⟨_, rfl⟩
  have hTs : T.size = N := by rw [hT]; simpa using hN
  have HA := Lib.hid (show a = A.length ∧ mm = A.length + X.length ∧ b = A.length + X.length + 1 from ⟨ha, hm, hb⟩)
  obtain ⟨Q, hQ⟩ : ∃ Q : Nat → Bool, Q = fun h => !decide (cf T[mm]! T[h]! < 0) := ⟨_, rfl⟩
  have HQ := Lib.hid hQ
  have hTa : T[mm]! = y := by
    rw [hT, hm]
    simp
  have hTy : ∀ i (h : i < X.length), T[a + i]! = X[i] := fun i h => by
    have := get_mid A X ([y] ++ S) i h
    rw [hT, ha]
    simpa using this
  have HM : Hid (∀ s t, a ≤ s → s ≤ t → t < mm → Q t = true → Q s = true) := fun s t h1 h2 h3 h4 => by
    obtain ⟨s', rfl⟩ : ∃ s', s = a + s' := ⟨s - a, by omega⟩
    obtain ⟨t', rfl⟩ : ∃ t', t = a + t' := ⟨t - a, by omega⟩
    simp only [hQ, Bool.not_eq_true', decide_eq_false_iff_not, E.hcf] at h4 ⊢
    rw [hTa, hTy t' (by omega)] at h4
    rw [hTa, hTy s' (by omega)]
    rcases Nat.lt_or_ge s' t' with h5 | h5
    · have := List.pairwise_iff_getElem.1 hs s' t' (by omega) (by omega) h5
      omega
    · have : s' = t' := by omega
      subst this
      exact h4
  have HTA := Lib.hid hTa
  have HTY := Lib.hid hTy
  have HTs := Lib.hid hTs
  have HT := Lib.hid hT
  have HS := Lib.hid hs
  rw [← hT]
  clear E ha hb hm hN hN' hQ hTa hTy hTs hT hs hX hu
  go_enter L.f3, Tryz.ntmps110
  go_wp2_with fail
  go_loopw [14, 15] (fun iv jv wr => ∃ i j : Nat, iv = .int .i64 i ∧ jv = .int .i64 j ∧ j ≤ mm ∧ Hid (BisI Q a mm i j ∧ ∃ (m' : Nat) (os' : Array Obj), wr = sortWorldK enc k w blk off m' T os')) (fun iv jv _ => (intOf jv).toNat - (intOf iv).toNat)
  case atStart => exact ⟨a, mm, rfl, rfl, Nat.le_refl _, BisI.start Q ham, m, os, rfl⟩
  case round =>
    obtain ⟨i, j, rfl, rfl, hjb, hst⟩ := hrel
    by_cases h : i < j
    · have hI : decide ((i : Int) < (j : Int)) = true := decide_eq_true (by omega)
      obtain ⟨hB, m', os', hwr⟩ := hst.out
      clear hst
      have HB := Lib.hid hB
      have hmi : a ≤ i := hB.1
      clear hB
      subst hwr
      obtain ⟨s, hs⟩ : ∃ x : Nat, (x : Int) = (i : Int) + j := ⟨i + j, by omega⟩
      have q4 : (i : Int) + (j : Int) = (s : Int) := hs.symm
      have hs2 : s < 8000000000 := by omega
      obtain ⟨h2, hh⟩ : ∃ x : Nat, (x : Int) = (s : Int) / 2 := ⟨s / 2, by omega⟩
      have q5 : (s : Int) / 2 = (h2 : Int) := hh.symm
      have hih : i ≤ h2 := by omega
      have hhj : h2 < j := by omega
      have hhN : h2 < N := by omega
      clear hs hh
      have lj := fun n' os'' => HE.out.ldG HTs.out (i := h2) hhN m' os' n' os''
      have lp := fun n' os'' => HE.out.ldG HTs.out (i := mm) hmN m' os' n' os''
      have hcg := fun n' os'' => HE.out.cmG HTs.out T[mm]! T[h2]! m' os' n' os''
      have CLS : Hid _ := fun n' os'' => SoE.grown (enc := enc) (k := k) (w := w) (blk := blk) (off := off) m' n' T os' os''
      have hq : Q h2 = !decide (cf T[mm]! T[h2]! < 0) := by rw [HQ.out]
      generalize T[h2]! = xh at lj hcg hq
      generalize T[mm]! = xa at lp hcg hq
      generalize sortWorldK enc k w blk off m' T os' = wq at lj lp hcg CLS ⊢
      obtain ⟨r, hr⟩ : ∃ r, r = cf xa xh := ⟨_, rfl⟩
      rw [← hr] at hq
      simp only [← hr] at hcg
      clear hr
      by_cases hlv : r < 0
      · have HQ2 : Hid (Q h2 = false) := by show _ = _; rw [hq, decide_eq_true hlv]; rfl
        have hrd : decide (r < 0) = true := decide_eq_true hlv
        clear hq
        go_upto_region 17 with fail
        go_quiet_grown (first | (go_at_fn g; refine Calls.grown_of (hcg _ _)))
        go_wp2_with fail
        go_roundw
        case rel => exact ⟨i, h2, rfl, rfl, by omega, HB.out.no HM.out hih hhj HQ2.out, _, _, CLS.out nq osq⟩
        case measure => simp [intOf]; omega
      · have HQ2 : Hid (Q h2 = true) := by show _ = _; rw [hq, decide_eq_false hlv]; rfl
        have hrd : decide (r < 0) = false := decide_eq_false hlv
        clear hq
        go_upto_region 17 with fail
        go_quiet_grown (first | (go_at_fn g; refine Calls.grown_of (hcg _ _)))
        go_wp2_with fail
        go_roundw
        case rel => exact ⟨h2 + 1, j, by go_num, rfl, hjb, HB.out.yes HM.out hih hhj HQ2.out, _, _, CLS.out nq osq⟩
        case measure => simp [intOf]; omega
    · have hI : decide ((i : Int) < (j : Int)) = false := decide_eq_false (by omega)
      obtain ⟨hB, m', os', hwr⟩ := hst.out
      have hij : i = j := by have := hB.2.1; omega
      subst hij
      have hmi : a ≤ i := hB.1
      -- the two parts of X
      have HP : Hid (∃ X1 X2, X = X1 ++ X2 ∧ X1.length = i - a ∧ X2.length = mm - i ∧ (∀ x ∈ X1, kf x ≤ kf y) ∧ (∀ x ∈ X2, kf y < kf x)) := by
        obtain ⟨hA1, hA2, hA3⟩ := HA.out
        refine ⟨X.take (i - a), X.drop (i - a), (List.take_append_drop _ _).symm, by rw [List.length_take]; omega, by rw [List.length_drop]; omega, fun z hz => ?_, fun z hz => ?_⟩
        · obtain ⟨t, ht, rfl⟩ := List.getElem_of_mem hz
          rw [List.length_take] at ht
          rw [List.getElem_take]
          have := hB.2.2.2.1 (a + t) (by omega) (by omega)
          simp only [HQ.out, Bool.not_eq_true', decide_eq_false_iff_not, HE.out.hcf] at this
          rw [HTA.out, HTY.out t (by omega)] at this
          omega
        · obtain ⟨t, ht, rfl⟩ := List.getElem_of_mem hz
          rw [List.length_drop] at ht
          rw [List.getElem_drop]
          have := hB.2.2.2.2 (a + (i - a + t)) (by omega) (by omega)
          simp only [HQ.out, Bool.not_eq_false', decide_eq_true_eq, HE.out.hcf] at this
          rw [HTA.out, HTY.out (i - a + t) (by omega)] at this
          omega
      subst hwr
      rw [HT.out]
      have HTl : Hid (A.length = a ∧ (A ++ X ++ [y] ++ S).length = N) := by
        have h1 := HT.out
        have h2 := HTs.out
        rw [h1] at h2
        exact ⟨HA.out.1.symm, by simpa using h2⟩
      obtain ⟨X1, X2, hXe, hX1, hX2, hlt, hge⟩ := HP.out
      have HY := Lib.hid hXe
      have HY1 := Lib.hid (And.intro hX1 (And.intro hX2 (And.intro hlt hge)))
      clear HP hB hst HTY HTA HQ HM HTs HT hXe hX1 hX2 hlt hge
      obtain ⟨w0, hw0⟩ : ∃ w0, w0 = sortWorldK enc k w blk off m' (A ++ X ++ [y] ++ S).toArray os' := ⟨_, rfl⟩
      rw [← hw0]
      have HW0 := Lib.hid hw0
      clear hw0
      go_wp2_with fail
      go_loopw [17] (fun kv wr => ∃ c : Nat, kv = .int .i64 c ∧ i ≤ c ∧ c ≤ mm ∧ Hid (∃ (m' : Nat) (os' : Array Obj) (Xa Xb : List α), X2 = Xa ++ Xb ∧ Xa.length = c - i ∧ wr = sortWorldK enc k w blk off m' (A ++ X1 ++ Xa ++ [y] ++ Xb ++ S).toArray os')) (fun kv _ => (intOf kv).toNat)
      case atStart => exact ⟨mm, rfl, hjb, Nat.le_refl _, m', os', X2, [], by simp, HY1.out.2.1, by rw [HW0.out, HY.out]; simp⟩
      case round =>
        clear HW0
        obtain ⟨c, rfl, hac, hce, hst⟩ := hrel
        by_cases hc : i < c
        · have hI : decide ((i : Int) < (c : Int)) = true := decide_eq_true (by omega)
          have hcN : c < N := by omega
          obtain ⟨d, hd⟩ : ∃ d : Nat, (d : Int) = (c : Int) - 1 := ⟨c - 1, by omega⟩
          have q6 : (c : Int) - 1 = (d : Int) := hd.symm
          have hdN : d < N := by omega
          have HD := Lib.hid (show c = d + 1 by omega)
          clear hd
          obtain ⟨cI, cJ, W0, W1, W2, HX, h1, h2, h3, h4, h5, h6⟩ : ∃ (cI cJ : List Value) (W0 W1 W2 : World), Hid (∃ (m' : Nat) (os' : Array Obj) (Xa Xb : List α), W0 = wr.drew ∧ X2 = Xa ++ Xb ∧ Xa.length = d - i ∧ W2 = sortWorldK enc k w blk off m' (A ++ X1 ++ Xa ++ [y] ++ Xb ++ S).toArray os')
              ∧ cI.length = k ∧ cJ.length = k ∧ Sem.run P (loadCellsFrom ⟨blk, off + c * k, none⟩ 0 k #[]) wr.drew = .ok cI.toArray wr.drew ∧ Sem.run P (loadCellsFrom ⟨blk, off + d * k, none⟩ 0 k #[]) wr.drew = .ok cJ.toArray wr.drew
              ∧ Sem.run P (storeCells ⟨blk, off + c * k, none⟩ cJ 0) wr.drew = .ok () W1 ∧ Sem.run P (storeCells ⟨blk, off + d * k, none⟩ cI 0) W1 = .ok () W2 := by
            obtain ⟨m', os', Xa, Xb, e1, e2, e3⟩ := hst.out
            obtain ⟨Xc, z, rfl⟩ : ∃ Xc z, Xa = Xc ++ [z] := by
              rcases List.eq_nil_or_concat Xa with h | ⟨Xc, z, h⟩
              · rw [h] at e2; simp at e2; omega
              · exact ⟨Xc, z, by rw [h]; simp⟩
            have hA := HTl.out.1
            have hX1 := HY1.out.1
            have hsz2 : (A ++ X1 ++ (Xc ++ [z]) ++ [y] ++ Xb ++ S).toArray.size = N := by
              have := HTl.out.2
              rw [HY.out, e1] at this
              simp only [List.size_toArray, List.length_append, List.length_cons, List.length_nil] at this ⊢; omega
            obtain ⟨cI, cJ, W0, W1, W2, k0, k1, k2, k3, k4, k5, k6, k7⟩ := HE.out.swap hsz2 hcN hdN m' os'
            have hsw := swp_list2 (A ++ X1 ++ Xc) (Xb ++ S) z y
            have eP : (A ++ X1 ++ Xc).length = d := by
              have := HD.out
              simp only [List.length_append, List.length_cons, List.length_nil] at e2 ⊢; omega
            rw [eP, ← HD.out] at hsw
            have eL : A ++ X1 ++ (Xc ++ [z]) ++ [y] ++ Xb ++ S = A ++ X1 ++ Xc ++ z :: y :: (Xb ++ S) := by simp
            rw [eL, hsw] at k7
            rw [k0] at k3 k4 k5
            rw [e3]
            refine ⟨cI, cJ, W0, W1, W2, ⟨m' + 1, os', Xc, z :: Xb, k0, by simp [e1], ?_, ?_⟩, k1, k2, k3, k4, k5, k6⟩
            · have := HD.out
              simp only [List.length_append, List.length_cons, List.length_nil] at e2 ⊢; omega
            · rw [k7]
              congr 2
              simp
          clear hst
          go_upto_region 23 with fail
          go_big_region_o
          all_goals go_wp2
          go_roundw
          case rel =>
            obtain ⟨m', os', Xa, Xb, e0, e1, e2, e3⟩ := HX.out
            exact ⟨d, rfl, by have := HD.out; omega, by have := HD.out; omega, m', os', Xa, Xb, e1, e2, e3⟩
          case measure => have := HD.out; simp [intOf]; omega
        · have hI : decide ((i : Int) < (c : Int)) = false := decide_eq_false (by omega)
          have hce2 : c = i := by omega
          go_wp2_with fail
          ((try simp only [Exit.inBlock, Exit.then]); refine bodyPost_ret (results_none rfl _ _ _) rfl ?_)
          obtain ⟨m', os', Xa, Xb, e1, e2, e3⟩ := hst.out
          obtain ⟨h1, h2, h3, h4⟩ := HY1.out
          have hXa : Xa = [] := List.length_eq_zero_iff.1 (by omega)
          have hXb : Xb = X2 := by rw [e1, hXa]; simp
          refine ⟨rfl, m', os', (X1 ++ [y]) ++ X2, ?_, ?_⟩
          · have hs := HS.out
            rw [HY.out] at hs ⊢
            have := sts_join (kf := kf) (A1 := X1) (A2 := X2) (B1 := [y]) (B2 := []) (Z1 := X1 ++ [y]) (Z2 := X2) (StS.self (List.pairwise_append.2 ⟨(List.pairwise_append.1 hs).1, by simp, by simpa using h3⟩)) (by rw [List.append_nil]; exact StS.self (List.pairwise_append.1 hs).2.1) hs (by simp) (by simp) (by simpa using h4)
            simpa using this
          · rw [e3, hXa, hXb]
            congr 2
            simp
end
end Go.Proofs.YtaklnpjpndkccaaGreat

namespace Go.Proofs.YtaklnpjpndkccaaGreat
open Go.RowKit Go.Sort
theorem sorted_le {α : Type} {kf : α → Int} {X : List α} (h : X.Pairwise fun a b => kf a ≤ kf b) {i j : Nat} (hi : i < X.length) (hj : j < X.length) (hij : i ≤ j) : kf X[i] ≤ kf X[j] := by
  rcases Nat.lt_or_ge i j with h5 | h5
  · exact List.pairwise_iff_getElem.1 h i j hi hj h5
  · have : i = j := by omega
    subst this
    exact Int.le_refl _
section
variable {α : Type} [Inhabited α] {kf : α → Int} {cf : α → α → Int}
/-- Where the symmetric merge bisects: the question is answered yes up to a place. -/
theorem sym_mono {X Y : List α} {T : Array α} {Q : Nat → Bool} {a mm b mid lo hi : Nat} (hcf : ∀ x y, cf x y < 0 ↔ kf x < kf y) (sX : X.Pairwise fun a b => kf a ≤ kf b) (sY : Y.Pairwise fun a b => kf a ≤ kf b) (hlx : mm = a + X.length) (hly : b = mm + Y.length)
    (hTx : ∀ i (h : i < X.length), T[a + i]! = X[i]) (hTy : ∀ i (h : i < Y.length), T[mm + i]! = Y[i]) (hmid : mid = (a + b) / 2)
    (hlo : (mid < mm ∧ lo = mid + mm - b ∧ hi = mid) ∨ (mm ≤ mid ∧ lo = a ∧ hi = mm)) (hQ : ∀ c, Q c = !decide (cf T[mid + mm - 1 - c]! T[c]! < 0)) :
    ∀ s t, lo ≤ s → s ≤ t → t < hi → Q t = true → Q s = true := by
  intro s t h1 h2 h3 h4
  simp only [hQ, Bool.not_eq_true', decide_eq_false_iff_not, hcf] at h4 ⊢
  have get : ∀ c, lo ≤ c → c < hi → ∃ (i j : Nat) (h : i < X.length) (h' : j < Y.length), i = c - a ∧ j = mid - 1 - c ∧ T[c]! = X[i] ∧ T[mid + mm - 1 - c]! = Y[j] := fun c hc1 hc2 => by
    have e1 : c - a < X.length := by omega
    have e2 : mid - 1 - c < Y.length := by omega
    refine ⟨c - a, mid - 1 - c, e1, e2, rfl, rfl, ?_, ?_⟩
    · rw [← hTx _ e1]; congr 1; omega
    · rw [← hTy _ e2]; congr 1; omega
  obtain ⟨i, j, hi1, hj1, ei, ej, x1, y1⟩ := get s h1 (by omega)
  obtain ⟨i', j', hi2, hj2, ei', ej', x2, y2⟩ := get t (by omega) h3
  rw [x2, y2] at h4
  rw [x1, y1]
  have := sorted_le sX hi1 hi2 (by omega)
  have := sorted_le sY hj2 hj1 (by omega)
  omega
/-- .. and what the parts are to each other there. -/
theorem sym_split {X Y : List α} {T : Array α} {Q : Nat → Bool} {a mm b mid lo hi st : Nat} (hcf : ∀ x y, cf x y < 0 ↔ kf x < kf y) (sX : X.Pairwise fun a b => kf a ≤ kf b) (sY : Y.Pairwise fun a b => kf a ≤ kf b) (hlx : mm = a + X.length) (hly : b = mm + Y.length)
    (hTx : ∀ i (h : i < X.length), T[a + i]! = X[i]) (hTy : ∀ i (h : i < Y.length), T[mm + i]! = Y[i]) (hmid : mid = (a + b) / 2)
    (hlo : (mid < mm ∧ lo = mid + mm - b ∧ hi = mid) ∨ (mm ≤ mid ∧ lo = a ∧ hi = mm)) (hQ : ∀ c, Q c = !decide (cf T[mid + mm - 1 - c]! T[c]! < 0)) (hB : BisI Q lo hi st st) :
    ∃ A1 A2 B1 B2, X = A1 ++ A2 ∧ Y = B1 ++ B2 ∧ A1.length = st - a ∧ B1.length = mid - st ∧ (∀ x ∈ A1, ∀ y ∈ B2, kf x ≤ kf y) ∧ ∀ x ∈ A2, ∀ y ∈ B1, kf y < kf x := by
  obtain ⟨b1, _, b2, b3, b4⟩ := hB
  refine ⟨X.take (st - a), X.drop (st - a), Y.take (mid - st), Y.drop (mid - st), (List.take_append_drop _ _).symm, (List.take_append_drop _ _).symm, by rw [List.length_take]; omega, by rw [List.length_take]; omega, fun x hx y hy => ?_, fun x hx y hy => ?_⟩
  · obtain ⟨i, hi1, rfl⟩ := List.getElem_of_mem hx
    obtain ⟨j, hj1, rfl⟩ := List.getElem_of_mem hy
    rw [List.length_take] at hi1
    rw [List.length_drop] at hj1
    rw [List.getElem_take, List.getElem_drop]
    have hls : lo < st := by omega
    have := b3 (st - 1) (by omega) (by omega)
    simp only [hQ, Bool.not_eq_true', decide_eq_false_iff_not, hcf] at this
    have e1 : st - 1 - a < X.length := by omega
    have e2 : mid - st < Y.length := by omega
    rw [show T[st - 1]! = X[st - 1 - a] by rw [← hTx _ e1]; congr 1; omega, show T[mid + mm - 1 - (st - 1)]! = Y[mid - st] by rw [← hTy _ e2]; congr 1; omega] at this
    have := sorted_le sX (i := i) (j := st - 1 - a) (by omega) e1 (by omega)
    have := sorted_le sY (i := mid - st) (j := mid - st + j) e2 (by omega) (by omega)
    omega
  · obtain ⟨i, hi1, rfl⟩ := List.getElem_of_mem hx
    obtain ⟨j, hj1, rfl⟩ := List.getElem_of_mem hy
    rw [List.length_drop] at hi1
    rw [List.length_take] at hj1
    rw [List.getElem_take, List.getElem_drop]
    have hls : st < hi := by omega
    have := b4 st (Nat.le_refl _) hls
    simp only [hQ, Bool.not_eq_false', decide_eq_true_eq, hcf] at this
    have e1 : st - a < X.length := by omega
    have e2 : mid - 1 - st < Y.length := by omega
    rw [show T[st]! = X[st - a] by rw [← hTx _ e1]; congr 1; omega, show T[mid + mm - 1 - st]! = Y[mid - 1 - st] by rw [← hTy _ e2]; congr 1; omega] at this
    have := sorted_le sX (i := st - a) (j := st - a + i) e1 (by omega) (by omega)
    have := sorted_le sY (i := j) (j := mid - 1 - st) (by omega) e2 (by omega)
    omega
end
end Go.Proofs.YtaklnpjpndkccaaGreat

namespace Go.Proofs.YtaklnpjpndkccaaGreat
open Go.RowKit Go.Sort
section
variable {α : Type} [Inhabited α] {enc : α → List Value} {kf : α → Int} {cf : α → α → Int} {g blk off N k : Nat} {w : World} {P : Program}

/-- What symMerge does, wherever it is called with parts of at most d elements. -/
def SymGap (P : Program) (enc : α → List Value) (k : Nat) (kf : α → Int) (g blk off N : Nat) (w : World) (cap d : Nat) : Prop :=
  ∀ (A X Y S : List α) (m : Nat) (os : Array Obj) (a mm b : Nat), X.length + Y.length ≤ d → X ≠ [] → Y ≠ [] → (A ++ X ++ Y ++ S).length = N → (X.Pairwise fun a b => kf a ≤ kf b) → (Y.Pairwise fun a b => kf a ≤ kf b) → a = A.length → mm = A.length + X.length → b = A.length + X.length + Y.length →
    Calls P 110 #[.slice (some ⟨blk, off, none⟩) N cap, .int .i64 a, .int .i64 mm, .int .i64 b, .func (.func g) #[] #[]] (sortWorldK enc k w blk off m (A ++ X ++ Y ++ S).toArray os)
      fun e w' => e = .returned (.tuple #[]) ∧ Hid (∃ m' os' Z, StS kf (X ++ Y) Z ∧ w' = sortWorldK enc k w blk off m' (A ++ Z ++ S).toArray os')

set_option maxRecDepth 100000 in
set_option maxHeartbeats 800000 in
theorem symStepGap (L : StLGap P k) (E : SoE P enc k kf cf g blk off N w) (cap d : Nat) (IH : SymGap P enc k kf g blk off N w cap d) (A X Y S : List α) (m : Nat) (os : Array Obj) (a mm b : Nat) (hd : X.length + Y.length ≤ d + 1) (hX0 : X ≠ []) (hY0 : Y ≠ []) (hX1 : X.length ≠ 1) (hY1 : Y.length ≠ 1)
    (hN : (A ++ X ++ Y ++ S).length = N) (sX : X.Pairwise fun a b => kf a ≤ kf b) (sY : Y.Pairwise fun a b => kf a ≤ kf b) (ha : a = A.length) (hm : mm = A.length + X.length) (hb : b = A.length + X.length + Y.length) :
    Calls P 110 #[.slice (some ⟨blk, off, none⟩) N cap, .int .i64 a, .int .i64 mm, .int .i64 b, .func (.func g) #[] #[]] (sortWorldK enc k w blk off m (A ++ X ++ Y ++ S).toArray os)
      fun e w' => e = .returned (.tuple #[]) ∧ Hid (∃ m' os' Z, StS kf (X ++ Y) Z ∧ w' = sortWorldK enc k w blk off m' (A ++ Z ++ S).toArray os') := by
  have mixed := L.mixed; have tI := L.tI; have aI := L.aI; have zI := L.zI; have vI := L.vI; have tB := L.tB; have aB := L.aB; have zB := L.zB; have vB := L.vB; have tS := L.tS; have aS := L.aS; have zS := L.zS; have vS := L.vS; have tF := L.tF; have aF := L.aF; have zF := L.zF; have vF := L.vF; have aE := L.aE; have zE := L.zE; have tU := L.tU; have aU := L.aU; have zU := L.zU; have vU := L.vU
  have uS := run_underlying L.tS
  have eg := E.eg
  have e2 := L.e2
  have e3 := L.e3
  have HE := Lib.hid E
  have hsz := E.hsz
  have hX2 : 2 ≤ X.length := by have := List.length_pos_iff.2 hX0; omega
  have hY2 : 2 ≤ Y.length := by have := List.length_pos_iff.2 hY0; omega
  have hN' : A.length + X.length + Y.length + S.length = N := by rw [← hN]; simp only [List.length_append]
  have hbN : b ≤ N := by omega
  have ham : a + 2 ≤ mm := by omega
  have hmb : mm + 2 ≤ b := by omega
  obtain ⟨u, hu⟩ : ∃ u : Nat, (u : Int) = (mm : Int) - (a : Int) := ⟨X.length, by omega⟩
  have q0 : (mm : Int) - (a : Int) = (u : Int) := hu.symm
  have hu1 : ((u : Int) == 1) = false := by
    have : ¬ (u : Int) = 1 := by omega
    simpa using this
  obtain ⟨v, hv⟩ : ∃ u : Nat, (u : Int) = (b : Int) - (mm : Int) := ⟨Y.length, by omega⟩
  have q01 : (b : Int) - (mm : Int) = (v : Int) := hv.symm
  have hv1 : ((v : Int) == 1) = false := by
    have : ¬ (v : Int) = 1 := by omega
    simpa using this
  -- the numbers
  obtain ⟨s0, hs0⟩ : ∃ x : Nat, (x : Int) = (a : Int) + b := ⟨a + b, by omega⟩
  have q1 : (a : Int) + (b : Int) = (s0 : Int) := hs0.symm
  have hs02 : s0 < 8000000000 := by omega
  obtain ⟨mid, hmid⟩ : ∃ x : Nat, (x : Int) = (s0 : Int) / 2 := ⟨s0 / 2, by omega⟩
  have q2 : (s0 : Int) / 2 = (mid : Int) := hmid.symm
  obtain ⟨n, hn⟩ : ∃ x : Nat, (x : Int) = (mid : Int) + mm := ⟨mid + mm, by omega⟩
  have q3 : (mid : Int) + (mm : Int) = (n : Int) := hn.symm
  obtain ⟨p, hp⟩ : ∃ x : Nat, (x : Int) = (n : Int) - 1 := ⟨n - 1, by omega⟩
  have q4 : (n : Int) - 1 = (p : Int) := hp.symm
  have hn2 : n < 8000000000 := by omega
  obtain ⟨lo, hi, hlo⟩ : ∃ lo hi : Nat, (mid < mm ∧ lo = mid + mm - b ∧ hi = mid) ∨ (mm ≤ mid ∧ lo = a ∧ hi = mm) := by
    rcases Nat.lt_or_ge mid mm with h | h
    · exact ⟨_, _, .inl ⟨h, rfl, rfl⟩⟩
    · exact ⟨_, _, .inr ⟨h, rfl, rfl⟩⟩
  have HNum := Lib.hid (show mid = (a + b) / 2 ∧ n = mid + mm ∧ p = mid + mm - 1 from ⟨by omega, by omega, by omega⟩)
  have HLo := Lib.hid hlo
  have hlh : lo ≤ hi := by omega
  have hhm : hi ≤ mm := by omega
  have hal : a ≤ lo := by omega
  have hhid : hi ≤ mid := by omega
  have hmidN : mid < N := by omega
  obtain ⟨T, hT⟩ : ∃ T : Array α, T = (A ++ X ++ Y ++ S).toArray := ⟨_, rfl⟩
  have hTs : T.size = N := by rw [hT]; simpa using hN
  have HA := Lib.hid (show a = A.length ∧ mm = a + X.length ∧ b = mm + Y.length from ⟨ha, by omega, by omega⟩)
  obtain ⟨Q, hQ⟩ : ∃ Q : Nat → Bool, Q = fun c => !decide (cf T[mid + mm - 1 - c]! T[c]! < 0) := ⟨_, rfl⟩
  have hTx : ∀ i (h : i < X.length), T[a + i]! = X[i] := fun i h => by
    have := get_mid A X (Y ++ S) i h
    rw [hT, ha]
    simpa using this
  have hTy : ∀ i (h : i < Y.length), T[mm + i]! = Y[i] := fun i h => by
    have := get_mid (A ++ X) Y S i h
    rw [hT, hm]
    simpa using this
  have HM := Lib.hid (sym_mono (Q := Q) E.hcf sX sY (by omega) (by omega) hTx hTy (by omega) hlo (fun c => by rw [hQ]))
  have HSP : Hid (∀ st, BisI Q lo hi st st → ∃ A1 A2 B1 B2, X = A1 ++ A2 ∧ Y = B1 ++ B2 ∧ A1.length = st - a ∧ B1.length = mid - st ∧ (∀ x ∈ A1, ∀ y ∈ B2, kf x ≤ kf y) ∧ ∀ x ∈ A2, ∀ y ∈ B1, kf y < kf x) := fun st hB =>
    sym_split (Q := Q) E.hcf sX sY (by omega) (by omega) hTx hTy (by omega) hlo (fun c => by rw [hQ]) hB
  have HQ := Lib.hid hQ
  have HTs := Lib.hid hTs
  have HT := Lib.hid hT
  have HSX := Lib.hid (And.intro sX sY)
  have HIH := Lib.hid IH
  have HD := Lib.hid hd
  rw [← hT]
  clear E ha hb hm hN hN' hQ hTx hTy hTs hT sX sY hX0 hY0 hX1 hY1 hu hv hs0 hmid hn hp hlo IH hd hX2 hY2
  obtain ⟨E0, hE0⟩ : ∃ E : Bool, decide (mid < mm) = E := ⟨_, rfl⟩
  have HE0 := Lib.hid hE0
  go_enter L.f3, Tryz.ntmps110
  go_upto_region 27 with fail
  go_upto_if 140 with fail
  go_cut [20, 21] from 141 to 146 (fun v20 v21 wx => v20 = .int .i64 (lo : Nat) ∧ v21 = .int .i64 (hi : Nat) ∧ wx = sortWorldK enc k w blk off m T os)
  case first =>
    clear HM HSP HQ HTs HT HSX HIH HD HA hal
    clear hE0
    cases E0
    case true =>
      have h : mid < mm := by have := of_decide_eq_true HE0.out; omega
      have hl : (n : Int) - (b : Int) = (lo : Int) ∧ mid = hi := by have := HLo.out; have := HNum.out; omega
      obtain ⟨q5, rfl⟩ := hl
      go_wp2_with fail
      go_meet
      exact ⟨rfl, rfl, rfl⟩
    case false =>
      have h : ¬ mid < mm := by have := of_decide_eq_false HE0.out; omega
      have hl : a = lo ∧ mm = hi := by have := HLo.out; have := HNum.out; omega
      obtain ⟨rfl, rfl⟩ := hl
      go_wp2_with fail
      go_meet
      exact ⟨rfl, rfl, rfl⟩
  case rest =>
  obtain ⟨rfl, rfl, rfl⟩ := hcut
  go_wp2_with fail
  go_loopw [20, 21] (fun iv jv wr => ∃ i j : Nat, iv = .int .i64 i ∧ jv = .int .i64 j ∧ j ≤ hi ∧ Hid (BisI Q lo hi i j ∧ ∃ (m' : Nat) (os' : Array Obj), wr = sortWorldK enc k w blk off m' T os')) (fun iv jv _ => (intOf jv).toNat - (intOf iv).toNat)
  case atStart => exact ⟨lo, hi, rfl, rfl, Nat.le_refl _, BisI.start Q hlh, m, os, rfl⟩
  case round =>
    obtain ⟨i, j, rfl, rfl, hjb, hst⟩ := hrel
    by_cases h : i < j
    · have hI : decide ((i : Int) < (j : Int)) = true := decide_eq_true (by omega)
      obtain ⟨hB, m', os', hwr⟩ := hst.out
      clear hst HSP
      have HB := Lib.hid hB
      have hmi : lo ≤ i := hB.1
      clear hB
      subst hwr
      obtain ⟨s, hs⟩ : ∃ x : Nat, (x : Int) = (i : Int) + j := ⟨i + j, by omega⟩
      have q6 : (i : Int) + (j : Int) = (s : Int) := hs.symm
      have hs2 : s < 8000000000 := by omega
      obtain ⟨h2, hh⟩ : ∃ x : Nat, (x : Int) = (s : Int) / 2 := ⟨s / 2, by omega⟩
      have q7 : (s : Int) / 2 = (h2 : Int) := hh.symm
      have hih : i ≤ h2 := by omega
      have hhj : h2 < j := by omega
      have hhN : h2 < N := by omega
      obtain ⟨r0, hr0⟩ : ∃ x : Nat, (x : Int) = (p : Int) - (h2 : Int) := ⟨p - h2, by have := HNum.out; omega⟩
      have q8 : (p : Int) - (h2 : Int) = (r0 : Int) := hr0.symm
      have hrN : r0 < N := by have := HNum.out; have := HLo.out; omega
      have hwr : IntKind.i64.wrap (r0 : Int) = (r0 : Int) := by rw [IntKind.wrap_i64]; omega
      have hrz : (r0 : Int) < (N : Int) := by omega
      have er : mid + mm - 1 - h2 = r0 := by have := HNum.out; omega
      clear hs hh hr0
      have lj := fun n' os'' => HE.out.ldG HTs.out (i := h2) hhN m' os' n' os''
      have lp := fun n' os'' => HE.out.ldG HTs.out (i := r0) hrN m' os' n' os''
      have hcg := fun n' os'' => HE.out.cmG HTs.out T[r0]! T[h2]! m' os' n' os''
      have CLS : Hid _ := fun n' os'' => SoE.grown (enc := enc) (k := k) (w := w) (blk := blk) (off := off) m' n' T os' os''
      have hq : Q h2 = !decide (cf T[r0]! T[h2]! < 0) := by rw [HQ.out, ← er]
      clear er
      generalize T[h2]! = xh at lj hcg hq
      generalize T[r0]! = xa at lp hcg hq
      generalize sortWorldK enc k w blk off m' T os' = wq at lj lp hcg CLS ⊢
      obtain ⟨r, hr⟩ : ∃ r, r = cf xa xh := ⟨_, rfl⟩
      rw [← hr] at hq
      simp only [← hr] at hcg
      clear hr
      by_cases hlv : r < 0
      · have HQ2 : Hid (Q h2 = false) := by show _ = _; rw [hq, decide_eq_true hlv]; rfl
        have hrd : decide (r < 0) = true := decide_eq_true hlv
        clear hq
        go_upto_region 35 with fail
        go_quiet_grown (first | (go_at_fn g; refine Calls.grown_of (hcg _ _)))
        go_wp2_with fail
        go_roundw
        case rel => exact ⟨i, h2, rfl, rfl, by omega, HB.out.no HM.out hih hhj HQ2.out, _, _, CLS.out nq osq⟩
        case measure => simp [intOf]; omega
      · have HQ2 : Hid (Q h2 = true) := by show _ = _; rw [hq, decide_eq_false hlv]; rfl
        have hrd : decide (r < 0) = false := decide_eq_false hlv
        clear hq
        go_upto_region 35 with fail
        go_quiet_grown (first | (go_at_fn g; refine Calls.grown_of (hcg _ _)))
        go_wp2_with fail
        go_roundw
        case rel => exact ⟨h2 + 1, j, by go_num, rfl, hjb, HB.out.yes HM.out hih hhj HQ2.out, _, _, CLS.out nq osq⟩
        case measure => simp [intOf]; omega
    · have hI : decide ((i : Int) < (j : Int)) = false := decide_eq_false (by omega)
      obtain ⟨hB, m', os', hwr⟩ := hst.out
      have hij : i = j := by have := hB.2.1; omega
      subst hij
      have hli : lo ≤ i := hB.1
      subst hwr
      obtain ⟨A1, A2, B1, B2, hXe, hYe, hA1, hB1, h12, h21⟩ := HSP.out i hB
      obtain ⟨en, hen⟩ : ∃ x : Nat, (x : Int) = (n : Int) - i := ⟨n - i, by have := HNum.out; omega⟩
      have q6 : (n : Int) - (i : Int) = (en : Int) := hen.symm
      have henb : en ≤ b := by have := HNum.out; have := HLo.out; omega
      have hlen : A.length = a ∧ A1.length = i - a ∧ A2.length = mm - i ∧ B1.length = en - mm ∧ B2.length = b - en ∧ mid = i + B1.length ∧ en = mid + A2.length := by
        obtain ⟨hA1', hA2', hA3'⟩ := HA.out
        have := HNum.out
        rw [hXe, List.length_append] at hA2'
        rw [hYe, List.length_append] at hA3'
        omega
      have HL := Lib.hid hlen
      have HNl : Hid (A.length + A1.length + A2.length + B1.length + B2.length + S.length = N) := by
        have h1 := HTs.out
        rw [HT.out, hXe, hYe] at h1
        show _ = _
        simp only [List.size_toArray, List.length_append] at h1
        omega
      have HT2 : Hid (T = (A ++ A1 ++ A2 ++ B1 ++ (B2 ++ S)).toArray) := by show _ = _; rw [HT.out, hXe, hYe]; simp
      have HJ : Hid (∀ Z1 Z2, StS kf (A1 ++ B1) Z1 → StS kf (A2 ++ B2) Z2 → StS kf (X ++ Y) (Z1 ++ Z2)) := fun Z1 Z2 h1 h2 => by
        have hs := HSX.out
        rw [hXe, hYe] at hs ⊢
        exact sts_join h1 h2 hs.1 hs.2 h12 h21
      have HSo : Hid ((A1.Pairwise fun a b => kf a ≤ kf b) ∧ (A2.Pairwise fun a b => kf a ≤ kf b) ∧ (B1.Pairwise fun a b => kf a ≤ kf b) ∧ (B2.Pairwise fun a b => kf a ≤ kf b)) := by
        have hs := HSX.out
        rw [hXe, hYe] at hs
        exact ⟨(List.pairwise_append.1 hs.1).1, (List.pairwise_append.1 hs.1).2.1, (List.pairwise_append.1 hs.2).1, (List.pairwise_append.1 hs.2).2.1⟩
      have HDl : Hid (A1.length + A2.length + B1.length + B2.length ≤ d + 1) := by
        show _ ≤ _
        have := HD.out
        rw [hXe, hYe] at this
        simp only [List.length_append] at this
        omega
      have CR : Hid (A2 ≠ [] → B1 ≠ [] → Calls P 136 #[.slice (some ⟨blk, off, none⟩) N cap, .int .i64 i, .int .i64 mm, .int .i64 en, .func (.func g) #[] #[]] (sortWorldK enc k w blk off m' T os')
          fun e w' => e = .returned (.tuple #[]) ∧ ∃ m' os', w' = sortWorldK enc k w blk off m' (A ++ A1 ++ B1 ++ A2 ++ (B2 ++ S)).toArray os') := fun h1 h2 => by
        have hl := HL.out
        have hn := HNl.out
        rw [HT2.out]
        exact rotateGap L HE.out cap (A ++ A1) A2 B1 (B2 ++ S) h1 h2 (by simp only [List.length_append]; omega) m' os' i mm en (by simp only [List.length_append]; omega) (by simp only [List.length_append]; omega) (by simp only [List.length_append]; omega)
      have C1 : Hid (A1 ≠ [] → B1 ≠ [] → ∀ wz, (∃ m1 os1, wz = sortWorldK enc k w blk off m1 (A ++ A1 ++ B1 ++ A2 ++ (B2 ++ S)).toArray os1) → Calls P 110 #[.slice (some ⟨blk, off, none⟩) N cap, .int .i64 a, .int .i64 i, .int .i64 mid, .func (.func g) #[] #[]] wz
          fun e w' => e = .returned (.tuple #[]) ∧ Hid (∃ m' os' Z, StS kf (A1 ++ B1) Z ∧ w' = sortWorldK enc k w blk off m' (A ++ Z ++ (A2 ++ (B2 ++ S))).toArray os')) := fun h1 h2 wz hz => by
        obtain ⟨m1, os1, hz⟩ := hz
        have hl := HL.out
        have hn := HNl.out
        have hdl := HDl.out
        have hnum := HNum.out
        have hso := HSo.out
        have hh1 := HA.out
        rw [hz, show A ++ A1 ++ B1 ++ A2 ++ (B2 ++ S) = A ++ A1 ++ B1 ++ (A2 ++ (B2 ++ S)) by simp]
        exact HIH.out A A1 B1 (A2 ++ (B2 ++ S)) m1 os1 a i mid (by omega) h1 h2 (by simp only [List.length_append]; omega) hso.1 hso.2.2.1 (by omega) (by omega) (by omega)
      have C2 : Hid (A2 ≠ [] → B2 ≠ [] → ∀ wz, (∃ m1 os1 Z1, StS kf (A1 ++ B1) Z1 ∧ wz = sortWorldK enc k w blk off m1 (A ++ Z1 ++ (A2 ++ (B2 ++ S))).toArray os1) → Calls P 110 #[.slice (some ⟨blk, off, none⟩) N cap, .int .i64 mid, .int .i64 en, .int .i64 b, .func (.func g) #[] #[]] wz
          fun e w' => e = .returned (.tuple #[]) ∧ Hid (∃ m' os' Z, StS kf (X ++ Y) Z ∧ w' = sortWorldK enc k w blk off m' (A ++ Z ++ S).toArray os')) := fun h1 h2 wz hz => by
        obtain ⟨m1, os1, Z1, hz1, hz⟩ := hz
        have hl := HL.out
        have hn := HNl.out
        have hdl := HDl.out
        have hnum := HNum.out
        have hso := HSo.out
        have hh1 := HA.out
        have hz2 := hz1.len
        rw [List.length_append] at hz2
        rw [hz, show A ++ Z1 ++ (A2 ++ (B2 ++ S)) = A ++ Z1 ++ A2 ++ B2 ++ S by simp]
        refine (HIH.out (A ++ Z1) A2 B2 S m1 os1 mid en b (by omega) h1 h2 (by simp only [List.length_append]; omega) hso.2.1 hso.2.2.2 (by simp only [List.length_append]; omega) (by simp only [List.length_append]; omega) (by simp only [List.length_append]; omega)).mono ?_
        rintro e w' ⟨rfl, hw⟩
        obtain ⟨m2, os2, Z2, hz3, rfl⟩ := hw.out
        exact ⟨rfl, m2, os2, Z1 ++ Z2, HJ.out Z1 Z2 hz1 hz3, by simp⟩
      obtain ⟨F1, hF1⟩ : ∃ F : Bool, (decide (i < mm) && decide (mm < en)) = F := ⟨_, rfl⟩
      obtain ⟨F2, hF2⟩ : ∃ F : Bool, (decide (a < i) && decide (i < mid)) = F := ⟨_, rfl⟩
      obtain ⟨F3, hF3⟩ : ∃ F : Bool, (decide (mid < en) && decide (en < b)) = F := ⟨_, rfl⟩
      have HF1 := Lib.hid hF1
      have HF2 := Lib.hid hF2
      have HF3 := Lib.hid hF3
      clear hF1 hF2 hF3 HD HDl HIH HSX HSP HM HQ HTs HT HA HLo hE0 HE0 hst hB hXe hYe hA1 hB1 h12 h21 hlen hen
      obtain ⟨w0, hw0⟩ : ∃ w0, w0 = sortWorldK enc k w blk off m' T os' := ⟨_, rfl⟩
      rw [← hw0]
      have HW0 := Lib.hid hw0
      clear hw0
      go_upto_region 39 with fail
      go_cut [185] from 178 to 185 (fun v wx => v = .bool F1 ∧ wx = w0)
      case first =>
        by_cases h1 : i < mm
        · have g1 : decide ((i : Int) < (mm : Int)) = true := decide_eq_true (by omega)
          by_cases h2 : mm < en
          · have g2 : decide ((mm : Int) < (en : Int)) = true := decide_eq_true (by omega)
            go_wp2_with fail
            go_meet
            exact ⟨by rw [← HF1.out]; simp [h1, h2], rfl⟩
          · have g2 : decide ((mm : Int) < (en : Int)) = false := decide_eq_false (by omega)
            go_wp2_with fail
            go_meet
            exact ⟨by rw [← HF1.out]; simp [h2], rfl⟩
        · have g1 : decide ((i : Int) < (mm : Int)) = false := decide_eq_false (by omega)
          go_wp2_with fail
          go_meet
          exact ⟨by rw [← HF1.out]; simp [h1], rfl⟩
      case rest =>
      obtain ⟨rfl, rfl⟩ := hcut
      go_upto_if 185 with fail
      go_cut [] from 186 to 191 (fun wx => Hid (∃ m1 os1, wx = sortWorldK enc k w blk off m1 (A ++ A1 ++ B1 ++ A2 ++ (B2 ++ S)).toArray os1))
      case first =>
        cases F1 with
        | true =>
          have C : Hid (Calls P 136 #[.slice (some ⟨blk, off, none⟩) N cap, .int .i64 i, .int .i64 mm, .int .i64 en, .func (.func g) #[] #[]] wc
              fun e w' => e = .returned (.tuple #[]) ∧ Hid (∃ m' os', w' = sortWorldK enc k w blk off m' (A ++ A1 ++ B1 ++ A2 ++ (B2 ++ S)).toArray os')) := by
            have hf := HF1.out
            simp only [Bool.and_eq_true, decide_eq_true_eq] at hf
            have hl := HL.out
            have := CR.out (fun h => by rw [h] at hl; simp only [List.length_nil] at hl; omega) (fun h => by rw [h] at hl; simp only [List.length_nil] at hl; omega)
            rw [← HW0.out] at this
            exact this
          clear CR C1 C2 HJ
          go_wp2_with ((with_reducible refine C.out.mono ?_); rintro e w5 ⟨rfl, h5⟩)
          go_meet
          exact h5
        | false =>
          have hf := HF1.out
          simp only [Bool.and_eq_false_iff, decide_eq_false_iff_not] at hf
          have hl := HL.out
          have he : A2 ++ B1 = B1 ++ A2 := by
            rcases hf with h | h
            · rw [List.length_eq_zero_iff.1 (show A2.length = 0 by omega)]; simp
            · rw [List.length_eq_zero_iff.1 (show B1.length = 0 by omega)]; simp
          have HR : Hid (∃ m1 os1, wc = sortWorldK enc k w blk off m1 (A ++ A1 ++ B1 ++ A2 ++ (B2 ++ S)).toArray os1) := by
            refine ⟨m', os', ?_⟩
            rw [HW0.out, HT2.out, show A ++ A1 ++ A2 ++ B1 ++ (B2 ++ S) = A ++ A1 ++ (A2 ++ B1) ++ (B2 ++ S) by simp, he]
            simp
          clear hf hl he CR C1 C2 HJ
          go_wp2_with fail
          go_meet
          exact HR
      case rest =>
      have HR1 := hcut
      clear hcut HW0 CR
      generalize wc = w1 at HR1 ⊢
      go_upto_region 41 with fail
      go_cut [199] from 192 to 199 (fun v wx => v = .bool F2 ∧ wx = w1)
      case first =>
        by_cases h1 : a < i
        · have g1 : decide ((a : Int) < (i : Int)) = true := decide_eq_true (by omega)
          by_cases h2 : i < mid
          · have g2 : decide ((i : Int) < (mid : Int)) = true := decide_eq_true (by omega)
            go_wp2_with fail
            go_meet
            exact ⟨by rw [← HF2.out]; simp [h1, h2], rfl⟩
          · have g2 : decide ((i : Int) < (mid : Int)) = false := decide_eq_false (by omega)
            go_wp2_with fail
            go_meet
            exact ⟨by rw [← HF2.out]; simp [h2], rfl⟩
        · have g1 : decide ((a : Int) < (i : Int)) = false := decide_eq_false (by omega)
          go_wp2_with fail
          go_meet
          exact ⟨by rw [← HF2.out]; simp [h1], rfl⟩
      case rest =>
      obtain ⟨rfl, hw1⟩ := hcut
      rw [← hw1] at HR1
      clear hw1
      go_upto_if 199 with fail
      go_cut [] from 200 to 205 (fun wx => Hid (∃ m1 os1 Z1, StS kf (A1 ++ B1) Z1 ∧ wx = sortWorldK enc k w blk off m1 (A ++ Z1 ++ (A2 ++ (B2 ++ S))).toArray os1))
      case first =>
        cases F2 with
        | true =>
          have C : Hid (Calls P 110 #[.slice (some ⟨blk, off, none⟩) N cap, .int .i64 a, .int .i64 i, .int .i64 mid, .func (.func g) #[] #[]] wc
              fun e w' => e = .returned (.tuple #[]) ∧ Hid (∃ m' os' Z, StS kf (A1 ++ B1) Z ∧ w' = sortWorldK enc k w blk off m' (A ++ Z ++ (A2 ++ (B2 ++ S))).toArray os')) := by
            have hf := HF2.out
            simp only [Bool.and_eq_true, decide_eq_true_eq] at hf
            have hl := HL.out
            exact C1.out (fun h => by rw [h] at hl; simp only [List.length_nil] at hl; omega) (fun h => by rw [h] at hl; simp only [List.length_nil] at hl; omega) wc HR1.out
          clear C1 C2 HJ
          go_wp2_with ((with_reducible refine C.out.mono ?_); rintro e w5 ⟨rfl, h5⟩)
          go_meet
          exact h5
        | false =>
          have HR : Hid (∃ m1 os1 Z1, StS kf (A1 ++ B1) Z1 ∧ wc = sortWorldK enc k w blk off m1 (A ++ Z1 ++ (A2 ++ (B2 ++ S))).toArray os1) := by
            have hf := HF2.out
            simp only [Bool.and_eq_false_iff, decide_eq_false_iff_not] at hf
            have hl := HL.out
            obtain ⟨m1, os1, hz⟩ := HR1.out
            refine ⟨m1, os1, A1 ++ B1, StS.self ?_, by rw [hz]; simp⟩
            rcases hf with h | h
            · rw [List.length_eq_zero_iff.1 (show A1.length = 0 by omega)]; simpa using HSo.out.2.2.1
            · rw [List.length_eq_zero_iff.1 (show B1.length = 0 by omega)]; simpa using HSo.out.1
          clear C1 C2 HJ
          go_wp2_with fail
          go_meet
          exact HR
      case rest =>
      have HR2 := hcut
      clear hcut HR1 C1
      generalize wc = w2 at HR2 ⊢
      go_upto_region 43 with fail
      go_cut [213] from 206 to 213 (fun v wx => v = .bool F3 ∧ wx = w2)
      case first =>
        by_cases h1 : mid < en
        · have g1 : decide ((mid : Int) < (en : Int)) = true := decide_eq_true (by omega)
          by_cases h2 : en < b
          · have g2 : decide ((en : Int) < (b : Int)) = true := decide_eq_true (by omega)
            go_wp2_with fail
            go_meet
            exact ⟨by rw [← HF3.out]; simp [h1, h2], rfl⟩
          · have g2 : decide ((en : Int) < (b : Int)) = false := decide_eq_false (by omega)
            go_wp2_with fail
            go_meet
            exact ⟨by rw [← HF3.out]; simp [h2], rfl⟩
        · have g1 : decide ((mid : Int) < (en : Int)) = false := decide_eq_false (by omega)
          go_wp2_with fail
          go_meet
          exact ⟨by rw [← HF3.out]; simp [h1], rfl⟩
      case rest =>
      obtain ⟨rfl, hw1⟩ := hcut
      rw [← hw1] at HR2
      clear hw1
      cases F3 with
      | true =>
        have C : Hid (Calls P 110 #[.slice (some ⟨blk, off, none⟩) N cap, .int .i64 mid, .int .i64 en, .int .i64 b, .func (.func g) #[] #[]] wc
              fun e w' => e = .returned (.tuple #[]) ∧ Hid (∃ m' os' Z, StS kf (X ++ Y) Z ∧ w' = sortWorldK enc k w blk off m' (A ++ Z ++ S).toArray os')) := by
          have hf := HF3.out
          simp only [Bool.and_eq_true, decide_eq_true_eq] at hf
          have hl := HL.out
          exact C2.out (fun h => by rw [h] at hl; simp only [List.length_nil] at hl; omega) (fun h => by rw [h] at hl; simp only [List.length_nil] at hl; omega) wc HR2.out
        clear C2 HJ
        go_wp2_with ((with_reducible refine C.out.mono ?_); rintro e w5 ⟨rfl, h5⟩)
        go_end0
        exact ⟨rfl, h5⟩
      | false =>
        have HR : Hid (∃ m' os' Z, StS kf (X ++ Y) Z ∧ wc = sortWorldK enc k w blk off m' (A ++ Z ++ S).toArray os') := by
          have hf := HF3.out
          simp only [Bool.and_eq_false_iff, decide_eq_false_iff_not] at hf
          have hl := HL.out
          obtain ⟨m1, os1, Z1, hz1, hz⟩ := HR2.out
          refine ⟨m1, os1, Z1 ++ (A2 ++ B2), HJ.out Z1 (A2 ++ B2) hz1 (StS.self ?_), by rw [hz]; simp⟩
          rcases hf with h | h
          · rw [List.length_eq_zero_iff.1 (show A2.length = 0 by omega)]; simpa using HSo.out.2.2.2
          · rw [List.length_eq_zero_iff.1 (show B2.length = 0 by omega)]; simpa using HSo.out.2.1
        clear C2 HJ
        go_wp2_with fail
        go_end0
        exact ⟨rfl, HR⟩

theorem symGap (L : StLGap P k) (E : SoE P enc k kf cf g blk off N w) (cap : Nat) : ∀ d, SymGap P enc k kf g blk off N w cap d
  | 0 => fun A X Y S m os a mm b hd hX hY => by have := List.length_pos_iff.2 hX; omega
  | d + 1 => fun A X Y S m os a mm b hd hX hY hN sX sY ha hm hb => by
    by_cases h1 : X.length = 1
    · obtain ⟨x, rfl⟩ := List.length_eq_one_iff.1 h1
      exact symOneGap L E cap A Y S x hN sY m os a mm b ha hm hb
    · by_cases h2 : Y.length = 1
      · obtain ⟨y, rfl⟩ := List.length_eq_one_iff.1 h2
        exact symLastGap L E cap A X S y h1 hN sX m os a mm b ha hm hb
      · exact symStepGap L E cap d (symGap L E cap d) A X Y S m os a mm b hd hX hY h1 h2 hN sX sY ha hm hb
end
end Go.Proofs.YtaklnpjpndkccaaGreat
