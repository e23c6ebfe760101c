/- A table of ads (23): Learn where another link has it; Learn that learns.
A table of ads (23): ByPub, Withdraw, Copy.
A table of ads (23): Withdraw, Copy.
DERIVED: THE SHELF's CONTRACTS AT THIS DUMP, IN PLAIN WORDS (tools/lay-plain.mjs out of 'TryzShelfI.lean', which tools/lay-shelf.mjs wrote): THE SAME DECLARATIONS UNDER THE SAME YtabegbelkfhbcaaGreatS: 'import', 'namespace', 'open', 'def', 'theorem' AND NOTHING ELSE: no command of the shelf's: FOR A HAND-IN. Each laying: the table of numbers ('.._ren') and one theorem, a field a fact of the dump's own or the kernel's comparison; each contract: ONE APPLICATION.
A table of ads (23): those of which something is so, rising.
A table of ads (23): the closures; list.
Cuts: less, end, eight, number, first. -/
import Derived.Laws.Externs
import Derived.Deep.RegionLaw
import Derived.Shelf.Sort.Plain
import Derived.Shelf.Slices.In.SortNone
import Derived.Test.YtabegbelkfhbcaaGreatProg
import Derived.LoopN
import Derived.Test.YtabegbelkfhbcaaGreatPk5
import Derived.Test.YtabegbelkfhbcaaGreatPk4
import Derived.Test.YtabegbelkfhbcaaGreatPk2
import Derived.Test.YtabegbelkfhbcaaGreatPk3
namespace Go.Proofs.YtabegbelkfhbcaaGreat
open Go.RowKit Go.MapKept

theorem look_ad {W : World} {bm : Nat} {T : List KN} (hm : MapE W bm (.int .i64) (eK T)) (hn : Pubs T) (pub : Int) (ok : Bool) :
    (Instr.lookup 43 (.map (some bm)) (.int .i64 pub) ok).run Tryz.prog W = .ok (match getF T pub with
      | some u => if ok then .tuple #[knV u, .bool true] else knV u
      | none => if ok then .tuple #[.agg #[.int .i64 0, .int .i64 0, .int .u64 0, .slice none 0 0], .bool false] else .agg #[.int .i64 0, .int .i64 0, .int .u64 0, .slice none 0 0]) W := by
  rcases hm.look (P := Tryz.prog) (t := 43) Tryz.underlying43 Tryz.underlying3 (z := .agg #[.int .i64 0, .int .i64 0, .int .u64 0, .slice none 0 0]) (by kernel_rfl) (key := .int .i64 pub) rfl with ⟨h1, h2, h3⟩ | ⟨j, v, h1, h2, h3⟩
  · rw [getF_no (eK_none h1)]
    cases ok
    · exact h2
    · exact h3
  · obtain ⟨u, hu, rfl⟩ := eK_look hn h1
    rw [hu]
    cases ok
    · exact h2
    · exact h3

set_option maxRecDepth 100000 in
set_option maxHeartbeats 8000000 in
theorem learn_there (w : World) (b bm : Nat) (T : List KN) (ht : TabR w b bm T) (link pub : Int) (ver : Nat) (h : Value) (p : List C) (hp : PredR w h p) (ha : argB link pub ver = false) (hm : mayP p = true) (u : KN) (hu : getF T pub = some u) (hl : u.link ≠ link) :
    Calls Tryz.prog 9 #[.pointer (some ⟨b, 0, none⟩), .int .i64 link, .agg #[.int .i64 pub, .int .u64 (ver : Nat), h]] w fun e w' => e = .returned (.tuple #[.bool false, .int .i64 9]) ∧ Ext w w' := by
  obtain ⟨hx0, hb1⟩ := boxes1 w (.cells #[.int .i64 pub, .int .u64 (ver : Nat), h] 30)
  have hnn := none_no _ b bm (block_later ht.box hx0)
  have hmy := pmay_any _ h p (hp.ext hx0)
  rw [hm] at hmy
  obtain ⟨d1, d2, h3, d4, d5⟩ := arg_no ha
  obtain ⟨a, cap, rfl, _, _⟩ := hp.shape
  generalize p.length = pl at *
  have c0 := cell_of_row _ _ 0 _ _ _ hb1
  have c1 := cell_of_row _ _ 1 _ _ _ hb1
  have c2 := cell_of_row _ _ 2 _ _ _ hb1
  have HB1 := Lib.hid hb1
  have HX0 := Lib.hid hx0
  have HNN := Lib.hid hnn
  have HMY := Lib.hid hmy
  have HT := Lib.hid ht
  have HU := Lib.hid hu
  clear ht hb1 hx0 hnn ha hm hp hmy hu
  go_enter Tryz.func9, Tryz.ntmps9
  go_upto_region 7 with (first
    | (go_at_call 22; refine HNN.out.mono ?_; rintro e w1 ⟨rfl, rfl⟩)
    | (go_at_call 24; refine (home_yes _ pub h3).mono ?_; rintro e w1 ⟨n, rfl, rfl⟩; have dn : decide ((n : Int) < 0) = false := decide_eq_false (by omega))
    | (go_at_call 21; refine HMY.out.mono ?_; rintro e w2 ⟨rfl, hx⟩; have HX2 := Lib.hid hx; clear hx))
  have hxx := HX0.out.trans HX2.out
  have HX := Lib.hid hxx
  have HT2 := Lib.hid (HT.out.ext hxx)
  have c0' := HX2.out.cell c0
  have tb := cell_of_row _ _ 0 _ _ _ HT2.out.box
  clear c0 c1 c2 d1 d2 h3 d4 d5 dn HX0 HNN HMY HT hxx
  have k1 : (Instr.lookup 43 (.map (some bm)) (.int .i64 pub) true).run Tryz.prog w2.drew = .ok (.tuple #[.agg #[.int .i64 u.link, .int .i64 u.pub, .int .u64 (u.ver : Nat), u.h], .bool true]) w2.drew := by
    have := look_ad (HT2.out.map.ext (Ext.refl w2).drew) HT2.out.pubs pub true
    rw [HU.out] at this; exact this
  have k2 : (Instr.lookup 43 (.map (some bm)) (.int .i64 pub) true).run Tryz.prog (w2.alloc (.cells #[.int .i64 0, .int .i64 0, .int .u64 0, .slice none 0 0] 67)).drew = .ok (.tuple #[.agg #[.int .i64 u.link, .int .i64 u.pub, .int .u64 (u.ver : Nat), u.h], .bool true]) (w2.alloc (.cells #[.int .i64 0, .int .i64 0, .int .u64 0, .slice none 0 0] 67)).drew := by
    have := look_ad (HT2.out.map.ext (((Ext.refl w2).alloc (.cells #[.int .i64 0, .int .i64 0, .int .u64 0, .slice none 0 0] 67)).drew)) HT2.out.pubs pub true
    rw [HU.out] at this; exact this
  clear HX2
  have xa : Ext w2 (w2.alloc (.cells #[.int .i64 0, .int .i64 0, .int .u64 0, .slice none 0 0] 67)) := (Ext.refl w2).alloc _
  have c0a := xa.cell c0'
  have tba := xa.cell tb
  obtain ⟨uh, un, uc, uhe⟩ : ∃ a n c, u.h = .slice a n c := by obtain ⟨a, c, e, _⟩ := (HT2.out.preds u (getF_some HU.out).1).shape; exact ⟨a, _, c, e⟩
  rw [uhe] at k1 k2
  go_cut [8, 9] from 41 to 50 (fun v8 v9 wx => v8 = .pointer (some ⟨w2.heap.size, 0, none⟩) ∧ v9 = .bool true ∧ wx = (w2.alloc (.cells #[.int .i64 u.link, .int .i64 u.pub, .int .u64 (u.ver : Nat), .slice uh un uc] 67)).drew)
  case first =>
    go_region
    all_goals (go_wp2_with fail; go_meet; exact ⟨rfl, rfl, rfl⟩)
  case rest =>
    obtain ⟨rfl, rfl, rfl⟩ := hcut
    have hl2 : (u.link == link) = false := beq_eq_false_iff_ne.2 hl
    have hb8 : (w2.alloc (.cells #[.int .i64 u.link, .int .i64 u.pub, .int .u64 (u.ver : Nat), .slice uh un uc] 67)).drew.heap[w2.heap.size]? = some (.cells #[.int .i64 u.link, .int .i64 u.pub, .int .u64 (u.ver : Nat), .slice uh un uc] 67 (0, 0)) := heap_alloc_new w2 _
    have e0 := cell_of_row _ _ 0 _ _ _ hb8
    have hxf := (HX.out.alloc (.cells #[.int .i64 u.link, .int .i64 u.pub, .int .u64 (u.ver : Nat), .slice uh un uc] 67)).drew
    have HXF := Lib.hid hxf
    clear k1 k2 c0a tba xa hb8 hxf
    go_wp2
    exact bodyPost_ret (v := .tuple #[.bool false, .int .i64 9]) (by simp [results, Tryz.results9, go_sem]) rfl ⟨rfl, HXF.out⟩

theorem wpList_putKV {P : Program} {ops : Array Oper} {Q : Exit → Act → World → Prop} {a : Act} {w : World} {rest : List Oper} {o : Oper} (hg : o.guard = none) (m x v : Operand) (t : TypeId) (hop : o.op = .mapUpdate t m x v)
    {k e : TypeId} {d : TypeDesc} (ht : P.underlying t = some (.map k e)) (hd : P.underlying k = some d) {b : Nat} {E : List (Value × Value)} (key val : Value) (hm : a.eval m = .map (some b)) (hx : a.eval x = key) (hv : a.eval v = val) (h : MapE w b d E) (hk : IsKey d key)
    (hK : ∀ w', But b w w' → (((∀ p ∈ E, p.1 ≠ key) ∧ MapE w' b d (E ++ [(key, val)])) ∨ ∃ (j : Nat) (u : Value), E[j]? = some (key, u) ∧ MapE w' b d (E.set j (key, val))) → wpList P ops Q rest (a.put o.dst undef) w') :
    wpList P ops Q (o :: rest) a w := by
  subst hx; subst hv
  exact wpList_put hg m x v t hop ht hd hm h hk hK

/-! Learn that learns: what stood there is gu, if it is 'is'. -/
def zeroK : KN := ⟨0, 0, 0, [], .slice none 0 0⟩
def Fact.adV (pub : Int) (ver : Nat) (p : List C) : Fact := ⟨fun v w => ∃ h', v = .agg #[.int .i64 pub, .int .u64 (ver : Nat), h'] ∧ PredR w h' p, fun _ _ _ hx ⟨h', h1, h2⟩ => ⟨h', h1, h2.ext hx⟩⟩
def Fact.knV (link pub : Int) (ver : Nat) (p : List C) : Fact := ⟨fun v w => ∃ a n c, v = .agg #[.int .i64 link, .int .i64 pub, .int .u64 (ver : Nat), .slice a n c] ∧ PredR w (.slice a n c) p, fun _ _ _ hx ⟨a, n, c, h1, h2⟩ => ⟨a, n, c, h1, h2.ext hx⟩⟩
theorem grown_after {w w1 w2 : World} {row : Option Nat} (hx : Ext w w1) (h : w1.grownBy w2 row) : w.grownBy w2 row :=
  ⟨h.os.trans hx.os, h.tape.trans hx.tape, h.output.trans hx.output, Nat.le_trans hx.size h.size, fun k hk hne => (h.block k (Nat.lt_of_lt_of_le hk hx.size) hne).trans (hx.block k hk)⟩
theorem TabR.put {w w1 w2 : World} {b bm : Nat} {T : List KN} (h : TabR w b bm T) (hx : Ext w w1) {k : KN} (hp : PredR w1 k.h k.p) (hb : But bm w1 w2)
    (hm : ((∀ p ∈ eK T, p.1 ≠ Value.int .i64 k.pub) ∧ MapE w2 bm (.int .i64) (eK T ++ [(Value.int .i64 k.pub, YtabegbelkfhbcaaGreat.knV k)])) ∨ ∃ (j : Nat) (u : Value), (eK T)[j]? = some (Value.int .i64 k.pub, u) ∧ MapE w2 bm (.int .i64) ((eK T).set j (Value.int .i64 k.pub, YtabegbelkfhbcaaGreat.knV k))) :
    TabR w2 b bm (putF T k) ∧ w.grownBy w2 (some bm) := by
  have h1 := h.ext hx
  refine ⟨⟨?_, eK_put h.pubs hm, fun x hx' => ?_⟩, grown_after hx hb.grown⟩
  · exact (hb.block b h1.ne).trans h1.box
  · rcases putF_mem hx' with rfl | hm'
    · exact predR_grown hp hb.grown h1.map.isMap
    · exact predR_grown (h1.preds x hm') hb.grown h1.map.isMap

set_option maxRecDepth 100000 in
set_option maxHeartbeats 16000000 in
theorem learn_ok (w : World) (b bm : Nat) (T : List KN) (ht : TabR w b bm T) (link pub : Int) (ver : Nat) (h : Value) (p : List C) (hp : PredR w h p) (ha : argB link pub ver = false) (hm : mayP p = true) (is : Bool) (gu : KN) (hu : getF T pub = if is then some gu else none) (hz : is = false → gu = zeroK) (hl : is = true → gu.link = link) :
    Calls Tryz.prog 9 #[.pointer (some ⟨b, 0, none⟩), .int .i64 link, .agg #[.int .i64 pub, .int .u64 (ver : Nat), h]] w fun e w' => e = .returned (.tuple #[.bool (!is || (!(gu.ver == ver) || !decide (cmpP gu.p p = 0))), .int .i64 0]) ∧ (∃ h', TabR w' b bm (putF T ⟨link, pub, ver, p, h'⟩)) ∧ w.grownBy w' (some bm) := by
  obtain ⟨hx0, hb1⟩ := boxes1 w (.cells #[.int .i64 pub, .int .u64 (ver : Nat), h] 30)
  have hnn := none_no _ b bm (block_later ht.box hx0)
  have hmy := pmay_any _ h p (hp.ext hx0)
  rw [hm] at hmy
  obtain ⟨d1, d2, h3, d4, d5⟩ := arg_no ha
  have HP := Lib.hid hp
  obtain ⟨a, cap, rfl, _, _⟩ := hp.shape
  have hgp : PredR w gu.h gu.p := by
    cases is with
    | false => rw [hz rfl]; exact PredR.nil w
    | true => rw [if_pos rfl] at hu; exact ht.preds gu (getF_some hu).1
  have hlk : ∀ W, MapE W bm (.int .i64) (eK T) → (Instr.lookup 43 (.map (some bm)) (.int .i64 pub) true).run Tryz.prog W = .ok (.tuple #[.agg #[.int .i64 gu.link, .int .i64 gu.pub, .int .u64 (gu.ver : Nat), gu.h], .bool is]) W := fun W hW => by
    have := look_ad hW ht.pubs pub true
    rw [hu] at this
    cases is with
    | false => rw [hz rfl]; exact this
    | true => exact this
  generalize p.length = pl at *
  have c0 := cell_of_row _ _ 0 _ _ _ hb1
  have c1 := cell_of_row _ _ 1 _ _ _ hb1
  have c2 := cell_of_row _ _ 2 _ _ _ hb1
  have HB1 := Lib.hid hb1
  have HX0 := Lib.hid hx0
  have HNN := Lib.hid hnn
  have HMY := Lib.hid hmy
  have HT := Lib.hid ht
  have HGP := Lib.hid hgp
  have HLK := Lib.hid hlk
  have HM := Lib.hid hm
  have HL := Lib.hid hl
  clear ht hb1 hx0 hnn ha hm hp hmy hu hz hl hgp hlk
  go_enter Tryz.func9, Tryz.ntmps9
  go_upto_region 7 with (first
    | (go_at_call 22; refine HNN.out.mono ?_; rintro e w1 ⟨rfl, rfl⟩)
    | (go_at_call 24; refine (home_yes _ pub h3).mono ?_; rintro e w1 ⟨n, rfl, rfl⟩; have dn : decide ((n : Int) < 0) = false := decide_eq_false (by omega))
    | (go_at_call 21; refine HMY.out.mono ?_; rintro e w2 ⟨rfl, hx⟩; have HX2 := Lib.hid hx; clear hx))
  have hxx := HX0.out.trans HX2.out
  have HX := Lib.hid hxx
  have HT2 := Lib.hid (HT.out.ext hxx)
  have HB5 := Lib.hid (block_later HB1.out HX2.out)
  have c0' := HX2.out.cell c0
  have tb := cell_of_row _ _ 0 _ _ _ HT2.out.box
  clear c0 c1 c2 d1 d2 h3 d4 d5 dn HX0 HNN HMY hxx
  obtain ⟨uh, un, uc, uhe⟩ : ∃ a n c, gu.h = .slice a n c := by obtain ⟨a, c, e, _⟩ := HGP.out.shape; exact ⟨a, _, c, e⟩
  have k1 := HLK.out _ (HT2.out.map.ext (Ext.refl w2).drew)
  have k2 := HLK.out _ (HT2.out.map.ext (((Ext.refl w2).alloc (.cells #[.int .i64 0, .int .i64 0, .int .u64 0, .slice none 0 0] 67)).drew))
  have HGP2 := Lib.hid HGP.out
  rw [uhe] at k1 k2 HGP2
  have xa : Ext w2 (w2.alloc (.cells #[.int .i64 0, .int .i64 0, .int .u64 0, .slice none 0 0] 67)) := (Ext.refl w2).alloc _
  have c0a := xa.cell c0'
  have tba := xa.cell tb
  clear HX2 HLK HGP
  go_cut [8, 9] from 41 to 50 (fun v8 v9 wx => v8 = .pointer (some ⟨w2.heap.size, 0, none⟩) ∧ v9 = .bool is ∧ wx = (w2.alloc (.cells #[.int .i64 gu.link, .int .i64 gu.pub, .int .u64 (gu.ver : Nat), .slice uh un uc] 67)).drew)
  case first =>
    go_region
    all_goals (go_wp2_with fail; go_meet; exact ⟨rfl, rfl, rfl⟩)
  case rest =>
    obtain ⟨rfl, rfl, rfl⟩ := hcut
    have hb8 : (w2.alloc (.cells #[.int .i64 gu.link, .int .i64 gu.pub, .int .u64 (gu.ver : Nat), .slice uh un uc] 67)).drew.heap[w2.heap.size]? = some (.cells #[.int .i64 gu.link, .int .i64 gu.pub, .int .u64 (gu.ver : Nat), .slice uh un uc] 67 (0, 0)) := heap_alloc_new w2 _
    have hx3 : Ext w2 (w2.alloc (.cells #[.int .i64 gu.link, .int .i64 gu.pub, .int .u64 (gu.ver : Nat), .slice uh un uc] 67)).drew := ((Ext.refl w2).alloc _).drew
    have hxf := HX.out.trans hx3
    have hb5 := block_later HB5.out hx3
    have e0 := cell_of_row _ _ 0 _ _ _ hb8
    have hlb : (gu.link == link) = true ∨ is = false := by cases is with
      | false => exact .inr rfl
      | true => exact .inl (by rw [HL.out rfl]; exact beq_self_eq_true _)
    generalize (w2.alloc (.cells #[.int .i64 gu.link, .int .i64 gu.pub, .int .u64 (gu.ver : Nat), .slice uh un uc] 67)).drew = w3 at *
    have HT3 := Lib.hid (HT2.out.ext hx3)
    have HXF := Lib.hid hxf
    have HB8 := Lib.hid hb8
    have HB5 := Lib.hid hb5
    clear k1 k2 c0a tba xa hx3 hxf c0' tb HT2 HX
    have c0 := cell_of_row _ _ 0 _ _ _ hb5
    have c1 := cell_of_row _ _ 1 _ _ _ hb5
    have c2 := cell_of_row _ _ 2 _ _ _ hb5
    have tb := cell_of_row _ _ 0 _ _ _ HT3.out.box
    clear hb8 hb5
    cases is with
    | false =>
      clear hlb
      go_upto_region 10 with fail
      refine wp_region_chain 10 [Fact.eq (.pointer (some ⟨b, 0, none⟩)),
          Fact.eq (.pointer (some ⟨b, 0, none⟩)),
          Fact.eq (.pointer (some ⟨b, 0, none⟩)),
          Fact.eq (.map (some bm)),
          Fact.eq (.pointer (some ⟨w.heap.size, 0, none⟩)),
          Fact.eq (.int .i64 pub),
          Fact.eq (.int .i64 link),
          Fact.eq (.agg #[.int .i64 pub, .int .u64 (ver : Nat), .slice a pl cap]),
          Fact.adV pub ver p,
          Fact.knV link pub ver p]
        [[], [(0, 58)], [(1, 59)], [(2, 60)], [], [(4, 62)], [], [], [(7, 65)], [(6, 64), (8, 66)]]
        [(0, 58), (1, 59), (2, 60), (3, 61), (4, 62), (5, 63), (6, 64), (7, 65), (8, 66), (9, 67)] (by kernel_rfl) (by kernel_rfl) ?_ ?_
      · refine ⟨?_, ?_, ?_, ?_, ?_, ?_, ?_, ?_, ?_, ?_, trivial⟩
        · intro w1 hx1; change wpList _ _ _ _ _ _; exact ob_move rfl rfl rfl rfl rfl
        · intro w1 hx1; rintro _ rfl; change wpList _ _ _ _ _ _; go_wp2_with fail; exact ⟨rfl, Ext.refl _, rfl, rfl⟩
        · intro w1 hx1; rintro _ rfl; change wpList _ _ _ _ _ _; go_wp2_with fail; exact ⟨rfl, Ext.refl _, rfl, rfl⟩
        · intro w1 hx1; rintro _ rfl; change wpList _ _ _ _ _ _; have m0 := hx1.cell tb; go_wp2_with fail; exact ⟨rfl, Ext.refl _, rfl, rfl⟩
        · intro w1 hx1; change wpList _ _ _ _ _ _; go_wp2_with fail; exact ⟨rfl, Ext.refl _, rfl, rfl⟩
        · intro w1 hx1; rintro _ rfl; change wpList _ _ _ _ _ _; have m0 := hx1.cell c0; go_wp2_with fail; exact ⟨rfl, Ext.refl _, rfl, rfl⟩
        · intro w1 hx1; change wpList _ _ _ _ _ _; exact ob_move rfl rfl rfl rfl rfl
        · intro w1 hx1; change wpList _ _ _ _ _ _; have m0 := hx1.cell c0; have m1 := hx1.cell c1; have m2 := hx1.cell c2; go_wp2_with fail; exact ⟨rfl, Ext.refl _, rfl, rfl⟩
        · intro w1 hx1; rintro _ rfl; change wpList _ _ _ _ _ _; go_wp2_with fail; (with_reducible refine (copied_any w1 pub ver _ p (HP.out.ext (HXF.out.trans hx1)) HM.out).mono ?_); rintro e w2 ⟨h', rfl, hA, hx2⟩; go_wp2_with fail; exact ⟨rfl, hx2, rfl, h', rfl, hA⟩
        · intro w1 hx1; rintro _ rfl; intro v66 h66; change wpList _ _ _ _ _ _; obtain ⟨h', rfl, hA⟩ := h66; obtain ⟨a9, c9, rfl, _, _⟩ := hA.shape; go_wp2_with fail; exact ⟨rfl, Ext.refl _, rfl, _, _, _, rfl, hA⟩
      · intro w1 hx1; rintro _ rfl; rintro _ rfl; rintro _ rfl; rintro _ rfl; rintro _ rfl; rintro _ rfl; rintro _ rfl; rintro _ rfl; intro v66 h66; intro v67 h67; refine depsThen_nil ?_; dsimp only; simp only [Act.put, List.setIfInBounds_toArray, List.set_cons_zero, List.set_cons_succ, List.drop_succ_cons, List.drop_zero]
        replace h66 : (Fact.adV pub ver p).p v66 w1 := h66
        replace h67 : (Fact.knV link pub ver p).p v67 w1 := h67
        obtain ⟨a9, n9, c9, rfl, hA⟩ : ∃ a n c, v67 = .agg #[.int .i64 link, .int .i64 pub, .int .u64 (ver : Nat), .slice a n c] ∧ PredR w1 (.slice a n c) p := h67
        have HA := Lib.hid hA
        have HT1 := Lib.hid (HT3.out.ext hx1)
        have HX1 := Lib.hid hx1
        clear hA hx1
        refine wpList_putKV rfl (.tmp 61) (.tmp 63) (.tmp 67) 43 rfl Tryz.underlying43 Tryz.underlying3 (.int .i64 pub) (YtabegbelkfhbcaaGreat.knV ⟨link, pub, ver, p, .slice a9 n9 c9⟩) rfl rfl rfl HT1.out.map rfl ?_; intro w5 hbut hput; have HBUT := Lib.hid hbut; have HPUT := Lib.hid hput; clear hbut hput
        go_wp2_with fail
        have hf := HT.out.put (HXF.out.trans HX1.out) (k := ⟨link, pub, ver, p, .slice a9 n9 c9⟩) HA.out HBUT.out HPUT.out
        exact bodyPost_ret (v := .tuple #[.bool true, .int .i64 0]) (by simp [results, Tryz.results9, go_sem]) rfl ⟨rfl, ⟨_, hf.1⟩, hf.2⟩
    | true =>
      have hlb : (gu.link == link) = true := hlb.resolve_right (fun h => by cases h)
      go_upto_region 10 with fail
      refine wp_region_chain 10 [Fact.eq (.pointer (some ⟨b, 0, none⟩)),
          Fact.eq (.pointer (some ⟨b, 0, none⟩)),
          Fact.eq (.pointer (some ⟨b, 0, none⟩)),
          Fact.eq (.map (some bm)),
          Fact.eq (.pointer (some ⟨w.heap.size, 0, none⟩)),
          Fact.eq (.int .i64 pub),
          Fact.eq (.int .i64 link),
          Fact.eq (.agg #[.int .i64 pub, .int .u64 (ver : Nat), .slice a pl cap]),
          Fact.adV pub ver p,
          Fact.knV link pub ver p]
        [[], [(0, 58)], [(1, 59)], [(2, 60)], [], [(4, 62)], [], [], [(7, 65)], [(6, 64), (8, 66)]]
        [(0, 58), (1, 59), (2, 60), (3, 61), (4, 62), (5, 63), (6, 64), (7, 65), (8, 66), (9, 67)] (by kernel_rfl) (by kernel_rfl) ?_ ?_
      · refine ⟨?_, ?_, ?_, ?_, ?_, ?_, ?_, ?_, ?_, ?_, trivial⟩
        · intro w1 hx1; change wpList _ _ _ _ _ _; exact ob_move rfl rfl rfl rfl rfl
        · intro w1 hx1; rintro _ rfl; change wpList _ _ _ _ _ _; go_wp2_with fail; exact ⟨rfl, Ext.refl _, rfl, rfl⟩
        · intro w1 hx1; rintro _ rfl; change wpList _ _ _ _ _ _; go_wp2_with fail; exact ⟨rfl, Ext.refl _, rfl, rfl⟩
        · intro w1 hx1; rintro _ rfl; change wpList _ _ _ _ _ _; have m0 := hx1.cell tb; go_wp2_with fail; exact ⟨rfl, Ext.refl _, rfl, rfl⟩
        · intro w1 hx1; change wpList _ _ _ _ _ _; go_wp2_with fail; exact ⟨rfl, Ext.refl _, rfl, rfl⟩
        · intro w1 hx1; rintro _ rfl; change wpList _ _ _ _ _ _; have m0 := hx1.cell c0; go_wp2_with fail; exact ⟨rfl, Ext.refl _, rfl, rfl⟩
        · intro w1 hx1; change wpList _ _ _ _ _ _; exact ob_move rfl rfl rfl rfl rfl
        · intro w1 hx1; change wpList _ _ _ _ _ _; have m0 := hx1.cell c0; have m1 := hx1.cell c1; have m2 := hx1.cell c2; go_wp2_with fail; exact ⟨rfl, Ext.refl _, rfl, rfl⟩
        · intro w1 hx1; rintro _ rfl; change wpList _ _ _ _ _ _; go_wp2_with fail; (with_reducible refine (copied_any w1 pub ver _ p (HP.out.ext (HXF.out.trans hx1)) HM.out).mono ?_); rintro e w2 ⟨h', rfl, hA, hx2⟩; go_wp2_with fail; exact ⟨rfl, hx2, rfl, h', rfl, hA⟩
        · intro w1 hx1; rintro _ rfl; intro v66 h66; change wpList _ _ _ _ _ _; obtain ⟨h', rfl, hA⟩ := h66; obtain ⟨a9, c9, rfl, _, _⟩ := hA.shape; go_wp2_with fail; exact ⟨rfl, Ext.refl _, rfl, _, _, _, rfl, hA⟩
      · intro w1 hx1; rintro _ rfl; rintro _ rfl; rintro _ rfl; rintro _ rfl; rintro _ rfl; rintro _ rfl; rintro _ rfl; rintro _ rfl; intro v66 h66; intro v67 h67; refine depsThen_nil ?_; dsimp only; simp only [Act.put, List.setIfInBounds_toArray, List.set_cons_zero, List.set_cons_succ, List.drop_succ_cons, List.drop_zero]
        replace h66 : (Fact.adV pub ver p).p v66 w1 := h66
        replace h67 : (Fact.knV link pub ver p).p v67 w1 := h67
        obtain ⟨a9, n9, c9, rfl, hA⟩ : ∃ a n c, v67 = .agg #[.int .i64 link, .int .i64 pub, .int .u64 (ver : Nat), .slice a n c] ∧ PredR w1 (.slice a n c) p := h67
        have HA := Lib.hid hA
        have HT1 := Lib.hid (HT3.out.ext hx1)
        have HX1 := Lib.hid hx1
        clear hA hx1
        refine wpList_putKV rfl (.tmp 61) (.tmp 63) (.tmp 67) 43 rfl Tryz.underlying43 Tryz.underlying3 (.int .i64 pub) (YtabegbelkfhbcaaGreat.knV ⟨link, pub, ver, p, .slice a9 n9 c9⟩) rfl rfl rfl HT1.out.map rfl ?_; intro w5 hbut hput; have HBUT := Lib.hid hbut; have HPUT := Lib.hid hput
        have hf := HT.out.put (HXF.out.trans HX1.out) (k := ⟨link, pub, ver, p, .slice a9 n9 c9⟩) HA.out hbut hput
        have HF := Lib.hid hf
        have far : ∀ {q : Nat} {cs : Array Value} {t : TypeId}, w3.heap[q]? = some (.cells cs t (0, 0)) → w5.heap[q]? = some (.cells cs t (0, 0)) := fun {q} {cs} {t} hq => (hbut.block q (fun e => by obtain ⟨es, c, hmm⟩ := HT1.out.map.isMap; have := block_later hq HX1.out; rw [e, hmm] at this; cases this)).trans (block_later hq HX1.out)
        have g8 := far HB8.out
        have g5 := far HB5.out
        have hq1 : PredR w5 (.slice uh un uc) gu.p := predR_grown (HGP2.out.ext (HXF.out.trans HX1.out)) hbut.grown HT1.out.map.isMap
        have hq2 : PredR w5 (.slice a pl cap) p := predR_grown (HP.out.ext (HXF.out.trans HX1.out)) hbut.grown HT1.out.map.isMap
        have f0 := cell_of_row _ _ 0 _ _ _ g8
        have f2 := cell_of_row _ _ 2 _ _ _ g8
        have f3 := cell_of_row _ _ 3 _ _ _ g8
        have n1 := cell_of_row _ _ 1 _ _ _ g5
        have n2 := cell_of_row _ _ 2 _ _ _ g5
        have HQ1 := Lib.hid hq1
        have HQ2 := Lib.hid hq2
        clear hbut hput far g8 g5 hq1 hq2 hf HPUT c0 c1 c2 tb e0
        cases hv : (gu.ver == ver) with
        | false =>
          have hvi : ((gu.ver : Int) == (ver : Int)) = false := by rw [beq_eq_false_iff_ne] at hv ⊢; omega
          have hvj : ((gu.ver : Int) != (ver : Int)) = true := by rw [bne, hvi]; rfl
          have HV := Lib.hid hv
          clear hv
          go_wp2_with fail
          exact bodyPost_ret (v := .tuple #[.bool true, .int .i64 0]) (by simp [results, Tryz.results9, go_sem]) rfl ⟨by rw [HV.out]; rfl, ⟨_, HF.out.1⟩, HF.out.2⟩
        | true =>
          have hvi : ((gu.ver : Int) == (ver : Int)) = true := by rw [beq_iff_eq] at hv ⊢; omega
          have hvj : ((gu.ver : Int) != (ver : Int)) = false := by rw [bne, hvi]; rfl
          have HV := Lib.hid hv
          clear hv
          go_wp2_with (go_at_call 25; (with_reducible refine (psame_any _ _ _ gu.p p HQ1.out HQ2.out).mono ?_); rintro e w6 ⟨rfl, hg6⟩; have HG6 := Lib.hid hg6; clear hg6)
          exact bodyPost_ret (v := .tuple #[.bool (!decide (cmpP gu.p p = 0)), .int .i64 0]) (by simp [results, Tryz.results9, go_sem]) rfl ⟨by rw [HV.out]; rfl, ⟨_, HF.out.1.ext HG6.out.1⟩, grown_ext HF.out.2 HG6.out.1⟩
end Go.Proofs.YtabegbelkfhbcaaGreat

namespace Go.Proofs.YtabegbelkfhbcaaGreat
open Go.RowKit Go.MapKept

def gotF (T : List KN) (pub : Int) : KN := (getF T pub).getD zeroK
def isF (T : List KN) (pub : Int) : Bool := (getF T pub).isSome
theorem got_some {T : List KN} {pub : Int} {u : KN} (h : getF T pub = some u) : gotF T pub = u ∧ isF T pub = true := by unfold gotF isF; rw [h]; exact ⟨rfl, rfl⟩
theorem got_none {T : List KN} {pub : Int} (h : getF T pub = none) : gotF T pub = zeroK ∧ isF T pub = false := by unfold gotF isF; rw [h]; exact ⟨rfl, rfl⟩
theorem got_pred {w : World} {b bm : Nat} {T : List KN} (ht : TabR w b bm T) (pub : Int) : PredR w (gotF T pub).h (gotF T pub).p := by
  cases h : getF T pub with
  | none => rw [(got_none h).1]; exact PredR.nil w
  | some u => rw [(got_some h).1]; exact ht.preds u (getF_some h).1
theorem got_may {T : List KN} (hok : ∀ k ∈ T, mayP k.p = true) (pub : Int) : mayP (gotF T pub).p = true := by
  cases h : getF T pub with
  | none => rw [(got_none h).1]; rfl
  | some u => rw [(got_some h).1]; exact hok u (getF_some h).1
theorem look_got {W : World} {bm : Nat} {T : List KN} (hm : MapE W bm (.int .i64) (eK T)) (hn : Pubs T) (pub : Int) :
    (Instr.lookup 43 (.map (some bm)) (.int .i64 pub) true).run Tryz.prog W = .ok (.tuple #[.agg #[.int .i64 (gotF T pub).link, .int .i64 (gotF T pub).pub, .int .u64 ((gotF T pub).ver : Nat), (gotF T pub).h], .bool (isF T pub)]) W ∧
    (Instr.lookup 43 (.map (some bm)) (.int .i64 pub) false).run Tryz.prog W = .ok (.agg #[.int .i64 (gotF T pub).link, .int .i64 (gotF T pub).pub, .int .u64 ((gotF T pub).ver : Nat), (gotF T pub).h]) W := by
  have h1 := look_ad hm hn pub true
  have h2 := look_ad hm hn pub false
  cases h : getF T pub with
  | none => rw [h] at h1 h2; rw [(got_none h).1, (got_none h).2]; exact ⟨h1, h2⟩
  | some u => rw [h] at h1 h2; rw [(got_some h).1, (got_some h).2]; exact ⟨h1, h2⟩

theorem setCell_blockT (w : World) (b i : Nat) (v : Value) (c : Array Value) (t : TypeId) (fr : Nat × Nat) (h : w.heap[b]? = some (.cells c t fr)) : (w.setCell ⟨b, i, none⟩ v).heap[b]? = some (.cells (c.setIfInBounds i v) t fr) := by
  unfold World.setCell
  simp [Array.getElem?_modify, h]
/-! A block that holds no text holds no predicate. -/
theorem row_far {w W : World} {size n : Nat} {v : Value} {xs : List Value} (h : Row w size v n xs) {b : Nat} {cs : Array Value} {t : TypeId} (hb : w.heap[b]? = some (.cells cs t (0, 0))) (hno : ∀ (j : Nat) s, cs[j]? ≠ some (Value.string s)) (hs : xs = [] ∨ ∃ (j : Nat) (s : ByteArray), xs[j]? = some (Value.string s)) (hg : w.grownBy W (some b)) : Row W size v n xs := by
  obtain ⟨h1, a, cap, e, h3, h4, h5, h6, h7⟩ := h
  refine ⟨h1, a, cap, e, h3, h4, h5, h6, fun j u hj => ?_⟩
  obtain ⟨p, e2, hcl⟩ := h7 j u hj
  refine ⟨p, e2, ?_⟩
  refine (World.cell?_of_block (hg.block _ (World.block_lt_of_cell? w _ hcl) fun hs2 => ?_)).trans hcl
  have hpb : p.block = b := Option.some.inj hs2
  rcases hs with rfl | ⟨i, s, hi⟩
  · cases hj
  · obtain ⟨q, e3, hq⟩ := h7 i _ hi
    rw [e2] at e3
    cases e3
    have := cell_of_row w b (p.off + i) cs t (0, 0) hb
    rw [← hpb, hq] at this
    exact hno _ s this.symm
theorem predR_far {w W : World} {v : Value} {p : List C} (h : PredR w v p) {b : Nat} {cs : Array Value} {t : TypeId} (hb : w.heap[b]? = some (.cells cs t (0, 0))) (hno : ∀ (j : Nat) s, cs[j]? ≠ some (Value.string s)) (hg : w.grownBy W (some b)) : PredR W v p := by
  obtain ⟨us, e, hr, hs⟩ := h
  refine ⟨us, e, row_far hr hb hno ?_ hg, fun x hx => row_far (hs x hx) hb hno ?_ hg⟩
  · cases us with
    | nil => exact .inl rfl
    | cons y r => exact .inr ⟨0, strOf y.c.name, rfl⟩
  · cases x.c.set with
    | nil => exact .inl rfl
    | cons y r => exact .inr ⟨2, strOf y.s, rfl⟩
theorem grown_same {a b c : World} {row : Option Nat} (h : a.grownBy b row) (k : b.grownBy c row) : a.grownBy c row :=
  ⟨k.os.trans h.os, k.tape.trans h.tape, k.output.trans h.output, Nat.le_trans h.size k.size, fun i hi hne => (k.block i (Nat.lt_of_lt_of_le hi h.size) hne).trans (h.block i hi hne)⟩
theorem ad_no (pub : Int) (ver : Nat) (a : Option Addr) (n c : Nat) : ∀ (j : Nat) s, (#[Value.int .i64 pub, .int .u64 (ver : Nat), .slice a n c] : Array Value)[j]? ≠ some (Value.string s) := fun j s h => by
  match j, h with
  | 0, h => cases h
  | 1, h => cases h
  | 2, h => cases h
  | j + 3, h => simp at h

set_option maxRecDepth 100000 in
set_option maxHeartbeats 8000000 in
theorem bypub_any (w : World) (b bm : Nat) (T : List KN) (ht : TabR w b bm T) (hok : ∀ k ∈ T, mayP k.p = true) (pub : Int) :
    Calls Tryz.prog 8 #[.pointer (some ⟨b, 0, none⟩), .int .i64 pub] w fun e w' => ∃ h', e = .returned (.tuple #[.int .i64 (gotF T pub).link, .agg #[.int .i64 (gotF T pub).pub, .int .u64 ((gotF T pub).ver : Nat), h'], .bool (isF T pub)]) ∧ PredR w' h' (gotF T pub).p ∧ Ext w w' := by
  obtain ⟨hx0, hb1⟩ := boxes1 w (.cells #[.int .i64 0, .int .u64 0, .slice none 0 0] 30)
  have hnn := none_no _ b bm (block_later ht.box hx0)
  have hlk := (look_got (ht.map.ext hx0) ht.pubs pub).1
  have hgp := got_pred ht pub
  have hgm := got_may hok pub
  have tb := cell_of_row _ _ 0 _ _ _ (block_later ht.box hx0)
  generalize gotF T pub = gu at *
  generalize isF T pub = is at *
  obtain ⟨link, gp, ver, p, gh⟩ := gu
  dsimp only at *
  obtain ⟨a, cap, rfl, _, _⟩ := hgp.shape
  have HGP := Lib.hid hgp
  have HGM := Lib.hid hgm
  have HB1 := Lib.hid hb1
  have HX0 := Lib.hid hx0
  have HNN := Lib.hid hnn
  generalize p.length = n at *
  have hsz : (w.alloc (.cells #[.int .i64 0, .int .u64 0, .slice none 0 0] 30)).heap.size = w.heap.size + 1 := World.size_alloc _ _
  have HSZ := Lib.hid hsz
  clear ht hok hb1 hx0 hnn hgp hgm hsz
  go_enter Tryz.func8, Tryz.ntmps8
  go_upto_region 3 with (go_at_call 22; refine HNN.out.mono ?_; rintro e w1 ⟨rfl, rfl⟩)
  generalize w.alloc (.cells #[.int .i64 0, .int .u64 0, .slice none 0 0] 30) = w0 at *
  clear HNN
  go_upto_region 4 with fail
  have hx1 : Ext w0 (w0.alloc (.cells #[.int .i64 link, .int .i64 gp, .int .u64 (ver : Nat), .slice a n cap] 67)) := (Ext.refl w0).alloc _
  have hb7 : (w0.alloc (.cells #[.int .i64 link, .int .i64 gp, .int .u64 (ver : Nat), .slice a n cap] 67)).heap[w0.heap.size]? = some (.cells #[.int .i64 link, .int .i64 gp, .int .u64 (ver : Nat), .slice a n cap] 67 (0, 0)) := heap_alloc_new w0 _
  have c0 := cell_of_row _ _ 0 _ _ _ hb7
  have c1 := cell_of_row _ _ 1 _ _ _ hb7
  have c2 := cell_of_row _ _ 2 _ _ _ hb7
  have c3 := cell_of_row _ _ 3 _ _ _ hb7
  have HX1 := Lib.hid (HX0.out.trans hx1)
  have HB1 := Lib.hid (block_later HB1.out hx1)
  clear hb7 hx1 hlk tb
  generalize w0.alloc (.cells #[.int .i64 link, .int .i64 gp, .int .u64 (ver : Nat), .slice a n cap] 67) = wr at *
  have hxd : Ext wr wr.drew := (Ext.refl wr).drew
  have HZ := Lib.hid (block_later HB1.out hxd)
  have hpd := HGP.out.ext (HX1.out.trans hxd)
  have HPD := Lib.hid hpd
  clear hpd HGP
  go_region_law (go_simp; go_at_call 23; (with_reducible refine (copied_any _ gp ver _ p HPD.out HGM.out).mono ?_); rintro e y1 ⟨h', rfl, hA, hy1⟩; obtain ⟨a9, c9, rfl, _, _⟩ := hA.shape; have c0' := hy1.cell (hxd.cell c0); have HBY := Lib.hid (block_later HZ.out hy1); have z0 := cell_of_row _ _ 0 _ _ _ HBY.out; have z1 := cell_of_row _ _ 1 _ _ _ HBY.out; have z2 := cell_of_row _ _ 2 _ _ _ HBY.out; have fz0 := frozen_of_row _ _ 0 _ _ HBY.out; have fz1 := frozen_of_row _ _ 1 _ _ HBY.out; have fz2 := frozen_of_row _ _ 2 _ _ HBY.out)
  all_goals
    go_wp2_with fail
    have q1 := setCell_blockT y1 w.heap.size 0 (.int .i64 gp) _ _ _ HBY.out
    have q2 := setCell_blockT _ w.heap.size 1 (.int .u64 (ver : Nat)) _ _ _ q1
    have q3 := setCell_blockT _ w.heap.size 2 (.slice a9 p.length c9) _ _ _ q2
    have hG := grown_same (grown_same (grown_setT y1 w.heap.size 0 (.int .i64 gp)) (grown_setT _ w.heap.size 1 (.int .u64 (ver : Nat)))) (grown_setT _ w.heap.size 2 (.slice a9 p.length c9))
    have hfar := predR_far hA HBY.out (ad_no 0 0 none 0 0) hG
    have hxw := Ext.grown_none (v := .slice (some ⟨w.heap.size, 0, none⟩) 0 0) ((HX1.out.trans hxd).trans hy1) hG (fun k hk => by simp only [Value.ownBlock, Option.some.injEq] at hk; omega)
    generalize ((y1.setCell ⟨w.heap.size, 0, none⟩ (.int .i64 gp)).setCell ⟨w.heap.size, 1, none⟩ (.int .u64 (ver : Nat))).setCell ⟨w.heap.size, 2, none⟩ (.slice a9 p.length c9) = wf at *
    have g0 : wf.cell? ⟨w.heap.size, 0, none⟩ = some (.int .i64 gp) := cell_of_row _ _ 0 _ _ _ q3
    have g1 : wf.cell? ⟨w.heap.size, 1, none⟩ = some (.int .u64 (ver : Nat)) := cell_of_row _ _ 1 _ _ _ q3
    have g2 : wf.cell? ⟨w.heap.size, 2, none⟩ = some (.slice a9 p.length c9) := cell_of_row _ _ 2 _ _ _ q3
    exact bodyPost_ret (v := .tuple #[.int .i64 link, .agg #[.int .i64 gp, .int .u64 (ver : Nat), .slice a9 p.length c9], .bool is]) (by simp [results, Tryz.results8, go_sem, g0, g1, g2]) rfl ⟨_, rfl, hfar, hxw⟩
end Go.Proofs.YtabegbelkfhbcaaGreat

namespace Go.Proofs.YtabegbelkfhbcaaGreat
open Go.RowKit Go.MapKept

set_option maxRecDepth 100000 in
set_option maxHeartbeats 8000000 in
theorem withdraw_no (w : World) (b bm : Nat) (T : List KN) (ht : TabR w b bm T) (link pub : Int) (hno : isF T pub = false ∨ (gotF T pub).link ≠ link) :
    Calls Tryz.prog 14 #[.pointer (some ⟨b, 0, none⟩), .int .i64 link, .int .i64 pub] w fun e w' => e = .returned (.int .i64 6) ∧ Ext w w' := by
  have hnn := none_no _ b bm ht.box
  have hlk := (look_got ht.map ht.pubs pub).1
  obtain ⟨gh, gn, gc, hge, _⟩ : ∃ a n c, (gotF T pub).h = .slice a n c ∧ True := by obtain ⟨a, c, e, _⟩ := (got_pred ht pub).shape; exact ⟨a, _, c, e, trivial⟩
  rw [hge] at hlk
  have tb := cell_of_row _ _ 0 _ _ _ ht.box
  have HNN := Lib.hid hnn
  clear hnn hge ht
  generalize gotF T pub = gu at *
  generalize isF T pub = is at *
  obtain ⟨gl, gp, ver, p, gh'⟩ := gu
  dsimp only at *
  cases is with
  | false =>
    clear hno
    go_enter Tryz.func14, Tryz.ntmps14
    go_wp2_with (go_at_call 22; refine HNN.out.mono ?_; rintro e w1 ⟨rfl, rfl⟩)
    go_ret
    exact ⟨rfl, (Ext.refl _).alloc _⟩
  | true =>
    have h1 : (gl == link) = false := beq_eq_false_iff_ne.2 (hno.resolve_left (fun h => by cases h))
    have h2 : (gl != link) = true := by rw [bne, h1]; rfl
    clear hno
    go_enter Tryz.func14, Tryz.ntmps14
    go_wp2_with (go_at_call 22; refine HNN.out.mono ?_; rintro e w1 ⟨rfl, rfl⟩)
    go_ret
    exact ⟨rfl, (Ext.refl _).alloc _⟩
theorem TabR.del {w w1 w2 : World} {b bm : Nat} {T : List KN} (h : TabR w b bm T) (hx : Ext w w1) {pub : Int} (hb : But bm w1 w2)
    (hm : ((∀ x ∈ eK T, x.1 ≠ Value.int .i64 pub) ∧ MapE w2 bm (.int .i64) (eK T)) ∨ ∃ (j : Nat) (u : Value), (eK T)[j]? = some (Value.int .i64 pub, u) ∧ MapE w2 bm (.int .i64) ((eK T).eraseIdx j)) :
    TabR w2 b bm (delF T pub) ∧ w.grownBy w2 (some bm) := by
  have h1 := h.ext hx
  refine ⟨⟨(hb.block b h1.ne).trans h1.box, eK_del h.pubs hm, fun x hx' => predR_grown (h1.preds x (delF_mem.1 hx').1) hb.grown h1.map.isMap⟩, grown_after hx hb.grown⟩

set_option maxRecDepth 100000 in
set_option maxHeartbeats 8000000 in
theorem withdraw_yes (w : World) (b bm : Nat) (T : List KN) (ht : TabR w b bm T) (link pub : Int) (hi : isF T pub = true) (hl : (gotF T pub).link = link) :
    Calls Tryz.prog 14 #[.pointer (some ⟨b, 0, none⟩), .int .i64 link, .int .i64 pub] w fun e w' => e = .returned (.int .i64 0) ∧ TabR w' b bm (delF T pub) ∧ w.grownBy w' (some bm) := by
  have hnn := none_no _ b bm ht.box
  have hlk := (look_got ht.map ht.pubs pub).1
  obtain ⟨gh, gn, gc, hge, _⟩ : ∃ a n c, (gotF T pub).h = .slice a n c ∧ True := by obtain ⟨a, c, e, _⟩ := (got_pred ht pub).shape; exact ⟨a, _, c, e, trivial⟩
  rw [hge, hi] at hlk
  have tb := cell_of_row _ _ 0 _ _ _ ht.box
  have HNN := Lib.hid hnn
  have HT := Lib.hid ht
  clear hnn hge ht hi
  generalize gotF T pub = gu at *
  obtain ⟨gl, gp, ver, p, gh'⟩ := gu
  dsimp only at *
  subst hl
  have hbx : ∀ {o : Obj}, (w.alloc o).cell? ⟨b, 0, none⟩ = some (.map (some bm)) := fun {o} => ((Ext.refl w).alloc o).cell tb
  go_enter Tryz.func14, Tryz.ntmps14
  go_upto_region 6 with (go_at_call 22; refine HNN.out.mono ?_; rintro e w1 ⟨rfl, rfl⟩)
  have hx := (Ext.refl w1).alloc (.cells #[.int .i64 gl, .int .i64 gp, .int .u64 (ver : Nat), .slice gh gn gc] 67)
  have HM := Lib.hid (HT.out.map.ext hx)
  have HX := Lib.hid hx
  have tb' := hx.cell tb
  clear hx hlk tb hbx
  go_upto_region 7 with (refine wpList_del rfl (.tmp 31) (.tmp 32) 43 3 rfl Tryz.underlying43 Tryz.underlying3 rfl HM.out rfl ?_; intro w5 hbut hput; have HF := Lib.hid (HT.out.del HX.out hbut hput); clear hbut hput)
  go_wp2
  go_ret
  exact ⟨rfl, HF.out.1, HF.out.2⟩

/-! Copy. -/
theorem run_cloneT {P : Program} (w : World) {r : Nat} {es : Array MapEntry} {clock : Nat} (t : TypeId) (hb : w.heap[r]? = some (.map es clock)) :
    (Extern.MapsClone.clone #[.iface t (.map (some r))]).run P w = .ok (.iface t (.map (some w.heap.size))) (w.alloc (.map es clock)) := by
  have e : Extern.MapsClone.clone #[.iface t (.map (some r))] = (getObj r >>= fun o => match o with
      | .map entries clock => (newObj (.map entries clock) >>= fun n => pure (.iface t (.map (some n))))
      | _ => stuck "maps.clone: a map expected") := rfl
  rw [e]
  simp [Go.MapKept.run_getObj_map hb, Result.andThen, go_sem]
theorem run_assert_mapT {P : Program} (w : World) (t xT k e : TypeId) (v : Value) (h : P.underlying t = some (.map k e)) : (Instr.typeAssert (.iface t v) xT t false).run P w = .ok v w := by
  simp [Instr.typeAssert, run_underlying h, go_sem, Result.andThen]
set_option maxHeartbeats 2000000 in
theorem mclone_any (w : World) (b : Nat) (d : TypeDesc) (E : List (Value × Value)) (hm : MapE w b d E) :
    Calls Tryz.prog 28 #[.map (some b)] w fun e w' => e = .returned (.map (some w.heap.size)) ∧ MapE w' w.heap.size d E ∧ Ext w w' := by
  obtain ⟨es, clock, hb, rest⟩ := hm
  have hq : ∀ (w : World) (r : Nat), (binOp .eql 43 (.map (some r)) (.map none)).run Tryz.prog w = .ok (.bool false) w := fun w r => by
    have := run_eql_map_nil (P := Tryz.prog) w 43 3 67 (some r) Tryz.underlying43
    simpa using this
  have hc : ∀ args w, (callFunc 49 args).run Tryz.prog w = ((Extern.MapsClone.clone args).run Tryz.prog w).andThen fun v w' => .ok (.value v) w' := fun args w => run_callFunc_extern Tryz.func49 (by kernel_rfl) (by kernel_rfl) (by kernel_rfl) (e := Extern.MapsClone.clone) (by kernel_rfl) args w
  have hr := run_cloneT (P := Tryz.prog) w 43 hb
  have ha := run_assert_mapT (P := Tryz.prog) (w.alloc (.map es clock)) 43 20 _ _ (.map (some w.heap.size)) Tryz.underlying43
  go_enter Tryz.func28, Tryz.ntmps28
  go_wp2_with fail
  go_ret
  exact ⟨rfl, ⟨es, clock, (Go.MapKept.heap_alloc w _).1, rest⟩, (Ext.refl w).alloc _⟩
set_option maxHeartbeats 2000000 in
theorem copy_any (w : World) (b bm : Nat) (T : List KN) (ht : TabR w b bm T) :
    Calls Tryz.prog 12 #[.pointer (some ⟨b, 0, none⟩)] w fun e w' => ∃ c cm, e = .returned (.pointer (some ⟨c, 0, none⟩)) ∧ TabR w' c cm T ∧ w.heap.size ≤ c ∧ w.heap.size ≤ cm ∧ Ext w w' := by
  have hnn := none_no _ b bm ht.box
  have hcl := mclone_any w bm _ _ ht.map
  have tb := cell_of_row _ _ 0 _ _ _ ht.box
  have HNN := Lib.hid hnn
  have HCL := Lib.hid hcl
  have HT := Lib.hid ht
  clear hnn hcl ht
  go_enter Tryz.func12, Tryz.ntmps12
  go_wp2_with (first
    | (go_at_call 22; refine HNN.out.mono ?_; rintro e w1 ⟨rfl, rfl⟩)
    | (go_at_call 28; refine HCL.out.mono ?_; rintro e w2 ⟨rfl, hm, hx⟩; have HM := Lib.hid hm; have HX := Lib.hid hx; clear hm hx))
  go_ret
  have hxa : Ext w2 (w2.alloc (.cells #[.map (some w1.heap.size)] 45)) := (Ext.refl w2).alloc _
  refine ⟨w2.heap.size, w1.heap.size, rfl, ⟨heap_alloc_new w2 _, HM.out.ext hxa, fun k hk => (HT.out.preds k hk).ext (HX.out.trans hxa)⟩, HX.out.size, Nat.le_refl _, HX.out.trans hxa⟩
end Go.Proofs.YtabegbelkfhbcaaGreat

namespace Go.Proofs
open Go.Shelf
def Tryz.lays189_ren : Go.Shelf.Ren := ⟨fun | 189 => 50 | 125 => 75 | 257 => 74 | 128 => 115 | 129 => 116 | 294 => 106 | 295 => 107 | 296 => 108 | 297 => 109 | 298 => 110 | 299 => 111 | 216 => 112 | 300 => 113 | 301 => 114 | 328 => 138 | 329 => 139 | 330 => 140 | 331 => 141 | 332 => 142 | 215 => 136 | 343 => 156 | n => n, fun | 28 => 46 | 3 => 3 | 46 => 126 | 0 => 0 | 51 => 151 | 53 => 23 | 4 => 4 | 183 => 143 | 182 => 142 | 131 => 148 | 5 => 5 | 9 => 9 | 218 => 167 | 222 => 171 | 228 => 185 | 229 => 186 | n => n, fun | n => n⟩
theorem Tryz.lays189 : Go.Proofs.Lays.n189 Tryz.prog Tryz.lays189_ren := {
  mixed := by kernel_rfl
  f125 := Tryz.func75.trans (congrArg some (by kernel_rfl))
  f128 := Tryz.func115.trans (congrArg some (by kernel_rfl))
  f129 := Tryz.func116.trans (congrArg some (by kernel_rfl))
  f189 := Tryz.func50.trans (congrArg some (by kernel_rfl))
  f215 := Tryz.func136.trans (congrArg some (by kernel_rfl))
  f216 := Tryz.func112.trans (congrArg some (by kernel_rfl))
  f257 := Tryz.func74.trans (congrArg some (by kernel_rfl))
  f294 := Tryz.func106.trans (congrArg some (by kernel_rfl))
  f295 := Tryz.func107.trans (congrArg some (by kernel_rfl))
  f296 := Tryz.func108.trans (congrArg some (by kernel_rfl))
  f297 := Tryz.func109.trans (congrArg some (by kernel_rfl))
  f298 := Tryz.func110.trans (congrArg some (by kernel_rfl))
  f299 := Tryz.func111.trans (congrArg some (by kernel_rfl))
  f300 := Tryz.func113.trans (congrArg some (by kernel_rfl))
  f301 := Tryz.func114.trans (congrArg some (by kernel_rfl))
  f328 := Tryz.func138.trans (congrArg some (by kernel_rfl))
  f329 := Tryz.func139.trans (congrArg some (by kernel_rfl))
  f330 := Tryz.func140.trans (congrArg some (by kernel_rfl))
  f331 := Tryz.func141.trans (congrArg some (by kernel_rfl))
  f332 := Tryz.func142.trans (congrArg some (by kernel_rfl))
  f343 := Tryz.func156.trans (congrArg some (by kernel_rfl))
  t0 := Tryz.underlying0
  a0 := Tryz.isAgg0
  z0 := Tryz.sizeOf0
  v0 := Tryz.zeroValue0
  t3 := Tryz.underlying3
  a3 := Tryz.isAgg3
  z3 := Tryz.sizeOf3
  v3 := Tryz.zeroValue3
  t4 := Tryz.underlying4
  a4 := Tryz.isAgg4
  z4 := Tryz.sizeOf4
  v4 := Tryz.zeroValue4
  t5 := Tryz.underlying5
  a5 := Tryz.isAgg5
  z5 := Tryz.sizeOf5
  v5 := Tryz.zeroValue5
  t9 := Tryz.underlying9
  a9 := Tryz.isAgg9
  z9 := Tryz.sizeOf9
  v9 := Tryz.zeroValue9
  t28 := Tryz.underlying46
  a28 := Tryz.isAgg46
  z28 := Tryz.sizeOf46
  v28 := Tryz.zeroValue46
  t46 := Tryz.underlying126
  a46 := Tryz.isAgg126
  z46 := Tryz.sizeOf126
  v46 := Tryz.zeroValue126
  t51 := Tryz.underlying151
  a51 := Tryz.isAgg151
  z51 := Tryz.sizeOf151
  v51 := Tryz.zeroValue151
  t53 := Tryz.underlying23
  a53 := Tryz.isAgg23
  z53 := Tryz.sizeOf23
  v53 := Tryz.zeroValue23
  t131 := Tryz.underlying148
  a131 := Tryz.isAgg148
  z131 := Tryz.sizeOf148
  v131 := Tryz.zeroValue148
  t182 := Tryz.underlying142
  a182 := Tryz.isAgg142
  z182 := Tryz.sizeOf142
  v182 := Tryz.zeroValue142
  t183 := Tryz.underlying143
  a183 := Tryz.isAgg143
  z183 := Tryz.sizeOf143
  v183 := Tryz.zeroValue143
  t218 := Tryz.underlying167
  a218 := Tryz.isAgg167
  z218 := Tryz.sizeOf167
  v218 := Tryz.zeroValue167
  t222 := Tryz.underlying171
  a222 := Tryz.isAgg171
  z222 := Tryz.sizeOf171
  v222 := Tryz.zeroValue171
  t228 := Tryz.underlying185
  a228 := Tryz.isAgg185
  z228 := Tryz.sizeOf185
  v228 := Tryz.zeroValue185
  t229 := Tryz.underlying186
  a229 := Tryz.isAgg186
  z229 := Tryz.sizeOf186
  v229 := Tryz.zeroValue186 }
open Go.Sort Go.RowKit in
theorem Tryz.slices_Sort_int (blk off cap : Nat) (zs : List Int) (w : World) (hH : Holds (Value.int .i64) w blk off zs.toArray) (hblk : blk < w.heap.size) (hsz : zs.length < 4611686018427387904) :
    Calls Tryz.prog 50 #[.slice (some ⟨blk, off, none⟩) zs.length cap] w fun e w' =>
      e = .returned (.tuple #[]) ∧ ∃ n os, w' = grow (putRow (Value.int .i64) (Sort.ahead w n) blk off (zs.mergeSort fun x y => decide (x ≤ y)).toArray) os := Any.slices_Sort_int Tryz.lays189 blk off cap zs w hH hblk hsz
open Go.RowKit Go.Sort in
/-- .. and plain. (LAID: no walk: one application.) -/
theorem Tryz.slices_Sort_int_none (p : Option Addr) (cap : Nat) (w : World) :
    Calls Tryz.prog 50 #[.slice p 0 cap] w fun e w' => e = .returned (.tuple #[]) ∧ w' = w := Any.slices_Sort_int_none Tryz.lays189 p cap w
end Go.Proofs

namespace Go.Proofs.YtabegbelkfhbcaaGreat
open Go.RowKit Go.MapKept Go.Sort

theorem sort_ints (l : List Int) : (l.mergeSort fun x y => decide (x ≤ y)).Perm l ∧ (l.mergeSort fun x y => decide (x ≤ y)).Pairwise fun a b => a ≤ b := by
  refine ⟨List.mergeSort_perm _ _, ?_⟩
  have h := List.pairwise_mergeSort (le := fun x y : Int => decide (x ≤ y)) (fun a b c h1 h2 => by
    simp only [decide_eq_true_eq] at *
    omega) (fun a b => by
    simp only [Bool.or_eq_true, decide_eq_true_eq]
    omega) l
  exact h.imp fun h => by simpa using h
theorem putRow_ints (w : World) (g : Nat) (l : List Int) : putRow (Value.int .i64) w g 0 l.toArray = putRow id w g 0 (l.map (Value.int .i64)).toArray := by
  unfold putRow
  congr 1
  funext c
  unfold putCells
  congr 1
  funext k x
  simp only [List.size_toArray, List.length_map]
  split
  · rename_i h
    have hk : k - 0 < l.length := by omega
    rw [getElem!_pos _ _ (by simpa using hk), getElem!_pos _ _ (by simpa using hk)]
    simp
  · rfl
theorem holds_ints {w : World} {g : Nat} {l : List Int} (h : Holds id w g 0 (l.map (Value.int .i64)).toArray) : Holds (Value.int .i64) w g 0 l.toArray := by
  intro j hj
  have hj' : j < l.length := by simpa using hj
  have := h j (by simpa using hj')
  rw [getElem!_pos _ _ (by simpa using hj')] at this ⊢
  simpa using this
theorem sortI_any (w : World) (base : Nat) (v : Value) (l : List Int) (ho : w.ownsRow base 3 1 v l.length (l.map (Value.int .i64))) (hl : l.length ≤ 1000000) :
    Calls Tryz.prog 50 #[v] w fun e w' => e = .returned (.tuple #[]) ∧ ∃ l' : List Int, l'.Perm l ∧ (l'.Pairwise fun a b => a ≤ b) ∧ w'.ownsRow base 3 1 v l.length (l'.map (Value.int .i64)) ∧ w.grownBy w' v.ownBlock := by
  have ho' := ho
  rcases ho.2 with ⟨rfl, h0⟩ | ⟨g, cap, cur, rfl, hb, hg, hn, hm, hs, ht⟩
  · have hz : l = [] := List.length_eq_zero_iff.1 h0
    subst hz
    refine (Tryz.slices_Sort_int_none none 0 w).mono ?_
    rintro e w' ⟨rfl, rfl⟩
    exact ⟨rfl, [], List.Perm.refl _, List.Pairwise.nil, ho, ⟨rfl, rfl, rfl, Nat.le_refl _, fun _ _ _ => rfl⟩⟩
  · have hlt : g < w.heap.size := (Array.getElem?_eq_some_iff.1 hg).1
    obtain ⟨_, _, _, _, _, _, _, hH⟩ := own_holds ho
    refine (Tryz.slices_Sort_int g 0 cap l w (holds_ints hH) hlt (by omega)).mono ?_
    rintro e w' ⟨rfl, n, os, rfl⟩
    obtain ⟨p1, p2⟩ := sort_ints l
    refine ⟨rfl, _, p1, p2, ?_, ?_⟩
    · rw [putRow_ints]
      exact own_put ho (by simp [p1.length_eq])
    · rw [putRow_ints]
      exact grownBy_row _

/-! those -/
def pubC (k : KN) : Value := .int .i64 k.pub
theorem own_not_iterT {w : World} {base size n r b : Nat} {e : TypeId} {v : Value} {xs : List Value} {d : TypeDesc} {E left : List (Value × Value)} (ho : w.ownsRow base e size v n xs) (hr : RangeE w r b d E left) : v.ownBlock ≠ some r := by
  intro hv
  obtain ⟨es, clock, since, seen, c0, _, _, _, _, h5, _⟩ := hr
  rcases ho.2 with ⟨rfl, _⟩ | ⟨g, cap, cur, rfl, _, hg, _⟩
  · simp [Value.ownBlock] at hv
  · simp only [Value.ownBlock, Option.some.injEq] at hv
    subst hv
    rw [h5] at hg
    cases hg
/-- What those's loop keeps: D are those that came up. -/
structure ThoseI (w wr : World) (r bm : Nat) (T : List KN) (q : KN → Bool) (D : List KN) (v : Value) (left : List (Value × Value)) : Prop where
  rng : RangeE wr r bm (.int .i64) (eK T) left
  rest : ∃ R, left.Perm (eK R) ∧ (D ++ R).Perm T
  row : wr.ownsRow w.heap.size 3 1 v (D.filter q).length ((D.filter q).map pubC)
  ext : Ext w wr
  lo : w.heap.size ≤ r
theorem ThoseI.ext' {w wr w' : World} {r bm : Nat} {T : List KN} {q : KN → Bool} {D : List KN} {v : Value} {left : List (Value × Value)} (h : ThoseI w wr r bm T q D v left) (hx : Ext wr w') : ThoseI w w' r bm T q D v left :=
  ⟨h.rng.ext hx, h.rest, own_ext h.row hx, h.ext.trans hx, h.lo⟩
theorem ThoseI.len {w wr : World} {r bm : Nat} {T : List KN} {q : KN → Bool} {D : List KN} {v : Value} {left : List (Value × Value)} (h : ThoseI w wr r bm T q D v left) : (D.filter q).length ≤ T.length := by
  obtain ⟨R, _, hp⟩ := h.rest
  have := hp.length_eq
  rw [List.length_append] at this
  exact Nat.le_trans (List.length_filter_le _ _) (by omega)
/-- One comes up: k; D turns to D and k, but the row is as it was. -/
theorem ThoseI.next {w wr w6 : World} {r bm : Nat} {T : List KN} {q : KN → Bool} {D : List KN} {v : Value} {left left' : List (Value × Value)} {kv vv : Value} (h : ThoseI w wr r bm T q D v left)
    (hp : left.Perm ((kv, vv) :: left')) (hr6 : RangeE w6 r bm (.int .i64) (eK T) left') (hb : But r wr w6) :
    ∃ k, k ∈ T ∧ kv = .int .i64 k.pub ∧ vv = knV k ∧ RangeE w6 r bm (.int .i64) (eK T) left' ∧ (∃ R, left'.Perm (eK R) ∧ ((D ++ [k]) ++ R).Perm T) ∧ w6.ownsRow w.heap.size 3 1 v (D.filter q).length ((D.filter q).map pubC) ∧ Ext w w6 := by
  obtain ⟨R, h1, h2⟩ := h.rest
  have hin : (kv, vv) ∈ eK R := h1.mem_iff.1 (hp.mem_iff.2 List.mem_cons_self)
  obtain ⟨k, hk, hkv⟩ := List.mem_map.1 hin
  simp only [Prod.mk.injEq] at hkv
  obtain ⟨R1, R2, rfl⟩ := List.append_of_mem hk
  have hpR : (R1 ++ k :: R2).Perm (k :: (R1 ++ R2)) := List.perm_middle
  have h3 : left'.Perm (eK (R1 ++ R2)) := by
    have h4 : ((kv, vv) :: left').Perm (eK (k :: (R1 ++ R2))) := (hp.symm.trans h1).trans (hpR.map _)
    have e : eK (k :: (R1 ++ R2)) = (kv, vv) :: eK (R1 ++ R2) := by rw [← hkv.1, ← hkv.2]; rfl
    rw [e] at h4
    exact List.Perm.cons_inv h4
  have hkT : k ∈ T := h2.mem_iff.1 (List.mem_append_right _ hk)
  refine ⟨k, hkT, hkv.1.symm, hkv.2.symm, hr6, ⟨R1 ++ R2, h3, ?_⟩, ?_, hb.ext h.ext h.lo⟩
  · rw [List.append_assoc]
    exact (hpR.symm.append_left D).trans h2
  · exact own_keep h.row hb.grown fun g hg e => own_not_iterT h.row h.rng (hg.trans e.symm)
theorem info_intT : (Tryz.prog.info? 3).map (fun i => (i.zero, i.size, i.bytes)) = some (some (.int .i64 0), 1, 8) := by kernel_rfl
theorem int_row (w : World) (n : Int) : Row (w.alloc (.cells #[.int .i64 n] 3)) 1 (.slice (some ⟨w.heap.size, 0, none⟩) 1 1) 1 [.int .i64 n] :=
  Row.of_own (World.ownsRow_lit (base := w.heap.size) (e := 3) (size := 1) w #[.int .i64 n] 1 (Nat.le_refl _) (by decide) rfl)

set_option maxRecDepth 100000 in
set_option maxHeartbeats 8000000 in
theorem those_any (w : World) (b bm : Nat) (T : List KN) (ht : TabR w b bm T) (hlen : T.length ≤ 1000000) (g : Nat) (cb : Array Value) (q : KN → Bool) (eg : ∀ args w, (callFunc g args).run Tryz.prog w = .ok (.enter g args) w)
    (hc : ∀ (W : World) (k : KN), Ext w W → k ∈ T → Calls Tryz.prog g (#[.agg #[.int .i64 k.link, .int .i64 k.pub, .int .u64 (k.ver : Nat), k.h]] ++ cb) W fun e W' => e = .returned (.bool (q k)) ∧ Ext W W') :
    Calls Tryz.prog 30 #[.pointer (some ⟨b, 0, none⟩), .func (.func g) #[] cb] w fun e w' => ∃ v ks, e = .returned v ∧ RisK T q ks ∧ w'.ownsRow w.heap.size 3 1 v ks.length (ks.map pubC) ∧ Ext w w' := by
  have hnn := none_no _ b bm ht.box
  have tb := cell_of_row _ _ 0 _ _ _ ht.box
  have HM := Lib.hid ht.map
  have HNN := Lib.hid hnn
  have HC := Lib.hid hc
  have HT := Lib.hid ht
  have HLEN := Lib.hid hlen
  clear hnn hc ht hlen
  go_enter Tryz.func30, Tryz.ntmps30
  go_upto_region 4 with (go_at_call 22; refine HNN.out.mono ?_; rintro e w1 ⟨rfl, rfl⟩)
  clear HNN
  obtain ⟨w, rfl⟩ : ∃ x : World, x = w1 := ⟨_, rfl⟩
  go_wp2_with (at_range; refine wpList_rangeE rfl (.tmp 13) 43 rfl Tryz.underlying43 rfl HM.out ?_; intro w5 hrg hx; have HRG := Lib.hid hrg; have HX5 := Lib.hid hx; clear hrg hx)
  go_frame
  go_loopw [5] (fun v wr => ∃ D left, Hid (ThoseI w wr w.heap.size bm T q D v left)) (fun _ wr => wr.rangeLeft bm w.heap.size)
  case atStart => exact ⟨[], _, ⟨HRG.out, ⟨T, List.Perm.refl _, List.Perm.refl _⟩, own_none _ _ _ _, HX5.out, Nat.le_refl _⟩⟩
  case round =>
    clear HRG HX5
    obtain ⟨D, left, hI⟩ := hrel
    obtain ⟨v, hv⟩ : ∃ x, x = u5 := ⟨_, rfl⟩
    subst hv
    go_wp2_with (at_next; refine wpList_nextE rfl (.tmp 14) rfl rfl hI.out.rng ?_ ?_)
    · intro hl0
      obtain ⟨R, hR1, hR2⟩ := hI.out.rest
      rw [hl0] at hR1
      have hR0 : R = [] := by
        have := hR1.length_eq
        unfold eK at this
        rw [List.length_map] at this
        exact List.length_eq_zero_iff.1 this.symm
      rw [hR0, List.append_nil] at hR2
      have hrow := hI.out.row
      have e1 : (D.filter q).map pubC = ((D.filter q).map KN.pub).map (Value.int .i64) := by rw [List.map_map]; rfl
      rw [e1, ← List.length_map (f := KN.pub)] at hrow
      have hsort := sortI_any wr w.heap.size v ((D.filter q).map KN.pub) hrow (by rw [List.length_map]; exact Nat.le_trans hI.out.len HLEN.out)
      have HS := Lib.hid hsort
      have HROW := Lib.hid hrow
      have HX := Lib.hid hI.out.ext
      have HP := Lib.hid (hR2.filter q)
      have HPB := Lib.hid HT.out.pubs
      clear hsort hrow hR1 hR2 hI hl0 e1
      go_wp2_with (go_at_call 50; (with_reducible refine HS.out.mono ?_); rintro e w8 ⟨rfl, l', p1, p2, p3, p4⟩)
      go_ret
      obtain ⟨ks, h1, h2⟩ := ris_of (q := q) HPB.out HP.out p1 p2
      refine ⟨_, ks, rfl, h1, ?_, HX.out.grown_none p4 (own_base HROW.out)⟩
      have e2 : l'.map (Value.int .i64) = ks.map pubC := by rw [h2, List.map_map]; rfl
      have e3 : ((D.filter q).map KN.pub).length = ks.length := by rw [← p1.length_eq, h2, List.length_map]
      rw [← e2, ← e3]
      exact p3
    · intro kv vv left' w6 hperm hin hrg6 hbut hen
      obtain ⟨k, hkT, rfl, hvk, n1, n2, n3, n4⟩ := hI.out.next hperm hrg6 hbut
      have HML := Lib.hid hI.out.rng.left_eq
      have HLL := Lib.hid hperm.length_eq
      have hDl : (D.filter q).length ≤ 1000000 := Nat.le_trans hI.out.len HLEN.out
      obtain ⟨ha, hcap, hhe, _, _⟩ := (HT.out.preds k hkT).shape
      obtain ⟨hxa, hb7⟩ := boxes1 w6 (.cells #[.int .i64 k.link, .int .i64 k.pub, .int .u64 (k.ver : Nat), .slice ha k.p.length hcap] 67)
      have c0 := cell_of_row _ _ 0 _ _ _ hb7
      have c1 := cell_of_row _ _ 1 _ _ _ hb7
      have c2 := cell_of_row _ _ 2 _ _ _ hb7
      have c3 := cell_of_row _ _ 3 _ _ _ hb7
      have hcall := HC.out _ k (n4.trans hxa) hkT
      have HKE := Lib.hid hhe
      rw [hhe] at hcall
      unfold knV at hvk
      rw [hhe] at hvk
      subst hvk
      clear hhe
      have N1 := Lib.hid (n1.ext hxa)
      have N2 := Lib.hid n2
      have N3 := Lib.hid (own_ext n3 hxa)
      have N4 := Lib.hid (n4.trans hxa)
      have HR : Hid (w.heap.size ≤ w.heap.size) := Nat.le_refl _
      have HCALL := Lib.hid hcall
      clear n1 n2 n3 n4 hcall hb7 hperm hin hrg6 hbut hI hxa
      generalize hkl : k.p.length = kl at *
      go_upto_region 7 with fail
      generalize w6.alloc (.cells #[.int .i64 k.link, .int .i64 k.pub, .int .u64 (k.ver : Nat), .slice ha kl hcap] 67) = w7 at *
      cases hq : q k with
      | false =>
        have HQ := Lib.hid hq
        clear hq
        go_wp2_with (go_at_fn g; refine HCALL.out.mono ?_; rw [HQ.out]; rintro e w8 ⟨rfl, hx8⟩)
        have hfil : (D ++ [k]).filter q = D.filter q := by rw [List.filter_append]; simp [HQ.out]
        have HI : Hid (ThoseI w w8 w.heap.size bm T q (D ++ [k]) v left') := ⟨N1.out.ext hx8, N2.out, by rw [hfil]; exact own_ext N3.out hx8, N4.out.trans hx8, Nat.le_refl _⟩
        go_roundw
        case rel => exact ⟨_, _, HI⟩
        case measure =>
          rw [HI.out.rng.left_eq, HML.out]
          have := HLL.out
          rw [List.length_cons] at this
          omega
      | true =>
        have HQ := Lib.hid hq
        clear hq
        obtain ⟨va, vc, rfl, _, _⟩ := own_shape N3.out
        go_upto_region 8 with (go_at_fn g; refine HCALL.out.mono ?_; rw [HQ.out]; rintro e w8 ⟨rfl, hx8⟩)
        have hrow := int_row w8 k.pub
        have hxb : Ext w8 (w8.alloc (.cells #[.int .i64 k.pub] 3)) := (Ext.refl w8).alloc _
        have HOWN := Lib.hid (own_ext N3.out (hx8.trans hxb))
        have HROW := Lib.hid hrow
        have HX := Lib.hid (hx8.trans hxb)
        have hbase : w.heap.size ≤ (w8.alloc (.cells #[.int .i64 k.pub] 3)).heap.size := ((N4.out.trans hx8).trans hxb).size
        have HBASE := Lib.hid hbase
        clear hrow hxb hx8 hbase c0 c1 c2 c3
        go_wp2_with (at_builtin; refine wpList_append_row 46 3 (.tmp 23) (.tmp 25) rfl w.heap.size _ 1 8 Tryz.underlying46 info_intT rfl (by decide) rfl _ (D.filter q).length ((D.filter q).map pubC) rfl HOWN.out 1 [.int .i64 k.pub] HROW.out (by simp [Value.oneCell']) (by omega) (by unfold maxLen; omega) HBASE.out ?_; intro v' w9 hown hgrow; have HO9 := Lib.hid hown; have HG9 := Lib.hid hgrow; clear hown hgrow)
        have hfil : (D ++ [k]).filter q = D.filter q ++ [k] := by rw [List.filter_append]; simp [HQ.out]
        have hx9 := (N4.out.trans HX.out).grown_none HG9.out (own_base HOWN.out)
        have hnr : (Value.slice va (D.filter q).length vc).ownBlock ≠ some w.heap.size := own_not_iterT HOWN.out (N1.out.ext HX.out)
        have hnb : (Value.slice va (D.filter q).length vc).ownBlock ≠ some bm := fun e => by
          obtain ⟨es, c, hm⟩ := HT.out.map.isMap
          have hm8 := block_later hm (N4.out.trans HX.out)
          rcases HOWN.out.2 with ⟨e0, _⟩ | ⟨g', cap, cur, e0, _, hg, _⟩
          · rw [e0] at e; simp [Value.ownBlock] at e
          · rw [e0] at e
            simp only [Value.ownBlock, Option.some.injEq] at e
            subst e
            rw [hm8] at hg; cases hg
        have HI : Hid (ThoseI w w9 w.heap.size bm T q (D ++ [k]) v' left') := ⟨(N1.out.ext HX.out).grown HG9.out hnb hnr, N2.out, by rw [hfil, List.map_append, List.length_append]; exact HO9.out, hx9, Nat.le_refl _⟩
        clear hx9 hnr hnb
        go_roundw
        case rel => exact ⟨_, _, HI⟩
        case measure =>
          rw [HI.out.rng.left_eq, HML.out]
          have := HLL.out
          rw [List.length_cons] at this
          omega
end Go.Proofs.YtabegbelkfhbcaaGreat

namespace Go.Proofs.YtabegbelkfhbcaaGreat
open Go.RowKit Go.MapKept

theorem ent_all : ∀ args w, (callFunc 31 args).run Tryz.prog w = .ok (.enter 31 args) w := enters_of Tryz.func31 (by kernel_rfl) rfl
theorem ent_forget : ∀ args w, (callFunc 32 args).run Tryz.prog w = .ok (.enter 32 args) w := enters_of Tryz.func32 (by kernel_rfl) rfl
theorem ent_over : ∀ args w, (callFunc 35 args).run Tryz.prog w = .ok (.enter 35 args) w := enters_of Tryz.func35 (by kernel_rfl) rfl
theorem all1_any (W : World) (l p : Int) (v : Nat) (h : Value) : Calls Tryz.prog 31 #[.agg #[.int .i64 l, .int .i64 p, .int .u64 (v : Nat), h]] W fun e W' => e = .returned (.bool true) ∧ Ext W W' := by
  go_enter Tryz.func31, Tryz.ntmps31
  go_wp2
  go_ret
  exact ⟨rfl, (Ext.refl W).alloc _⟩
theorem forget1_any (W : World) (l p : Int) (v : Nat) (h : Value) (B : Nat) (link : Int) (hB : W.cell? ⟨B, 0, none⟩ = some (.int .i64 link)) : Calls Tryz.prog 32 #[.agg #[.int .i64 l, .int .i64 p, .int .u64 (v : Nat), h], .pointer (some ⟨B, 0, none⟩)] W fun e W' => e = .returned (.bool (l == link)) ∧ Ext W W' := by
  obtain ⟨hxa, hb7⟩ := boxes1 W (.cells #[.int .i64 l, .int .i64 p, .int .u64 (v : Nat), h] 67)
  have c0 := cell_of_row _ _ 0 _ _ _ hb7
  have hB2 := hxa.cell hB
  have HX := Lib.hid hxa
  clear hxa hb7 hB
  go_enter Tryz.func32, Tryz.ntmps32
  go_wp2
  go_ret
  exact ⟨rfl, HX.out⟩
theorem over1_any (W : World) (l p : Int) (v : Nat) (h : Value) (B : Nat) (link : Int) (hB : W.cell? ⟨B, 0, none⟩ = some (.int .i64 link)) : Calls Tryz.prog 35 #[.agg #[.int .i64 l, .int .i64 p, .int .u64 (v : Nat), h], .pointer (some ⟨B, 0, none⟩)] W fun e W' => e = .returned (.bool (l == link)) ∧ Ext W W' := by
  obtain ⟨hxa, hb7⟩ := boxes1 W (.cells #[.int .i64 l, .int .i64 p, .int .u64 (v : Nat), h] 67)
  have c0 := cell_of_row _ _ 0 _ _ _ hb7
  have hB2 := hxa.cell hB
  have HX := Lib.hid hxa
  clear hxa hb7 hB
  go_enter Tryz.func35, Tryz.ntmps35
  go_wp2
  go_ret
  exact ⟨rfl, HX.out⟩

/-! list -/
def adC (x : KN) : List Value := [.int .i64 x.pub, .int .u64 (x.ver : Nat), x.h]
theorem adC_len (x : KN) : (adC x).length = 3 := rfl
/-- A list of ads: what they say (their links are none of it). -/
def AdsR (w : World) (v : Value) (us : List KN) : Prop := Row w 3 v us.length (us.flatMap adC) ∧ ∀ x ∈ us, PredR w x.h x.p
theorem AdsR.ext {w w' : World} {v : Value} {us : List KN} (h : AdsR w v us) (hx : Ext w w') : AdsR w' v us := ⟨Row.ext h.1 hx, fun x hm => (h.2 x hm).ext hx⟩
def sayK (x : KN) : Int × Nat × List C := (x.pub, x.ver, x.p)
theorem info_adT : (Tryz.prog.info? 30).map (fun i => (i.zero, i.size, i.bytes)) = some (some (.agg #[.int .i64 0, .int .u64 0, .slice none 0 0]), 3, 40) := by kernel_rfl
theorem ad_row (w : World) (x : KN) : Row (w.alloc (.cells (adC x).toArray 30)) 3 (.slice (some ⟨w.heap.size, 0, none⟩) 1 1) 1 (adC x) :=
  Row.of_own (World.ownsRow_lit (base := w.heap.size) (e := 30) (size := 3) w (adC x).toArray 1 (Nat.le_refl _) (by decide) rfl)

set_option maxRecDepth 100000 in
set_option maxHeartbeats 8000000 in
theorem list_any (w : World) (b bm : Nat) (T : List KN) (ht : TabR w b bm T) (hok : ∀ k ∈ T, mayP k.p = true) (v : Value) (ks : List KN) (hv : Row w 1 v ks.length (ks.map pubC)) (hks : ∀ k ∈ ks, k ∈ T) (hlen : ks.length ≤ 1000000) :
    Calls Tryz.prog 29 #[.pointer (some ⟨b, 0, none⟩), v] w fun e w' => ∃ v' us, e = .returned v' ∧ AdsR w' v' us ∧ us.map sayK = ks.map sayK ∧ Ext w w' := by
  obtain ⟨a, cap, rfl, hc, hcm⟩ := Row.shape hv
  have tb := cell_of_row _ _ 0 _ _ _ ht.box
  have HT := Lib.hid ht
  have HV := Lib.hid hv
  have HOK := Lib.hid hok
  have HKS := Lib.hid hks
  have HPB := Lib.hid ht.pubs
  obtain ⟨n, hn⟩ : ∃ n, n = ks.length := ⟨_, rfl⟩
  have HN := Lib.hid hn
  rw [← hn] at hlen hc ⊢ HV
  clear hn ht hv hok hks
  unfold maxLen at hcm
  go_enter Tryz.func29, Tryz.ntmps29
  go_wp2_with fail
  go_loopw [5, 10] (fun lv i wr => ∃ (k : Nat) (us : List KN), k ≤ n ∧ i = .int .i64 k ∧ Hid (us.map sayK = (ks.take k).map sayK) ∧ Hid (us.length = k) ∧ Hid (wr.ownsRow w.heap.size 30 3 lv us.length (us.flatMap adC)) ∧ Hid (∀ x ∈ us, PredO w.heap.size wr x.h x.p) ∧ Hid (Ext w wr)) (fun _ i _ => n - (intOf i).toNat)
  case atStart => exact ⟨0, [], Nat.zero_le _, rfl, rfl, rfl, own_none _ _ _ _, (fun _ h => (by cases h)), Ext.refl w⟩
  case round =>
    obtain ⟨k, us, hk, rfl, hus, hul, hown, hpr, hx⟩ := hrel
    by_cases hlt : k < n
    · have hI : decide ((k : Int) < (n : Int)) = true := decide_eq_true (by omega)
      have hkN : (k : Int) < (n : Int) := by omega
      have hkl : k < ks.length := by have := HN.out; omega
      obtain ⟨B, o, rfl, hcell⟩ := Row.cell (Row.ext HV.out hx.out) (j := k) (u := .int .i64 ks[k].pub) (by rw [List.getElem?_map, List.getElem?_eq_getElem hkl]; rfl) (by omega)
      have hg := getF_mem HPB.out (HKS.out _ (List.getElem_mem hkl))
      have hlk := (look_got (HT.out.map.ext hx.out) HPB.out ks[k].pub).2
      rw [(got_some hg).1] at hlk
      have hpk := (HT.out.preds _ (HKS.out _ (List.getElem_mem hkl))).ext hx.out
      have hmk := HOK.out _ (HKS.out _ (List.getElem_mem hkl))
      have tb2 := hx.out.cell tb
      have htk : (ks.take (k + 1)).map sayK = (ks.take k).map sayK ++ [sayK ks[k]] := by rw [List.take_succ_eq_append_getElem hkl, List.map_append]; rfl
      have HTK := Lib.hid htk
      generalize ks[k] = x at *
      obtain ⟨xl, xp, xv, xq, xh⟩ := x
      dsimp only at *
      obtain ⟨ax, cx, rfl, _, _⟩ := hpk.shape
      have HPK := Lib.hid hpk
      have HMK := Lib.hid hmk
      clear htk hpk hmk hg tb
      generalize hql : xq.length = ql at *
      obtain ⟨al, cl, hlv, _, _⟩ := own_shape hown.out
      rw [hlv] at hown
      rw [hlv]
      have hfd : (Instr.field 67 (.agg #[.int .i64 xl, .int .i64 xp, .int .u64 (xv : Nat), .slice ax ql cx]) 1).run Tryz.prog wr = .ok (.agg #[.int .i64 xp, .int .u64 (xv : Nat), .slice ax ql cx]) wr := by kernel_rfl
      clear hlv
      go_upto_region 6 with (first
        | (go_at_call 23; (with_reducible refine (copied_own _ xp xv _ xq HPK.out HMK.out).mono ?_); rintro e w2 ⟨h', rfl, hA, hx2⟩; obtain ⟨ah, nh, ch, rfl⟩ : ∃ a n c, h' = .slice a n c := (by obtain ⟨a, c, e, _⟩ := hA.pred.shape; exact ⟨a, _, c, e⟩); have HA := Lib.hid hA; have HX2 := Lib.hid hx2; clear hA hx2; have hrow := ad_row w2 ⟨xl, xp, xv, xq, .slice ah nh ch⟩; have hxb : Ext w2 (w2.alloc (.cells (adC ⟨xl, xp, xv, xq, .slice ah nh ch⟩).toArray 30)) := (Ext.refl w2).alloc _; have HROW := Lib.hid hrow; have HXB := Lib.hid hxb; have HOWN := Lib.hid (own_ext hown.out (HX2.out.trans hxb)); have HBASE := Lib.hid (((hx.out.trans HX2.out).trans hxb).size); clear hrow hxb)
        | (at_builtin; refine wpList_append_row 39 30 (.tmp 14) (.tmp 23) rfl w.heap.size _ 3 40 Tryz.underlying39 info_adT rfl (by decide) rfl _ us.length (us.flatMap adC) rfl HOWN.out 1 (adC ⟨xl, xp, xv, xq, .slice ah nh ch⟩) HROW.out (fun u hu => by simp only [adC, List.mem_cons, List.not_mem_nil, or_false] at hu; rcases hu with rfl | rfl | rfl <;> rfl) (by have := hul.out; omega) (by have := hul.out; unfold maxLen; omega) HBASE.out ?_; intro v' w9 hown9 hgrow; have HO9 := Lib.hid hown9; have HG9 := Lib.hid hgrow; clear hown9 hgrow))
      have hx9 := ((hx.out.trans HX2.out).trans HXB.out).grown_none HG9.out (own_base HOWN.out)
      have hkeep : ∀ {b : Nat} {h : Value} {p : List C}, PredO b (w2.alloc (.cells (adC ⟨xl, xp, xv, xq, .slice ah nh ch⟩).toArray 30)) h p → PredO b w9 h p := fun h => h.keep HOWN.out (by decide) (by decide) HG9.out
      have hlow : ∀ {b c : Nat} {W : World} {h : Value} {p : List C}, PredO b W h p → c ≤ b → PredO c W h p := fun ⟨us, e, h1, h2⟩ hb => ⟨us, e, own_low h1 hb, fun x hm => own_low (h2 x hm) hb⟩
      have hnew := hlow (hkeep (HA.out.ext HXB.out)) hx.out.size
      have HPR : Hid (∀ x ∈ us ++ [(⟨xl, xp, xv, xq, .slice ah nh ch⟩ : KN)], PredO w.heap.size w9 x.h x.p) := fun x hm => by
        rcases List.mem_append.1 hm with hm | hm
        · exact hkeep ((hpr.out x hm).ext (HX2.out.trans HXB.out))
        · rw [List.mem_singleton.1 hm]; exact hnew
      have HX9 := Lib.hid hx9
      have HO10 : Hid (w9.ownsRow w.heap.size 30 3 v' (us ++ [(⟨xl, xp, xv, xq, .slice ah nh ch⟩ : KN)]).length ((us ++ [(⟨xl, xp, xv, xq, .slice ah nh ch⟩ : KN)]).flatMap adC)) := by
        show World.ownsRow _ _ _ _ _ _ _
        rw [List.length_append, List.flatMap_append, List.flatMap_singleton]
        exact HO9.out
      have hL : Hid ((us ++ [(⟨xl, xp, xv, xq, .slice ah nh ch⟩ : KN)]).map sayK = (ks.take (k + 1)).map sayK) := by
        show _ = _
        rw [HTK.out, List.map_append, hus.out]; rfl
      clear hx9 hkeep hlow hnew hcell
      go_wp2_with fail
      go_roundw
      case rel => exact ⟨k + 1, us ++ [(⟨xl, xp, xv, xq, .slice ah nh ch⟩ : KN)], hlt, by go_num, hL, by show _ = _; rw [List.length_append, List.length_singleton, hul.out], HO10.out, HPR, HX9.out⟩
      case measure => simp [intOf]; omega
    · obtain rfl : k = n := by omega
      have hI : decide ((k : Int) < (k : Int)) = false := decide_eq_false (by omega)
      go_wp2_with fail
      go_ret
      refine ⟨_, us, rfl, ⟨Row.of_own hown.out, fun x hm => (hpr.out x hm).pred⟩, ?_, hx.out⟩
      rw [hus.out, List.take_of_length_le (by have := HN.out; omega)]
end Go.Proofs.YtabegbelkfhbcaaGreat

namespace Go.Proofs.YtabegbelkfhbcaaGreat
open Go.RowKit

set_option maxRecDepth 100000 in
set_option maxHeartbeats 2000000 in
theorem less_any (w : World) (x y : Cut) : Calls Tryz.prog 153 #[.agg #[.string (strOf x.a), .bool x.e], .agg #[.string (strOf y.a), .bool y.e]] w fun e w' => e = .returned (.bool (Cut.lt x y)) ∧ Ext w w' := by
  obtain ⟨xa, xe⟩ := x
  obtain ⟨ya, ye⟩ := y
  have hx0 : Ext w ((w.alloc (.cells #[.string (strOf xa), .bool xe] 113)).alloc (.cells #[.string (strOf ya), .bool ye] 113)) := ((Ext.refl w).alloc _).alloc _
  unfold Cut.lt
  simp only
  cases xe
  · cases ye
    · cases hb : Op.bytesLess xa ya
      · go_enter Tryz.func153, Tryz.ntmps153
        go_wp2
        go_ret
        exact ⟨rfl, hx0⟩
      · go_enter Tryz.func153, Tryz.ntmps153
        go_wp2
        go_ret
        exact ⟨rfl, hx0⟩
    · go_enter Tryz.func153, Tryz.ntmps153
      go_wp2
      go_ret
      exact ⟨rfl, hx0⟩
  · go_enter Tryz.func153, Tryz.ntmps153
    go_wp2
    go_ret
    exact ⟨rfl, hx0⟩

set_option maxRecDepth 100000 in
theorem end_any (w : World) : Calls Tryz.prog 129 #[] w fun e w' => e = .returned (.agg #[.string ⟨#[]⟩, .bool true]) ∧ Ext w w' := by
  go_enter Tryz.func129, Tryz.ntmps129
  go_wp2
  have hR := heap_alloc_new w (.cells #[.string ⟨#[]⟩, .bool true] 113)
  have r0 := cell_of_row _ _ 0 _ _ _ hR
  have r1 := cell_of_row _ _ 1 _ _ _ hR
  refine bodyPost_ret (v := .agg #[.string ⟨#[]⟩, .bool true]) (by simp [results, Tryz.results129, go_sem, r0, r1]) rfl ⟨rfl, (Ext.refl w).alloc _⟩

theorem info5t : (Tryz.prog.info? 5).map (fun i => (i.zero, i.size, i.bytes)) = some (some (.int .u8 0), 1, 1) := by kernel_rfl
theorem eight_take (n : Nat) (j : Nat) (hj : j < 8) : (eightF n).take (j + 1) = (eightF n).take j ++ [UInt8.ofNat (n / 256 ^ (7 - j) % 256)] := by
  match j, hj with
  | 0, _ => simp [eightF, eightN, Nat.div_div_eq_div_mul]
  | 1, _ => simp [eightF, eightN, Nat.div_div_eq_div_mul]
  | 2, _ => simp [eightF, eightN, Nat.div_div_eq_div_mul]
  | 3, _ => simp [eightF, eightN, Nat.div_div_eq_div_mul]
  | 4, _ => simp [eightF, eightN, Nat.div_div_eq_div_mul]
  | 5, _ => simp [eightF, eightN, Nat.div_div_eq_div_mul]
  | 6, _ => simp [eightF, eightN, Nat.div_div_eq_div_mul]
  | 7, _ => simp [eightF, eightN, Nat.div_div_eq_div_mul]
theorem own_laterB {w w' : World} {base size n : Nat} {e : TypeId} {v : Value} {xs : List Value} (h : w.ownsRow base e size v n xs) (hx : Ext w w') : w'.ownsRow base e size v n xs := by
  refine ⟨h.1, ?_⟩
  rcases h.2 with h0 | ⟨g, cap, cur, e0, hb, hg, hn, hm, hs, ht⟩
  · exact .inl h0
  · exact .inr ⟨g, cap, cur, e0, hb, by rw [hx.block g (Array.getElem?_eq_some_iff.1 hg).1]; exact hg, hn, hm, hs, ht⟩
def bs (l : List UInt8) : List Value := l.map fun c => Value.int .u8 (c.toNat : Int)
theorem bs_one (l : List UInt8) : ∀ u ∈ bs l, u.oneCell' = true := fun u hu => by
  obtain ⟨c, _, rfl⟩ := List.mem_map.1 hu; rfl
theorem eight_row (w : World) (n j : Nat) (V : Int) (hV : V = ((n / 256 ^ (7 - j) % 256 : Nat) : Int)) : Row (w.alloc (.cells #[.int .u8 V] 5)) 1 (.slice (some ⟨w.heap.size, 0, none⟩) 1 1) 1 (bs [UInt8.ofNat (n / 256 ^ (7 - j) % 256)]) := by
  have e : bs [UInt8.ofNat (n / 256 ^ (7 - j) % 256)] = [Value.int .u8 V] := by
    have : (UInt8.ofNat (n / 256 ^ (7 - j) % 256)).toNat = n / 256 ^ (7 - j) % 256 := by rw [UInt8.toNat_ofNat']; omega
    unfold bs
    rw [List.map_singleton, this, hV]
  rw [e]
  exact Row.of_own (World.ownsRow_lit (base := w.heap.size) (e := 5) (size := 1) w #[.int .u8 V] 1 (Nat.le_refl _) (by decide) rfl)
/-- Eight bytes of the call's own, j of them there. -/
def EightO (w : World) (n j : Nat) (v : Value) (w' : World) : Prop := w'.ownsRow w.heap.size 5 1 v j (bs ((eightF n).take j)) ∧ Ext w w'
theorem eight_next {w : World} {n j : Nat} (hj : j < 8) {v v' : Value} {wj w' : World} (o : Obj) (h : EightO w n j v wj) (ho : w'.ownsRow w.heap.size 5 1 v' (j + 1) (bs ((eightF n).take j) ++ bs [UInt8.ofNat (n / 256 ^ (7 - j) % 256)])) (hg : (wj.alloc o).grownBy w' v.ownBlock) : EightO w n (j + 1) v' w' := by
  refine ⟨?_, (h.2.alloc o).grown_none hg (own_base h.1)⟩
  rw [eight_take n j hj]
  unfold bs at ho ⊢
  rw [List.map_append]
  exact ho

set_option maxRecDepth 100000 in
set_option maxHeartbeats 4000000 in
theorem eight_any (w : World) (n : Nat) (hn : n < 18446744073709551616) : Calls Tryz.prog 158 #[.int .u64 n] w fun e w' => ∃ v, e = .returned v ∧ Bytes w' v (eightF n) ∧ Ext w w' := by
  have hone : ∀ j : Nat, ∀ u ∈ bs [UInt8.ofNat (n / 256 ^ (7 - j) % 256)], u.oneCell' = true := fun j => bs_one _
  have HONE := Lib.hid hone
  have H0 : Hid (EightO w n 0 (.slice none 0 0) w) := ⟨⟨rfl, .inl ⟨rfl, rfl⟩⟩, Ext.refl w⟩
  clear hone
  go_enter Tryz.func158, Tryz.ntmps158
  go_wp2_with fail
  refine wp_loop_rounds 9 ?_
  rw [rounds_succ]
  have R0 := Lib.hid (eight_row w n 0 ((n : Int) / 72057594037927936) (by omega))
  have hx := (H0.out.2.alloc (.cells #[.int .u8 ((n : Int) / 72057594037927936)] 5)).size
  have ho := Lib.hid (own_laterB H0.out.1 ((Ext.refl w).alloc (.cells #[.int .u8 ((n : Int) / 72057594037927936)] 5)))
  go_wp2_with (at_builtin; refine wpList_append_row 189 5 (.tmp 9) (.tmp 14) rfl w.heap.size _ 1 1 Tryz.underlying189 info5t rfl (by decide) rfl _ 0 (bs ((eightF n).take 0)) rfl ho.out 1 (bs [UInt8.ofNat (n / 256 ^ (7 - 0) % 256)]) R0.out (HONE.out 0) (by decide) (by decide) hx ?_; intro v1 w1 hown hg; have H1 := Lib.hid (eight_next (by decide) _ H0.out hown hg); clear hown hg)
  clear R0 hx ho H0
  rw [rounds_succ]
  have R1 := Lib.hid (eight_row w1 n 1 ((n : Int) / 281474976710656 % 256) (by omega))
  have hx := (H1.out.2.alloc (.cells #[.int .u8 ((n : Int) / 281474976710656 % 256)] 5)).size
  have ho := Lib.hid (own_laterB H1.out.1 ((Ext.refl w1).alloc (.cells #[.int .u8 ((n : Int) / 281474976710656 % 256)] 5)))
  go_wp2_with (at_builtin; refine wpList_append_row 189 5 (.tmp 9) (.tmp 14) rfl w.heap.size _ 1 1 Tryz.underlying189 info5t rfl (by decide) rfl _ 1 (bs ((eightF n).take 1)) rfl ho.out 1 (bs [UInt8.ofNat (n / 256 ^ (7 - 1) % 256)]) R1.out (HONE.out 1) (by decide) (by decide) hx ?_; intro v2 w2 hown hg; have H2 := Lib.hid (eight_next (by decide) _ H1.out hown hg); clear hown hg)
  clear R1 hx ho H1
  rw [rounds_succ]
  have R2 := Lib.hid (eight_row w2 n 2 ((n : Int) / 1099511627776 % 256) (by omega))
  have hx := (H2.out.2.alloc (.cells #[.int .u8 ((n : Int) / 1099511627776 % 256)] 5)).size
  have ho := Lib.hid (own_laterB H2.out.1 ((Ext.refl w2).alloc (.cells #[.int .u8 ((n : Int) / 1099511627776 % 256)] 5)))
  go_wp2_with (at_builtin; refine wpList_append_row 189 5 (.tmp 9) (.tmp 14) rfl w.heap.size _ 1 1 Tryz.underlying189 info5t rfl (by decide) rfl _ 2 (bs ((eightF n).take 2)) rfl ho.out 1 (bs [UInt8.ofNat (n / 256 ^ (7 - 2) % 256)]) R2.out (HONE.out 2) (by decide) (by decide) hx ?_; intro v3 w3 hown hg; have H3 := Lib.hid (eight_next (by decide) _ H2.out hown hg); clear hown hg)
  clear R2 hx ho H2
  rw [rounds_succ]
  have R3 := Lib.hid (eight_row w3 n 3 ((n : Int) / 4294967296 % 256) (by omega))
  have hx := (H3.out.2.alloc (.cells #[.int .u8 ((n : Int) / 4294967296 % 256)] 5)).size
  have ho := Lib.hid (own_laterB H3.out.1 ((Ext.refl w3).alloc (.cells #[.int .u8 ((n : Int) / 4294967296 % 256)] 5)))
  go_wp2_with (at_builtin; refine wpList_append_row 189 5 (.tmp 9) (.tmp 14) rfl w.heap.size _ 1 1 Tryz.underlying189 info5t rfl (by decide) rfl _ 3 (bs ((eightF n).take 3)) rfl ho.out 1 (bs [UInt8.ofNat (n / 256 ^ (7 - 3) % 256)]) R3.out (HONE.out 3) (by decide) (by decide) hx ?_; intro v4 w4 hown hg; have H4 := Lib.hid (eight_next (by decide) _ H3.out hown hg); clear hown hg)
  clear R3 hx ho H3
  rw [rounds_succ]
  have R4 := Lib.hid (eight_row w4 n 4 ((n : Int) / 16777216 % 256) (by omega))
  have hx := (H4.out.2.alloc (.cells #[.int .u8 ((n : Int) / 16777216 % 256)] 5)).size
  have ho := Lib.hid (own_laterB H4.out.1 ((Ext.refl w4).alloc (.cells #[.int .u8 ((n : Int) / 16777216 % 256)] 5)))
  go_wp2_with (at_builtin; refine wpList_append_row 189 5 (.tmp 9) (.tmp 14) rfl w.heap.size _ 1 1 Tryz.underlying189 info5t rfl (by decide) rfl _ 4 (bs ((eightF n).take 4)) rfl ho.out 1 (bs [UInt8.ofNat (n / 256 ^ (7 - 4) % 256)]) R4.out (HONE.out 4) (by decide) (by decide) hx ?_; intro v5 w5 hown hg; have H5 := Lib.hid (eight_next (by decide) _ H4.out hown hg); clear hown hg)
  clear R4 hx ho H4
  rw [rounds_succ]
  have R5 := Lib.hid (eight_row w5 n 5 ((n : Int) / 65536 % 256) (by omega))
  have hx := (H5.out.2.alloc (.cells #[.int .u8 ((n : Int) / 65536 % 256)] 5)).size
  have ho := Lib.hid (own_laterB H5.out.1 ((Ext.refl w5).alloc (.cells #[.int .u8 ((n : Int) / 65536 % 256)] 5)))
  go_wp2_with (at_builtin; refine wpList_append_row 189 5 (.tmp 9) (.tmp 14) rfl w.heap.size _ 1 1 Tryz.underlying189 info5t rfl (by decide) rfl _ 5 (bs ((eightF n).take 5)) rfl ho.out 1 (bs [UInt8.ofNat (n / 256 ^ (7 - 5) % 256)]) R5.out (HONE.out 5) (by decide) (by decide) hx ?_; intro v6 w6 hown hg; have H6 := Lib.hid (eight_next (by decide) _ H5.out hown hg); clear hown hg)
  clear R5 hx ho H5
  rw [rounds_succ]
  have R6 := Lib.hid (eight_row w6 n 6 ((n : Int) / 256 % 256) (by omega))
  have hx := (H6.out.2.alloc (.cells #[.int .u8 ((n : Int) / 256 % 256)] 5)).size
  have ho := Lib.hid (own_laterB H6.out.1 ((Ext.refl w6).alloc (.cells #[.int .u8 ((n : Int) / 256 % 256)] 5)))
  go_wp2_with (at_builtin; refine wpList_append_row 189 5 (.tmp 9) (.tmp 14) rfl w.heap.size _ 1 1 Tryz.underlying189 info5t rfl (by decide) rfl _ 6 (bs ((eightF n).take 6)) rfl ho.out 1 (bs [UInt8.ofNat (n / 256 ^ (7 - 6) % 256)]) R6.out (HONE.out 6) (by decide) (by decide) hx ?_; intro v7 w7 hown hg; have H7 := Lib.hid (eight_next (by decide) _ H6.out hown hg); clear hown hg)
  clear R6 hx ho H6
  rw [rounds_succ]
  have R7 := Lib.hid (eight_row w7 n 7 ((n : Int) % 256) (by omega))
  have hx := (H7.out.2.alloc (.cells #[.int .u8 ((n : Int) % 256)] 5)).size
  have ho := Lib.hid (own_laterB H7.out.1 ((Ext.refl w7).alloc (.cells #[.int .u8 ((n : Int) % 256)] 5)))
  go_wp2_with (at_builtin; refine wpList_append_row 189 5 (.tmp 9) (.tmp 14) rfl w.heap.size _ 1 1 Tryz.underlying189 info5t rfl (by decide) rfl _ 7 (bs ((eightF n).take 7)) rfl ho.out 1 (bs [UInt8.ofNat (n / 256 ^ (7 - 7) % 256)]) R7.out (HONE.out 7) (by decide) (by decide) hx ?_; intro v8 w8 hown hg; have H8 := Lib.hid (eight_next (by decide) _ H7.out hown hg); clear hown hg)
  clear R7 hx ho H7
  rw [rounds_succ]
  go_wp2_with fail
  go_ret
  refine ⟨_, rfl, ?_, H8.out.2⟩
  have h := Row.of_own H8.out.1
  have hl : (eightF n).length = 8 := eightN_len 8 n
  rw [List.take_of_length_le (by rw [hl]; exact Nat.le_refl _)] at h
  unfold Bytes
  rw [hl]
  exact h
end Go.Proofs.YtabegbelkfhbcaaGreat
