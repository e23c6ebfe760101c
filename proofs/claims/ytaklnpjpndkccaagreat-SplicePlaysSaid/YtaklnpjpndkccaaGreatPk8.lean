/- pred.Matches.
Splice: wants. (Printed by a program.)
Splice: Page.
Splice: Page, where it is asked for. -/
import Derived.Test.YtaklnpjpndkccaaGreatPk7
namespace Go.Proofs.YtaklnpjpndkccaaGreat
open Go.RowKit

theorem asks_get {l : List (List UInt8 × V)} {c : C} : asksE l c = (match getV l c.name with | (v, ok) => ok && holdsC c v) := by
  unfold asksE getV
  cases getE l c.name <;> rfl

set_option maxRecDepth 100000 in
set_option maxHeartbeats 4000000 in
theorem match56_any (w : World) (B : Nat) (key : List UInt8) (aa : Option Addr) (ca : Nat) (l : List (List UInt8 × V)) (hb : w.heap[B]? = some (.cells #[.string (strOf key), .slice aa l.length ca] 47 (0, 0))) (hl : AttrR w (.slice aa l.length ca) l)
    (c : C) (sa : Option Addr) (sc : Nat) (hs : SetR w (.slice sa c.set.length sc) c.set) :
    Calls Tryz.prog 37 #[.agg #[.string (strOf c.name), .int .i64 c.op, .int .i64 c.v.k, .int .i64 c.v.n, .string (strOf c.v.s), .bool c.v.b, .slice sa c.set.length sc], .pointer (some ⟨B, 0, none⟩)] w
      fun e w' => e = .returned (.bool (!asksE l c)) ∧ Ext w w' := by
  have hx0 : Ext w (w.alloc (.cells #[.string (strOf c.name), .int .i64 c.op, .int .i64 c.v.k, .int .i64 c.v.n, .string (strOf c.v.s), .bool c.v.b, .slice sa c.set.length sc] 94)) := (Ext.refl w).alloc _
  have hB : CBox (w.alloc (.cells #[.string (strOf c.name), .int .i64 c.op, .int .i64 c.v.k, .int .i64 c.v.n, .string (strOf c.v.s), .bool c.v.b, .slice sa c.set.length sc] 94)) w.heap.size c sa sc := ⟨heap_alloc_new _ _, hs.ext hx0⟩
  have b0 := hx0.cell (cell_of_row _ _ 0 _ _ _ hb)
  have b1 := hx0.cell (cell_of_row _ _ 1 _ _ _ hb)
  have hl0 := hl.ext hx0
  rw [asks_get]
  generalize hG : getV l c.name = G at *
  have HG := Lib.hid hG
  clear hG hb hs hl
  go_enter Tryz.func37, Tryz.ntmps37
  go_wp2_with fail
  generalize w.alloc (.cells #[.string (strOf c.name), .int .i64 c.op, .int .i64 c.v.k, .int .i64 c.v.n, .string (strOf c.v.s), .bool c.v.b, .slice sa c.set.length sc] 94) = wa at *
  refine (get_any wa key c.name _ l hl0).mono ?_
  rw [HG.out]
  obtain ⟨⟨k, n, s, b⟩, ok⟩ := G
  rintro e w2 ⟨rfl, hx2⟩
  have hx2a := hx2.alloc (.cells #[.int .i64 k, .int .i64 n, .string (strOf s), .bool b] 80)
  obtain ⟨c0, c1, c2, c3, c4, c5, c6⟩ := (hB.ext hx2a).cell
  have hs2 := (hB.ext hx2a).s
  have hxw := hx0.trans hx2a
  cases ok
  · go_wp2_with fail
    go_ret
    exact ⟨rfl, hxw⟩
  · go_wp2_with (go_at_call 39; refine (pholds_any _ c sa sc hs2 ⟨k, n, s, b⟩).mono ?_; rintro e w3 ⟨rfl, hx3⟩)
    go_ret
    exact ⟨rfl, hxw.trans hx3⟩

set_option maxRecDepth 100000 in
set_option maxHeartbeats 2000000 in
theorem matches_any (w : World) (v : Value) (p : List C) (key : List UInt8) (va : Value) (l : List (List UInt8 × V)) (hp : PredR w v p) (hl : AttrR w va l) :
    Calls Tryz.prog 17 #[v, .agg #[.string (strOf key), va]] w fun e w' => e = .returned (.bool (matchP p l)) ∧ Ext w w' := by
  obtain ⟨aa, ca, rfl, hca, hma⟩ := Row.shape hl
  obtain ⟨ap, cp, rfl, hcp, hmp⟩ := hp.shape
  have hx0 : Ext w (w.alloc (.cells #[.string (strOf key), .slice aa l.length ca] 47)) := (Ext.refl w).alloc _
  have hE : (w.alloc (.cells #[.string (strOf key), .slice aa l.length ca] 47)).heap[w.heap.size]? = some (.cells #[.string (strOf key), .slice aa l.length ca] 47 (0, 0)) := heap_alloc_new _ _
  have hl0 := hl.ext hx0
  have hp0 := hp.ext hx0
  have hcon := hasC_any _ _ p hp0 37 #[.pointer (some ⟨w.heap.size, 0, none⟩)] (fun c => !asksE l c) ent56 (fun W x sa sc hx _ hs => match56_any W w.heap.size key aa ca l (by rw [hx.block _ (Array.getElem?_eq_some_iff.1 hE).1]; exact hE) (hl0.ext hx) x sa sc hs)
  have hres : matchP p l = !p.any fun c => !asksE l c := by
    have h : ∀ q : List C, q.all (asksE l) = !q.any fun c => !asksE l c := fun q => by
      induction q with
      | nil => rfl
      | cons c q ih => rw [List.all_cons, List.any_cons, ih]; cases asksE l c <;> simp
    exact h p
  rw [hres]
  clear hres hE hl0 hp0 hl hp
  generalize (p.any fun c => !asksE l c) = r at *
  go_enter Tryz.func17, Tryz.ntmps17
  go_wp2_with (go_at_call 36; refine hcon.mono ?_; rintro e w' ⟨rfl, hx⟩)
  go_ret
  exact ⟨rfl, hx0.trans hx⟩
end Go.Proofs.YtaklnpjpndkccaaGreat

namespace Go.Proofs.YtaklnpjpndkccaaGreat
open Go.RowKit

def PD.beg (d : PD) : Nat := if 0 < d.n then d.n else d.f
def PD.num (d : PD) : Nat := max d.n d.g
def mayD (d : PD) : Bool := decide (1 ≤ d.beg) && (decide (d.beg ≤ d.num) && decide (d.num ≤ 1099511627776))
def wantsB (p : List C) (next : Nat) (d : PD) : Bool := mayD d && (decide (next ≤ d.beg) && (decide (d.n = 0) || matchP p d.av))
theorem begN_nat (n f : Nat) : begN n f = ((if 0 < n then n else f : Nat) : Int) := by
  unfold begN
  split <;> split <;> omega
theorem numN_nat (n g : Nat) : numN n g = ((max n g : Nat) : Int) := by unfold numN; omega
theorem begins_nat (w : World) (d : DM) : Calls Tryz.prog 15 #[.agg #[.int .u64 d.n, .int .u64 d.t, .string (strOf d.key), .slice d.ha d.av.length d.hc, .int .u64 d.f, .int .u64 d.g]] w fun e w' => e = .returned (.int .u64 (d.pd.beg : Nat)) ∧ Ext w w' := by
  have := begins_any w d.n d.t (strOf d.key) d.ha d.av.length d.hc d.f d.g
  rw [begN_nat] at this
  exact this
theorem number_nat (w : World) (d : DM) : Calls Tryz.prog 16 #[.agg #[.int .u64 d.n, .int .u64 d.t, .string (strOf d.key), .slice d.ha d.av.length d.hc, .int .u64 d.f, .int .u64 d.g]] w fun e w' => e = .returned (.int .u64 (d.pd.num : Nat)) ∧ Ext w w' := by
  have := dnumber_any w d.n d.t (strOf d.key) d.ha d.av.length d.hc d.f d.g
  rw [numN_nat] at this
  exact this

set_option maxRecDepth 100000 in
set_option maxHeartbeats 3000000 in
theorem wants_any (w : World) (bs : Nat) (pv : Value) (p : List C) (next : Nat) (st count : Int) (hS : SpB w bs pv next st count) (hp : PredR w pv p) (d : DM) (hat : AttrR w d.h d.av) :
    Calls Tryz.prog 34 #[.pointer (some ⟨bs, 0, none⟩), .agg #[.int .u64 d.n, .int .u64 d.t, .string (strOf d.key), .slice d.ha d.av.length d.hc, .int .u64 d.f, .int .u64 d.g]] w
      fun e w' => e = .returned (.bool (wantsB p next d.pd)) ∧ Ext w w' := by
  have CB := Lib.hid fun W => begins_nat W d
  have CN := Lib.hid fun W => number_nat W d
  have CM : Hid (∀ W, Ext w W → Calls Tryz.prog 17 #[pv, .agg #[.string (strOf d.key), .slice d.ha d.av.length d.hc]] W fun e w' => e = .returned (.bool (matchP p d.av)) ∧ Ext W w') := fun W hW => matches_any W pv p d.key _ d.av (hp.ext hW) (hat.ext hW)
  obtain ⟨pa, pc, rfl, _, _⟩ := hp.shape
  have hW : Hid (wantsB p next d.pd = (mayD d.pd && (decide (next ≤ d.pd.beg) && (decide (d.n = 0) || matchP p d.av)))) := rfl
  have hM : Hid (mayD d.pd = (decide (1 ≤ d.pd.beg) && (decide (d.pd.beg ≤ d.pd.num) && decide (d.pd.num ≤ 1099511627776)))) := rfl
  obtain ⟨E, hE⟩ : ∃ E, E = wantsB p next d.pd := ⟨_, rfl⟩
  rw [← hE]
  obtain ⟨F, hF⟩ : ∃ F, F = mayD d.pd := ⟨_, rfl⟩
  have HE : Hid (E = (F && (decide (next ≤ d.pd.beg) && (decide (d.n = 0) || matchP p d.av)))) := by show _ = _; rw [hE, hF]; exact hW.out
  have HF : Hid (F = (decide (1 ≤ d.pd.beg) && (decide (d.pd.beg ≤ d.pd.num) && decide (d.pd.num ≤ 1099511627776)))) := hF.trans hM.out
  clear hE hF hW hM
  generalize d.pd.beg = b at *
  generalize d.pd.num = m at *
  generalize hmm : matchP p d.av = M at *
  clear hmm
  obtain ⟨n, t, key, ha, hc, av, f, g⟩ := d
  dsimp only at *
  generalize strOf key = k at *
  generalize av.length = ln at *
  obtain ⟨hx, hb⟩ := boxes1 w (.cells #[.int .u64 n, .int .u64 t, .string k, .slice ha ln hc, .int .u64 f, .int .u64 g] 53)
  have HB := Lib.hid hb
  have HX := Lib.hid hx
  have HS : Hid (SpB _ bs _ next st count) := block_later hS hx
  clear hx hb hS hp hat
  go_enter Tryz.func34, Tryz.ntmps34
  go_upto_region 1 with fail
  generalize w.alloc (.cells #[.int .u64 n, .int .u64 t, .string k, .slice ha ln hc, .int .u64 f, .int .u64 g] 53) = wb at *
  go_cut [5] from 5 to 20 (fun v wx => v = .bool F ∧ Ext w wx ∧ Ext wb wx)
  case first =>
    clear HE HS CM
    by_cases h1 : 1 ≤ b
    · have i1 : decide ((1 : Int) ≤ (b : Int)) = true := decide_eq_true (by omega)
      have j1 : decide (1 ≤ b) = true := decide_eq_true h1
      by_cases h2 : b ≤ m
      · have i2 : decide ((b : Int) ≤ (m : Int)) = true := decide_eq_true (by omega)
        have j2 : decide (b ≤ m) = true := decide_eq_true h2
        by_cases h3 : m ≤ 1099511627776
        · have i3 : decide ((m : Int) ≤ 1099511627776) = true := decide_eq_true (by omega)
          have j3 : decide (m ≤ 1099511627776) = true := decide_eq_true h3
          refine wp_region_facts [Fact.eq (.agg #[.int .u64 n, .int .u64 t, .string k, .slice ha ln hc, .int .u64 f, .int .u64 g]),
              Fact.eq (.int .u64 (b : Nat)),
              Fact.eq (.bool true),
              Fact.eq (.bool true),
              Fact.eq (.agg #[.int .u64 n, .int .u64 t, .string k, .slice ha ln hc, .int .u64 f, .int .u64 g]),
              Fact.eq (.int .u64 (m : Nat)),
              Fact.eq (.agg #[.int .u64 n, .int .u64 t, .string k, .slice ha ln hc, .int .u64 f, .int .u64 g]),
              Fact.eq (.int .u64 (b : Nat)),
              Fact.eq (.bool true),
              Fact.eq (.bool true),
              Fact.eq (.bool true),
              Fact.eq (.agg #[.int .u64 n, .int .u64 t, .string k, .slice ha ln hc, .int .u64 f, .int .u64 g]),
              Fact.eq (.int .u64 (m : Nat)),
              Fact.eq (.bool true),
              Fact.eq (.bool true),
              Fact.eq (.bool true)]
            [[], [(0, 6)], [(1, 7)], [(2, 8)], [(3, 9)], [(4, 10), (3, 9)], [(3, 9)], [(6, 12), (3, 9)], [(5, 11), (7, 13), (3, 9)], [(3, 9), (8, 14)], [(9, 15)], [(10, 16)], [(11, 17), (10, 16)], [(12, 18), (10, 16)], [(10, 16), (13, 19)], [(14, 20)]]
            [(0, 6), (1, 7), (2, 8), (3, 9), (4, 10), (5, 11), (6, 12), (7, 13), (8, 14), (9, 15), (10, 16), (11, 17), (12, 18), (13, 19), (14, 20), (15, 5)] (by kernel_rfl) (by kernel_rfl) ?_ ?_
          · refine ⟨?_, ?_, ?_, ?_, ?_, ?_, ?_, ?_, ?_, ?_, ?_, ?_, ?_, ?_, ?_, ?_, trivial⟩
            · intro w1 hx1; change wpList _ _ _ _ _ _; have m0 := cell_of_row _ _ 0 _ _ _ (block_later HB.out hx1); have m1 := cell_of_row _ _ 1 _ _ _ (block_later HB.out hx1); have m2 := cell_of_row _ _ 2 _ _ _ (block_later HB.out hx1); have m3 := cell_of_row _ _ 3 _ _ _ (block_later HB.out hx1); have m4 := cell_of_row _ _ 4 _ _ _ (block_later HB.out hx1); have m5 := cell_of_row _ _ 5 _ _ _ (block_later HB.out hx1); go_wp2_with fail; exact ⟨rfl, Ext.refl _, rfl, rfl⟩
            · intro w1 hx1; rintro _ rfl; change wpList _ _ _ _ _ _; go_wp2_with fail; refine (CB.out _).mono ?_; rintro e w2 ⟨rfl, hx2⟩; go_wp2_with fail; exact ⟨rfl, hx2, rfl, rfl⟩
            · intro w1 hx1; rintro _ rfl; change wpList _ _ _ _ _ _; go_wp2_with fail; exact ⟨rfl, Ext.refl _, rfl, rfl⟩
            · intro w1 hx1; rintro _ rfl; change wpList _ _ _ _ _ _; exact ob_move rfl rfl rfl rfl rfl
            · intro w1 hx1; rintro _ rfl; change wpList _ _ _ _ _ _; have m0 := cell_of_row _ _ 0 _ _ _ (block_later HB.out hx1); have m1 := cell_of_row _ _ 1 _ _ _ (block_later HB.out hx1); have m2 := cell_of_row _ _ 2 _ _ _ (block_later HB.out hx1); have m3 := cell_of_row _ _ 3 _ _ _ (block_later HB.out hx1); have m4 := cell_of_row _ _ 4 _ _ _ (block_later HB.out hx1); have m5 := cell_of_row _ _ 5 _ _ _ (block_later HB.out hx1); go_wp2_with fail; exact ⟨rfl, Ext.refl _, rfl, rfl⟩
            · intro w1 hx1; rintro _ rfl; rintro _ rfl; change wpList _ _ _ _ _ _; go_wp2_with fail; refine (CN.out _).mono ?_; rintro e w2 ⟨rfl, hx2⟩; go_wp2_with fail; exact ⟨rfl, hx2, rfl, rfl⟩
            · intro w1 hx1; rintro _ rfl; change wpList _ _ _ _ _ _; have m0 := cell_of_row _ _ 0 _ _ _ (block_later HB.out hx1); have m1 := cell_of_row _ _ 1 _ _ _ (block_later HB.out hx1); have m2 := cell_of_row _ _ 2 _ _ _ (block_later HB.out hx1); have m3 := cell_of_row _ _ 3 _ _ _ (block_later HB.out hx1); have m4 := cell_of_row _ _ 4 _ _ _ (block_later HB.out hx1); have m5 := cell_of_row _ _ 5 _ _ _ (block_later HB.out hx1); go_wp2_with fail; exact ⟨rfl, Ext.refl _, rfl, rfl⟩
            · intro w1 hx1; rintro _ rfl; rintro _ rfl; change wpList _ _ _ _ _ _; go_wp2_with fail; refine (CB.out _).mono ?_; rintro e w2 ⟨rfl, hx2⟩; go_wp2_with fail; exact ⟨rfl, hx2, rfl, rfl⟩
            · intro w1 hx1; rintro _ rfl; rintro _ rfl; rintro _ rfl; change wpList _ _ _ _ _ _; go_wp2_with fail; exact ⟨rfl, Ext.refl _, rfl, rfl⟩
            · intro w1 hx1; rintro _ rfl; rintro _ rfl; change wpList _ _ _ _ _ _; exact ob_pick rfl rfl rfl rfl rfl rfl
            · intro w1 hx1; rintro _ rfl; change wpList _ _ _ _ _ _; exact ob_move rfl rfl rfl rfl rfl
            · intro w1 hx1; rintro _ rfl; change wpList _ _ _ _ _ _; have m0 := cell_of_row _ _ 0 _ _ _ (block_later HB.out hx1); have m1 := cell_of_row _ _ 1 _ _ _ (block_later HB.out hx1); have m2 := cell_of_row _ _ 2 _ _ _ (block_later HB.out hx1); have m3 := cell_of_row _ _ 3 _ _ _ (block_later HB.out hx1); have m4 := cell_of_row _ _ 4 _ _ _ (block_later HB.out hx1); have m5 := cell_of_row _ _ 5 _ _ _ (block_later HB.out hx1); go_wp2_with fail; exact ⟨rfl, Ext.refl _, rfl, rfl⟩
            · intro w1 hx1; rintro _ rfl; rintro _ rfl; change wpList _ _ _ _ _ _; go_wp2_with fail; refine (CN.out _).mono ?_; rintro e w2 ⟨rfl, hx2⟩; go_wp2_with fail; exact ⟨rfl, hx2, rfl, rfl⟩
            · intro w1 hx1; rintro _ rfl; rintro _ rfl; change wpList _ _ _ _ _ _; go_wp2_with fail; exact ⟨rfl, Ext.refl _, rfl, rfl⟩
            · intro w1 hx1; rintro _ rfl; rintro _ rfl; change wpList _ _ _ _ _ _; exact ob_pick rfl rfl rfl rfl rfl rfl
            · intro w1 hx1; rintro _ rfl; change wpList _ _ _ _ _ _; exact ob_assign rfl rfl rfl rfl rfl
          · intro w1 hx1; rintro _ rfl; rintro _ rfl; rintro _ rfl; rintro _ rfl; rintro _ rfl; rintro _ rfl; rintro _ rfl; rintro _ rfl; rintro _ rfl; rintro _ rfl; rintro _ rfl; rintro _ rfl; rintro _ rfl; rintro _ rfl; rintro _ rfl; rintro _ rfl; refine depsThen_nil ?_; dsimp only; simp only [Act.put, List.setIfInBounds_toArray, List.set_cons_zero, List.set_cons_succ]
            go_wp2_with fail
            go_meet
            exact ⟨by rw [HF.out]; simp [h1, h2, h3], HX.out.trans hx1, hx1⟩
        · have i3 : decide ((m : Int) ≤ 1099511627776) = false := decide_eq_false (by omega)
          have j3 : decide (m ≤ 1099511627776) = false := decide_eq_false h3
          refine wp_region_facts [Fact.eq (.agg #[.int .u64 n, .int .u64 t, .string k, .slice ha ln hc, .int .u64 f, .int .u64 g]),
              Fact.eq (.int .u64 (b : Nat)),
              Fact.eq (.bool true),
              Fact.eq (.bool true),
              Fact.eq (.agg #[.int .u64 n, .int .u64 t, .string k, .slice ha ln hc, .int .u64 f, .int .u64 g]),
              Fact.eq (.int .u64 (m : Nat)),
              Fact.eq (.agg #[.int .u64 n, .int .u64 t, .string k, .slice ha ln hc, .int .u64 f, .int .u64 g]),
              Fact.eq (.int .u64 (b : Nat)),
              Fact.eq (.bool true),
              Fact.eq (.bool true),
              Fact.eq (.bool true),
              Fact.eq (.agg #[.int .u64 n, .int .u64 t, .string k, .slice ha ln hc, .int .u64 f, .int .u64 g]),
              Fact.eq (.int .u64 (m : Nat)),
              Fact.eq (.bool false),
              Fact.eq (.bool false),
              Fact.eq (.bool false)]
            [[], [(0, 6)], [(1, 7)], [(2, 8)], [(3, 9)], [(4, 10), (3, 9)], [(3, 9)], [(6, 12), (3, 9)], [(5, 11), (7, 13), (3, 9)], [(3, 9), (8, 14)], [(9, 15)], [(10, 16)], [(11, 17), (10, 16)], [(12, 18), (10, 16)], [(10, 16), (13, 19)], [(14, 20)]]
            [(0, 6), (1, 7), (2, 8), (3, 9), (4, 10), (5, 11), (6, 12), (7, 13), (8, 14), (9, 15), (10, 16), (11, 17), (12, 18), (13, 19), (14, 20), (15, 5)] (by kernel_rfl) (by kernel_rfl) ?_ ?_
          · refine ⟨?_, ?_, ?_, ?_, ?_, ?_, ?_, ?_, ?_, ?_, ?_, ?_, ?_, ?_, ?_, ?_, trivial⟩
            · intro w1 hx1; change wpList _ _ _ _ _ _; have m0 := cell_of_row _ _ 0 _ _ _ (block_later HB.out hx1); have m1 := cell_of_row _ _ 1 _ _ _ (block_later HB.out hx1); have m2 := cell_of_row _ _ 2 _ _ _ (block_later HB.out hx1); have m3 := cell_of_row _ _ 3 _ _ _ (block_later HB.out hx1); have m4 := cell_of_row _ _ 4 _ _ _ (block_later HB.out hx1); have m5 := cell_of_row _ _ 5 _ _ _ (block_later HB.out hx1); go_wp2_with fail; exact ⟨rfl, Ext.refl _, rfl, rfl⟩
            · intro w1 hx1; rintro _ rfl; change wpList _ _ _ _ _ _; go_wp2_with fail; refine (CB.out _).mono ?_; rintro e w2 ⟨rfl, hx2⟩; go_wp2_with fail; exact ⟨rfl, hx2, rfl, rfl⟩
            · intro w1 hx1; rintro _ rfl; change wpList _ _ _ _ _ _; go_wp2_with fail; exact ⟨rfl, Ext.refl _, rfl, rfl⟩
            · intro w1 hx1; rintro _ rfl; change wpList _ _ _ _ _ _; exact ob_move rfl rfl rfl rfl rfl
            · intro w1 hx1; rintro _ rfl; change wpList _ _ _ _ _ _; have m0 := cell_of_row _ _ 0 _ _ _ (block_later HB.out hx1); have m1 := cell_of_row _ _ 1 _ _ _ (block_later HB.out hx1); have m2 := cell_of_row _ _ 2 _ _ _ (block_later HB.out hx1); have m3 := cell_of_row _ _ 3 _ _ _ (block_later HB.out hx1); have m4 := cell_of_row _ _ 4 _ _ _ (block_later HB.out hx1); have m5 := cell_of_row _ _ 5 _ _ _ (block_later HB.out hx1); go_wp2_with fail; exact ⟨rfl, Ext.refl _, rfl, rfl⟩
            · intro w1 hx1; rintro _ rfl; rintro _ rfl; change wpList _ _ _ _ _ _; go_wp2_with fail; refine (CN.out _).mono ?_; rintro e w2 ⟨rfl, hx2⟩; go_wp2_with fail; exact ⟨rfl, hx2, rfl, rfl⟩
            · intro w1 hx1; rintro _ rfl; change wpList _ _ _ _ _ _; have m0 := cell_of_row _ _ 0 _ _ _ (block_later HB.out hx1); have m1 := cell_of_row _ _ 1 _ _ _ (block_later HB.out hx1); have m2 := cell_of_row _ _ 2 _ _ _ (block_later HB.out hx1); have m3 := cell_of_row _ _ 3 _ _ _ (block_later HB.out hx1); have m4 := cell_of_row _ _ 4 _ _ _ (block_later HB.out hx1); have m5 := cell_of_row _ _ 5 _ _ _ (block_later HB.out hx1); go_wp2_with fail; exact ⟨rfl, Ext.refl _, rfl, rfl⟩
            · intro w1 hx1; rintro _ rfl; rintro _ rfl; change wpList _ _ _ _ _ _; go_wp2_with fail; refine (CB.out _).mono ?_; rintro e w2 ⟨rfl, hx2⟩; go_wp2_with fail; exact ⟨rfl, hx2, rfl, rfl⟩
            · intro w1 hx1; rintro _ rfl; rintro _ rfl; rintro _ rfl; change wpList _ _ _ _ _ _; go_wp2_with fail; exact ⟨rfl, Ext.refl _, rfl, rfl⟩
            · intro w1 hx1; rintro _ rfl; rintro _ rfl; change wpList _ _ _ _ _ _; exact ob_pick rfl rfl rfl rfl rfl rfl
            · intro w1 hx1; rintro _ rfl; change wpList _ _ _ _ _ _; exact ob_move rfl rfl rfl rfl rfl
            · intro w1 hx1; rintro _ rfl; change wpList _ _ _ _ _ _; have m0 := cell_of_row _ _ 0 _ _ _ (block_later HB.out hx1); have m1 := cell_of_row _ _ 1 _ _ _ (block_later HB.out hx1); have m2 := cell_of_row _ _ 2 _ _ _ (block_later HB.out hx1); have m3 := cell_of_row _ _ 3 _ _ _ (block_later HB.out hx1); have m4 := cell_of_row _ _ 4 _ _ _ (block_later HB.out hx1); have m5 := cell_of_row _ _ 5 _ _ _ (block_later HB.out hx1); go_wp2_with fail; exact ⟨rfl, Ext.refl _, rfl, rfl⟩
            · intro w1 hx1; rintro _ rfl; rintro _ rfl; change wpList _ _ _ _ _ _; go_wp2_with fail; refine (CN.out _).mono ?_; rintro e w2 ⟨rfl, hx2⟩; go_wp2_with fail; exact ⟨rfl, hx2, rfl, rfl⟩
            · intro w1 hx1; rintro _ rfl; rintro _ rfl; change wpList _ _ _ _ _ _; go_wp2_with fail; exact ⟨rfl, Ext.refl _, rfl, rfl⟩
            · intro w1 hx1; rintro _ rfl; rintro _ rfl; change wpList _ _ _ _ _ _; exact ob_pick rfl rfl rfl rfl rfl rfl
            · intro w1 hx1; rintro _ rfl; change wpList _ _ _ _ _ _; exact ob_assign rfl rfl rfl rfl rfl
          · intro w1 hx1; rintro _ rfl; rintro _ rfl; rintro _ rfl; rintro _ rfl; rintro _ rfl; rintro _ rfl; rintro _ rfl; rintro _ rfl; rintro _ rfl; rintro _ rfl; rintro _ rfl; rintro _ rfl; rintro _ rfl; rintro _ rfl; rintro _ rfl; rintro _ rfl; refine depsThen_nil ?_; dsimp only; simp only [Act.put, List.setIfInBounds_toArray, List.set_cons_zero, List.set_cons_succ]
            go_wp2_with fail
            go_meet
            exact ⟨by rw [HF.out]; simp [h3], HX.out.trans hx1, hx1⟩
      · have i2 : decide ((b : Int) ≤ (m : Int)) = false := decide_eq_false (by omega)
        have j2 : decide (b ≤ m) = false := decide_eq_false h2
        refine wp_region_facts [Fact.eq (.agg #[.int .u64 n, .int .u64 t, .string k, .slice ha ln hc, .int .u64 f, .int .u64 g]),
            Fact.eq (.int .u64 (b : Nat)),
            Fact.eq (.bool true),
            Fact.eq (.bool true),
            Fact.eq (.agg #[.int .u64 n, .int .u64 t, .string k, .slice ha ln hc, .int .u64 f, .int .u64 g]),
            Fact.eq (.int .u64 (m : Nat)),
            Fact.eq (.agg #[.int .u64 n, .int .u64 t, .string k, .slice ha ln hc, .int .u64 f, .int .u64 g]),
            Fact.eq (.int .u64 (b : Nat)),
            Fact.eq (.bool false),
            Fact.eq (.bool false),
            Fact.eq (.bool false),
            Fact.eq undef,
            Fact.eq undef,
            Fact.eq undef,
            Fact.eq (.bool false),
            Fact.eq (.bool false)]
          [[], [(0, 6)], [(1, 7)], [(2, 8)], [(3, 9)], [(4, 10), (3, 9)], [(3, 9)], [(6, 12), (3, 9)], [(5, 11), (7, 13), (3, 9)], [(3, 9), (8, 14)], [(9, 15)], [(10, 16)], [(11, 17), (10, 16)], [(12, 18), (10, 16)], [(10, 16), (13, 19)], [(14, 20)]]
          [(0, 6), (1, 7), (2, 8), (3, 9), (4, 10), (5, 11), (6, 12), (7, 13), (8, 14), (9, 15), (10, 16), (11, 17), (12, 18), (13, 19), (14, 20), (15, 5)] (by kernel_rfl) (by kernel_rfl) ?_ ?_
        · refine ⟨?_, ?_, ?_, ?_, ?_, ?_, ?_, ?_, ?_, ?_, ?_, ?_, ?_, ?_, ?_, ?_, trivial⟩
          · intro w1 hx1; change wpList _ _ _ _ _ _; have m0 := cell_of_row _ _ 0 _ _ _ (block_later HB.out hx1); have m1 := cell_of_row _ _ 1 _ _ _ (block_later HB.out hx1); have m2 := cell_of_row _ _ 2 _ _ _ (block_later HB.out hx1); have m3 := cell_of_row _ _ 3 _ _ _ (block_later HB.out hx1); have m4 := cell_of_row _ _ 4 _ _ _ (block_later HB.out hx1); have m5 := cell_of_row _ _ 5 _ _ _ (block_later HB.out hx1); go_wp2_with fail; exact ⟨rfl, Ext.refl _, rfl, rfl⟩
          · intro w1 hx1; rintro _ rfl; change wpList _ _ _ _ _ _; go_wp2_with fail; refine (CB.out _).mono ?_; rintro e w2 ⟨rfl, hx2⟩; go_wp2_with fail; exact ⟨rfl, hx2, rfl, rfl⟩
          · intro w1 hx1; rintro _ rfl; change wpList _ _ _ _ _ _; go_wp2_with fail; exact ⟨rfl, Ext.refl _, rfl, rfl⟩
          · intro w1 hx1; rintro _ rfl; change wpList _ _ _ _ _ _; exact ob_move rfl rfl rfl rfl rfl
          · intro w1 hx1; rintro _ rfl; change wpList _ _ _ _ _ _; have m0 := cell_of_row _ _ 0 _ _ _ (block_later HB.out hx1); have m1 := cell_of_row _ _ 1 _ _ _ (block_later HB.out hx1); have m2 := cell_of_row _ _ 2 _ _ _ (block_later HB.out hx1); have m3 := cell_of_row _ _ 3 _ _ _ (block_later HB.out hx1); have m4 := cell_of_row _ _ 4 _ _ _ (block_later HB.out hx1); have m5 := cell_of_row _ _ 5 _ _ _ (block_later HB.out hx1); go_wp2_with fail; exact ⟨rfl, Ext.refl _, rfl, rfl⟩
          · intro w1 hx1; rintro _ rfl; rintro _ rfl; change wpList _ _ _ _ _ _; go_wp2_with fail; refine (CN.out _).mono ?_; rintro e w2 ⟨rfl, hx2⟩; go_wp2_with fail; exact ⟨rfl, hx2, rfl, rfl⟩
          · intro w1 hx1; rintro _ rfl; change wpList _ _ _ _ _ _; have m0 := cell_of_row _ _ 0 _ _ _ (block_later HB.out hx1); have m1 := cell_of_row _ _ 1 _ _ _ (block_later HB.out hx1); have m2 := cell_of_row _ _ 2 _ _ _ (block_later HB.out hx1); have m3 := cell_of_row _ _ 3 _ _ _ (block_later HB.out hx1); have m4 := cell_of_row _ _ 4 _ _ _ (block_later HB.out hx1); have m5 := cell_of_row _ _ 5 _ _ _ (block_later HB.out hx1); go_wp2_with fail; exact ⟨rfl, Ext.refl _, rfl, rfl⟩
          · intro w1 hx1; rintro _ rfl; rintro _ rfl; change wpList _ _ _ _ _ _; go_wp2_with fail; refine (CB.out _).mono ?_; rintro e w2 ⟨rfl, hx2⟩; go_wp2_with fail; exact ⟨rfl, hx2, rfl, rfl⟩
          · intro w1 hx1; rintro _ rfl; rintro _ rfl; rintro _ rfl; change wpList _ _ _ _ _ _; go_wp2_with fail; exact ⟨rfl, Ext.refl _, rfl, rfl⟩
          · intro w1 hx1; rintro _ rfl; rintro _ rfl; change wpList _ _ _ _ _ _; exact ob_pick rfl rfl rfl rfl rfl rfl
          · intro w1 hx1; rintro _ rfl; change wpList _ _ _ _ _ _; exact ob_move rfl rfl rfl rfl rfl
          · intro w1 hx1; rintro _ rfl; change wpList _ _ _ _ _ _; exact ob_skip rfl rfl rfl rfl
          · intro w1 hx1; rintro _ rfl; rintro _ rfl; change wpList _ _ _ _ _ _; exact ob_skip rfl rfl rfl rfl
          · intro w1 hx1; rintro _ rfl; rintro _ rfl; change wpList _ _ _ _ _ _; exact ob_skip rfl rfl rfl rfl
          · intro w1 hx1; rintro _ rfl; rintro _ rfl; change wpList _ _ _ _ _ _; exact ob_pick rfl rfl rfl rfl rfl rfl
          · intro w1 hx1; rintro _ rfl; change wpList _ _ _ _ _ _; exact ob_assign rfl rfl rfl rfl rfl
        · intro w1 hx1; rintro _ rfl; rintro _ rfl; rintro _ rfl; rintro _ rfl; rintro _ rfl; rintro _ rfl; rintro _ rfl; rintro _ rfl; rintro _ rfl; rintro _ rfl; rintro _ rfl; rintro _ rfl; rintro _ rfl; rintro _ rfl; rintro _ rfl; rintro _ rfl; refine depsThen_nil ?_; dsimp only; simp only [Act.put, List.setIfInBounds_toArray, List.set_cons_zero, List.set_cons_succ]
          go_wp2_with fail
          go_meet
          exact ⟨by rw [HF.out]; simp [h2], HX.out.trans hx1, hx1⟩
    · have i1 : decide ((1 : Int) ≤ (b : Int)) = false := decide_eq_false (by omega)
      have j1 : decide (1 ≤ b) = false := decide_eq_false h1
      refine wp_region_facts [Fact.eq (.agg #[.int .u64 n, .int .u64 t, .string k, .slice ha ln hc, .int .u64 f, .int .u64 g]),
          Fact.eq (.int .u64 (b : Nat)),
          Fact.eq (.bool false),
          Fact.eq (.bool false),
          Fact.eq undef,
          Fact.eq undef,
          Fact.eq undef,
          Fact.eq undef,
          Fact.eq undef,
          Fact.eq (.bool false),
          Fact.eq (.bool false),
          Fact.eq undef,
          Fact.eq undef,
          Fact.eq undef,
          Fact.eq (.bool false),
          Fact.eq (.bool false)]
        [[], [(0, 6)], [(1, 7)], [(2, 8)], [(3, 9)], [(4, 10), (3, 9)], [(3, 9)], [(6, 12), (3, 9)], [(5, 11), (7, 13), (3, 9)], [(3, 9), (8, 14)], [(9, 15)], [(10, 16)], [(11, 17), (10, 16)], [(12, 18), (10, 16)], [(10, 16), (13, 19)], [(14, 20)]]
        [(0, 6), (1, 7), (2, 8), (3, 9), (4, 10), (5, 11), (6, 12), (7, 13), (8, 14), (9, 15), (10, 16), (11, 17), (12, 18), (13, 19), (14, 20), (15, 5)] (by kernel_rfl) (by kernel_rfl) ?_ ?_
      · refine ⟨?_, ?_, ?_, ?_, ?_, ?_, ?_, ?_, ?_, ?_, ?_, ?_, ?_, ?_, ?_, ?_, trivial⟩
        · intro w1 hx1; change wpList _ _ _ _ _ _; have m0 := cell_of_row _ _ 0 _ _ _ (block_later HB.out hx1); have m1 := cell_of_row _ _ 1 _ _ _ (block_later HB.out hx1); have m2 := cell_of_row _ _ 2 _ _ _ (block_later HB.out hx1); have m3 := cell_of_row _ _ 3 _ _ _ (block_later HB.out hx1); have m4 := cell_of_row _ _ 4 _ _ _ (block_later HB.out hx1); have m5 := cell_of_row _ _ 5 _ _ _ (block_later HB.out hx1); go_wp2_with fail; exact ⟨rfl, Ext.refl _, rfl, rfl⟩
        · intro w1 hx1; rintro _ rfl; change wpList _ _ _ _ _ _; go_wp2_with fail; refine (CB.out _).mono ?_; rintro e w2 ⟨rfl, hx2⟩; go_wp2_with fail; exact ⟨rfl, hx2, rfl, rfl⟩
        · intro w1 hx1; rintro _ rfl; change wpList _ _ _ _ _ _; go_wp2_with fail; exact ⟨rfl, Ext.refl _, rfl, rfl⟩
        · intro w1 hx1; rintro _ rfl; change wpList _ _ _ _ _ _; exact ob_move rfl rfl rfl rfl rfl
        · intro w1 hx1; rintro _ rfl; change wpList _ _ _ _ _ _; exact ob_skip rfl rfl rfl rfl
        · intro w1 hx1; rintro _ rfl; rintro _ rfl; change wpList _ _ _ _ _ _; exact ob_skip rfl rfl rfl rfl
        · intro w1 hx1; rintro _ rfl; change wpList _ _ _ _ _ _; exact ob_skip rfl rfl rfl rfl
        · intro w1 hx1; rintro _ rfl; rintro _ rfl; change wpList _ _ _ _ _ _; exact ob_skip rfl rfl rfl rfl
        · intro w1 hx1; rintro _ rfl; rintro _ rfl; rintro _ rfl; change wpList _ _ _ _ _ _; exact ob_skip rfl rfl rfl rfl
        · intro w1 hx1; rintro _ rfl; rintro _ rfl; change wpList _ _ _ _ _ _; exact ob_pick rfl rfl rfl rfl rfl rfl
        · intro w1 hx1; rintro _ rfl; change wpList _ _ _ _ _ _; exact ob_move rfl rfl rfl rfl rfl
        · intro w1 hx1; rintro _ rfl; change wpList _ _ _ _ _ _; exact ob_skip rfl rfl rfl rfl
        · intro w1 hx1; rintro _ rfl; rintro _ rfl; change wpList _ _ _ _ _ _; exact ob_skip rfl rfl rfl rfl
        · intro w1 hx1; rintro _ rfl; rintro _ rfl; change wpList _ _ _ _ _ _; exact ob_skip rfl rfl rfl rfl
        · intro w1 hx1; rintro _ rfl; rintro _ rfl; change wpList _ _ _ _ _ _; exact ob_pick rfl rfl rfl rfl rfl rfl
        · intro w1 hx1; rintro _ rfl; change wpList _ _ _ _ _ _; exact ob_assign rfl rfl rfl rfl rfl
      · intro w1 hx1; rintro _ rfl; rintro _ rfl; rintro _ rfl; rintro _ rfl; rintro _ rfl; rintro _ rfl; rintro _ rfl; rintro _ rfl; rintro _ rfl; rintro _ rfl; rintro _ rfl; rintro _ rfl; rintro _ rfl; rintro _ rfl; rintro _ rfl; rintro _ rfl; refine depsThen_nil ?_; dsimp only; simp only [Act.put, List.setIfInBounds_toArray, List.set_cons_zero, List.set_cons_succ]
        go_wp2_with fail
        go_meet
        exact ⟨by rw [HF.out]; simp [h1], HX.out.trans hx1, hx1⟩
  case rest =>
    obtain ⟨rfl, hxw, hxb⟩ := hcut
    have HW := Lib.hid hxw
    have HS2 : Hid (SpB wc bs _ next st count) := block_later HS.out hxb
    have HB2 := Lib.hid (block_later HB.out hxb)
    clear hxw hxb HB HS HX HF CN
    go_upto_region 2 with fail
    cases F with
    | false =>
      refine wp_region_facts [Fact.eq (.bool false),
          Fact.eq (.bool false),
          Fact.eq undef,
          Fact.eq undef,
          Fact.eq undef,
          Fact.eq undef,
          Fact.eq undef,
          Fact.eq undef,
          Fact.eq undef,
          Fact.eq (.bool false),
          Fact.eq (.bool false),
          Fact.eq undef,
          Fact.eq undef,
          Fact.eq undef,
          Fact.eq undef,
          Fact.eq undef,
          Fact.eq undef,
          Fact.eq undef,
          Fact.eq undef,
          Fact.eq undef,
          Fact.eq undef,
          Fact.eq undef,
          Fact.eq undef,
          Fact.eq undef,
          Fact.eq undef,
          Fact.eq (.bool false),
          Fact.eq (.bool false)]
        [[], [(0, 21)], [(1, 22)], [(2, 23), (1, 22)], [(1, 22)], [(4, 25), (1, 22)], [(5, 26), (1, 22)], [(6, 27), (1, 22)], [(3, 24), (7, 28), (1, 22)], [(1, 22), (8, 29)], [(9, 30)], [(10, 31)], [(11, 32), (10, 31)], [(12, 33), (10, 31)], [(13, 34), (10, 31)], [(14, 35), (10, 31)], [(15, 36)], [(16, 37), (15, 36)], [(17, 38), (15, 36)], [(18, 39), (15, 36)], [(15, 36)], [(20, 41), (15, 36)], [(21, 42), (15, 36)], [(19, 40), (22, 43), (15, 36)], [(15, 36), (23, 44), (10, 31)], [(10, 31), (24, 45)], [(25, 46)]]
        [(0, 21), (1, 22), (2, 23), (3, 24), (4, 25), (5, 26), (6, 27), (7, 28), (8, 29), (9, 30), (10, 31), (11, 32), (12, 33), (13, 34), (14, 35), (15, 36), (16, 37), (17, 38), (18, 39), (19, 40), (20, 41), (21, 42), (22, 43), (23, 44), (24, 45), (25, 46), (26, 4)] (by kernel_rfl) (by kernel_rfl) ?_ ?_
      · refine ⟨?_, ?_, ?_, ?_, ?_, ?_, ?_, ?_, ?_, ?_, ?_, ?_, ?_, ?_, ?_, ?_, ?_, ?_, ?_, ?_, ?_, ?_, ?_, ?_, ?_, ?_, ?_, trivial⟩
        · intro w1 hx1; change wpList _ _ _ _ _ _; exact ob_move rfl rfl rfl rfl rfl
        · intro w1 hx1; rintro _ rfl; change wpList _ _ _ _ _ _; exact ob_move rfl rfl rfl rfl rfl
        · intro w1 hx1; rintro _ rfl; change wpList _ _ _ _ _ _; exact ob_skip rfl rfl rfl rfl
        · intro w1 hx1; rintro _ rfl; rintro _ rfl; change wpList _ _ _ _ _ _; exact ob_skip rfl rfl rfl rfl
        · intro w1 hx1; rintro _ rfl; change wpList _ _ _ _ _ _; exact ob_skip rfl rfl rfl rfl
        · intro w1 hx1; rintro _ rfl; rintro _ rfl; change wpList _ _ _ _ _ _; exact ob_skip rfl rfl rfl rfl
        · intro w1 hx1; rintro _ rfl; rintro _ rfl; change wpList _ _ _ _ _ _; exact ob_skip rfl rfl rfl rfl
        · intro w1 hx1; rintro _ rfl; rintro _ rfl; change wpList _ _ _ _ _ _; exact ob_skip rfl rfl rfl rfl
        · intro w1 hx1; rintro _ rfl; rintro _ rfl; rintro _ rfl; change wpList _ _ _ _ _ _; exact ob_skip rfl rfl rfl rfl
        · intro w1 hx1; rintro _ rfl; rintro _ rfl; change wpList _ _ _ _ _ _; exact ob_pick rfl rfl rfl rfl rfl rfl
        · intro w1 hx1; rintro _ rfl; change wpList _ _ _ _ _ _; exact ob_move rfl rfl rfl rfl rfl
        · intro w1 hx1; rintro _ rfl; change wpList _ _ _ _ _ _; exact ob_skip rfl rfl rfl rfl
        · intro w1 hx1; rintro _ rfl; rintro _ rfl; change wpList _ _ _ _ _ _; exact ob_skip rfl rfl rfl rfl
        · intro w1 hx1; rintro _ rfl; rintro _ rfl; change wpList _ _ _ _ _ _; exact ob_skip rfl rfl rfl rfl
        · intro w1 hx1; rintro _ rfl; rintro _ rfl; change wpList _ _ _ _ _ _; exact ob_skip rfl rfl rfl rfl
        · intro w1 hx1; rintro _ rfl; rintro _ rfl; change wpList _ _ _ _ _ _; exact ob_skip rfl rfl rfl rfl
        · intro w1 hx1; rintro _ rfl; change wpList _ _ _ _ _ _; exact ob_skip rfl rfl rfl rfl
        · intro w1 hx1; rintro _ rfl; rintro _ rfl; change wpList _ _ _ _ _ _; exact ob_skip rfl rfl rfl rfl
        · intro w1 hx1; rintro _ rfl; rintro _ rfl; change wpList _ _ _ _ _ _; exact ob_skip rfl rfl rfl rfl
        · intro w1 hx1; rintro _ rfl; rintro _ rfl; change wpList _ _ _ _ _ _; exact ob_skip rfl rfl rfl rfl
        · intro w1 hx1; rintro _ rfl; change wpList _ _ _ _ _ _; exact ob_skip rfl rfl rfl rfl
        · intro w1 hx1; rintro _ rfl; rintro _ rfl; change wpList _ _ _ _ _ _; exact ob_skip rfl rfl rfl rfl
        · intro w1 hx1; rintro _ rfl; rintro _ rfl; change wpList _ _ _ _ _ _; exact ob_skip rfl rfl rfl rfl
        · intro w1 hx1; rintro _ rfl; rintro _ rfl; rintro _ rfl; change wpList _ _ _ _ _ _; exact ob_skip rfl rfl rfl rfl
        · intro w1 hx1; rintro _ rfl; rintro _ rfl; rintro _ rfl; change wpList _ _ _ _ _ _; exact ob_skip rfl rfl rfl rfl
        · intro w1 hx1; rintro _ rfl; rintro _ rfl; change wpList _ _ _ _ _ _; exact ob_pick rfl rfl rfl rfl rfl rfl
        · intro w1 hx1; rintro _ rfl; change wpList _ _ _ _ _ _; exact ob_assign rfl rfl rfl rfl rfl
      · intro w1 hx1; rintro _ rfl; rintro _ rfl; rintro _ rfl; rintro _ rfl; rintro _ rfl; rintro _ rfl; rintro _ rfl; rintro _ rfl; rintro _ rfl; rintro _ rfl; rintro _ rfl; rintro _ rfl; rintro _ rfl; rintro _ rfl; rintro _ rfl; rintro _ rfl; rintro _ rfl; rintro _ rfl; rintro _ rfl; rintro _ rfl; rintro _ rfl; rintro _ rfl; rintro _ rfl; rintro _ rfl; rintro _ rfl; rintro _ rfl; rintro _ rfl; refine depsThen_nil ?_; dsimp only; simp only [Act.put, List.setIfInBounds_toArray, List.set_cons_zero, List.set_cons_succ]
        go_wp2_with fail
        go_ret
        exact ⟨by rw [HE.out]; simp [], HW.out.trans hx1⟩
    | true =>
      by_cases h1 : next ≤ b
      · have i1 : decide ((next : Int) ≤ (b : Int)) = true := decide_eq_true (by omega)
        have j1 : decide (next ≤ b) = true := decide_eq_true h1
        by_cases h2 : n = 0
        · have H2 : Hid (((n : Int) == 0) = true) := by show _ = _; rw [h2]; rfl
          have H20 := Lib.hid h2
          clear h2
          refine wp_region_facts [Fact.eq (.bool true),
              Fact.eq (.bool true),
              Fact.eq (.agg #[.int .u64 n, .int .u64 t, .string k, .slice ha ln hc, .int .u64 f, .int .u64 g]),
              Fact.eq (.int .u64 (b : Nat)),
              Fact.eq (.pointer (some ⟨bs, 0, none⟩)),
              Fact.eq (.pointer (some ⟨bs, 0, none⟩)),
              Fact.eq (.pointer (some ⟨bs, 1, none⟩)),
              Fact.eq (.int .u64 (next : Nat)),
              Fact.eq (.bool true),
              Fact.eq (.bool true),
              Fact.eq (.bool true),
              Fact.eq (.pointer (some ⟨w.heap.size, 0, none⟩)),
              Fact.eq (.pointer (some ⟨w.heap.size, 0, none⟩)),
              Fact.eq (.int .u64 (n : Nat)),
              Fact.eq (.bool true),
              Fact.eq (.bool true),
              Fact.eq undef,
              Fact.eq undef,
              Fact.eq undef,
              Fact.eq undef,
              Fact.eq undef,
              Fact.eq undef,
              Fact.eq undef,
              Fact.eq undef,
              Fact.eq (.bool true),
              Fact.eq (.bool true),
              Fact.eq (.bool true)]
            [[], [(0, 21)], [(1, 22)], [(2, 23), (1, 22)], [(1, 22)], [(4, 25), (1, 22)], [(5, 26), (1, 22)], [(6, 27), (1, 22)], [(3, 24), (7, 28), (1, 22)], [(1, 22), (8, 29)], [(9, 30)], [(10, 31)], [(11, 32), (10, 31)], [(12, 33), (10, 31)], [(13, 34), (10, 31)], [(14, 35), (10, 31)], [(15, 36)], [(16, 37), (15, 36)], [(17, 38), (15, 36)], [(18, 39), (15, 36)], [(15, 36)], [(20, 41), (15, 36)], [(21, 42), (15, 36)], [(19, 40), (22, 43), (15, 36)], [(15, 36), (23, 44), (10, 31)], [(10, 31), (24, 45)], [(25, 46)]]
            [(0, 21), (1, 22), (2, 23), (3, 24), (4, 25), (5, 26), (6, 27), (7, 28), (8, 29), (9, 30), (10, 31), (11, 32), (12, 33), (13, 34), (14, 35), (15, 36), (16, 37), (17, 38), (18, 39), (19, 40), (20, 41), (21, 42), (22, 43), (23, 44), (24, 45), (25, 46), (26, 4)] (by kernel_rfl) (by kernel_rfl) ?_ ?_
          · refine ⟨?_, ?_, ?_, ?_, ?_, ?_, ?_, ?_, ?_, ?_, ?_, ?_, ?_, ?_, ?_, ?_, ?_, ?_, ?_, ?_, ?_, ?_, ?_, ?_, ?_, ?_, ?_, trivial⟩
            · intro w1 hx1; change wpList _ _ _ _ _ _; exact ob_move rfl rfl rfl rfl rfl
            · intro w1 hx1; rintro _ rfl; change wpList _ _ _ _ _ _; exact ob_move rfl rfl rfl rfl rfl
            · intro w1 hx1; rintro _ rfl; change wpList _ _ _ _ _ _; have m0 := cell_of_row _ _ 0 _ _ _ (block_later HB2.out hx1); have m1 := cell_of_row _ _ 1 _ _ _ (block_later HB2.out hx1); have m2 := cell_of_row _ _ 2 _ _ _ (block_later HB2.out hx1); have m3 := cell_of_row _ _ 3 _ _ _ (block_later HB2.out hx1); have m4 := cell_of_row _ _ 4 _ _ _ (block_later HB2.out hx1); have m5 := cell_of_row _ _ 5 _ _ _ (block_later HB2.out hx1); go_wp2_with fail; exact ⟨rfl, Ext.refl _, rfl, rfl⟩
            · intro w1 hx1; rintro _ rfl; rintro _ rfl; change wpList _ _ _ _ _ _; go_wp2_with fail; refine (CB.out _).mono ?_; rintro e w2 ⟨rfl, hx2⟩; go_wp2_with fail; exact ⟨rfl, hx2, rfl, rfl⟩
            · intro w1 hx1; rintro _ rfl; change wpList _ _ _ _ _ _; exact ob_move rfl rfl rfl rfl rfl
            · intro w1 hx1; rintro _ rfl; rintro _ rfl; change wpList _ _ _ _ _ _; go_wp2_with fail; exact ⟨rfl, Ext.refl _, rfl, rfl⟩
            · intro w1 hx1; rintro _ rfl; rintro _ rfl; change wpList _ _ _ _ _ _; go_wp2_with fail; exact ⟨rfl, Ext.refl _, rfl, rfl⟩
            · intro w1 hx1; rintro _ rfl; rintro _ rfl; change wpList _ _ _ _ _ _; have m1 := cell_of_row _ _ 1 _ _ _ (block_later HS2.out hx1); go_wp2_with fail; exact ⟨rfl, Ext.refl _, rfl, rfl⟩
            · intro w1 hx1; rintro _ rfl; rintro _ rfl; rintro _ rfl; change wpList _ _ _ _ _ _; go_wp2_with fail; exact ⟨rfl, Ext.refl _, rfl, rfl⟩
            · intro w1 hx1; rintro _ rfl; rintro _ rfl; change wpList _ _ _ _ _ _; exact ob_pick rfl rfl rfl rfl rfl rfl
            · intro w1 hx1; rintro _ rfl; change wpList _ _ _ _ _ _; exact ob_move rfl rfl rfl rfl rfl
            · intro w1 hx1; rintro _ rfl; change wpList _ _ _ _ _ _; go_wp2_with fail; exact ⟨rfl, Ext.refl _, rfl, rfl⟩
            · intro w1 hx1; rintro _ rfl; rintro _ rfl; change wpList _ _ _ _ _ _; go_wp2_with fail; exact ⟨rfl, Ext.refl _, rfl, rfl⟩
            · intro w1 hx1; rintro _ rfl; rintro _ rfl; change wpList _ _ _ _ _ _; have m0 := cell_of_row _ _ 0 _ _ _ (block_later HB2.out hx1); go_wp2_with fail; exact ⟨rfl, Ext.refl _, rfl, rfl⟩
            · intro w1 hx1; rintro _ rfl; rintro _ rfl; change wpList _ _ _ _ _ _; have i2 : ((n : Int) == 0) = true := H2.out; go_wp2_with fail; exact ⟨rfl, Ext.refl _, rfl, rfl⟩
            · intro w1 hx1; rintro _ rfl; rintro _ rfl; change wpList _ _ _ _ _ _; exact ob_move rfl rfl rfl rfl rfl
            · intro w1 hx1; rintro _ rfl; change wpList _ _ _ _ _ _; exact ob_skip rfl rfl rfl rfl
            · intro w1 hx1; rintro _ rfl; rintro _ rfl; change wpList _ _ _ _ _ _; exact ob_skip rfl rfl rfl rfl
            · intro w1 hx1; rintro _ rfl; rintro _ rfl; change wpList _ _ _ _ _ _; exact ob_skip rfl rfl rfl rfl
            · intro w1 hx1; rintro _ rfl; rintro _ rfl; change wpList _ _ _ _ _ _; exact ob_skip rfl rfl rfl rfl
            · intro w1 hx1; rintro _ rfl; change wpList _ _ _ _ _ _; exact ob_skip rfl rfl rfl rfl
            · intro w1 hx1; rintro _ rfl; rintro _ rfl; change wpList _ _ _ _ _ _; exact ob_skip rfl rfl rfl rfl
            · intro w1 hx1; rintro _ rfl; rintro _ rfl; change wpList _ _ _ _ _ _; exact ob_skip rfl rfl rfl rfl
            · intro w1 hx1; rintro _ rfl; rintro _ rfl; rintro _ rfl; change wpList _ _ _ _ _ _; exact ob_skip rfl rfl rfl rfl
            · intro w1 hx1; rintro _ rfl; rintro _ rfl; rintro _ rfl; change wpList _ _ _ _ _ _; exact ob_pick rfl rfl rfl rfl rfl rfl
            · intro w1 hx1; rintro _ rfl; rintro _ rfl; change wpList _ _ _ _ _ _; exact ob_pick rfl rfl rfl rfl rfl rfl
            · intro w1 hx1; rintro _ rfl; change wpList _ _ _ _ _ _; exact ob_assign rfl rfl rfl rfl rfl
          · intro w1 hx1; rintro _ rfl; rintro _ rfl; rintro _ rfl; rintro _ rfl; rintro _ rfl; rintro _ rfl; rintro _ rfl; rintro _ rfl; rintro _ rfl; rintro _ rfl; rintro _ rfl; rintro _ rfl; rintro _ rfl; rintro _ rfl; rintro _ rfl; rintro _ rfl; rintro _ rfl; rintro _ rfl; rintro _ rfl; rintro _ rfl; rintro _ rfl; rintro _ rfl; rintro _ rfl; rintro _ rfl; rintro _ rfl; rintro _ rfl; rintro _ rfl; refine depsThen_nil ?_; dsimp only; simp only [Act.put, List.setIfInBounds_toArray, List.set_cons_zero, List.set_cons_succ]
            go_wp2_with fail
            go_ret
            exact ⟨by rw [HE.out]; simp [h1, H20.out], HW.out.trans hx1⟩
        · have i2 : ((n : Int) == 0) = false := by
            have : ¬ (n : Int) = 0 := by omega
            simpa using this
          refine wp_region_facts [Fact.eq (.bool true),
              Fact.eq (.bool true),
              Fact.eq (.agg #[.int .u64 n, .int .u64 t, .string k, .slice ha ln hc, .int .u64 f, .int .u64 g]),
              Fact.eq (.int .u64 (b : Nat)),
              Fact.eq (.pointer (some ⟨bs, 0, none⟩)),
              Fact.eq (.pointer (some ⟨bs, 0, none⟩)),
              Fact.eq (.pointer (some ⟨bs, 1, none⟩)),
              Fact.eq (.int .u64 (next : Nat)),
              Fact.eq (.bool true),
              Fact.eq (.bool true),
              Fact.eq (.bool true),
              Fact.eq (.pointer (some ⟨w.heap.size, 0, none⟩)),
              Fact.eq (.pointer (some ⟨w.heap.size, 0, none⟩)),
              Fact.eq (.int .u64 (n : Nat)),
              Fact.eq (.bool false),
              Fact.eq (.bool false),
              Fact.eq (.pointer (some ⟨bs, 0, none⟩)),
              Fact.eq (.pointer (some ⟨bs, 0, none⟩)),
              Fact.eq (.pointer (some ⟨bs, 0, none⟩)),
              Fact.eq (.slice pa p.length pc),
              Fact.eq (.pointer (some ⟨w.heap.size, 0, none⟩)),
              Fact.eq (.pointer (some ⟨w.heap.size, 2, none⟩)),
              Fact.eq (.agg #[.string k, .slice ha ln hc]),
              Fact.eq (.bool M),
              Fact.eq (.bool M),
              Fact.eq (.bool M),
              Fact.eq (.bool M)]
            [[], [(0, 21)], [(1, 22)], [(2, 23), (1, 22)], [(1, 22)], [(4, 25), (1, 22)], [(5, 26), (1, 22)], [(6, 27), (1, 22)], [(3, 24), (7, 28), (1, 22)], [(1, 22), (8, 29)], [(9, 30)], [(10, 31)], [(11, 32), (10, 31)], [(12, 33), (10, 31)], [(13, 34), (10, 31)], [(14, 35), (10, 31)], [(15, 36)], [(16, 37), (15, 36)], [(17, 38), (15, 36)], [(18, 39), (15, 36)], [(15, 36)], [(20, 41), (15, 36)], [(21, 42), (15, 36)], [(19, 40), (22, 43), (15, 36)], [(15, 36), (23, 44), (10, 31)], [(10, 31), (24, 45)], [(25, 46)]]
            [(0, 21), (1, 22), (2, 23), (3, 24), (4, 25), (5, 26), (6, 27), (7, 28), (8, 29), (9, 30), (10, 31), (11, 32), (12, 33), (13, 34), (14, 35), (15, 36), (16, 37), (17, 38), (18, 39), (19, 40), (20, 41), (21, 42), (22, 43), (23, 44), (24, 45), (25, 46), (26, 4)] (by kernel_rfl) (by kernel_rfl) ?_ ?_
          · refine ⟨?_, ?_, ?_, ?_, ?_, ?_, ?_, ?_, ?_, ?_, ?_, ?_, ?_, ?_, ?_, ?_, ?_, ?_, ?_, ?_, ?_, ?_, ?_, ?_, ?_, ?_, ?_, trivial⟩
            · intro w1 hx1; change wpList _ _ _ _ _ _; exact ob_move rfl rfl rfl rfl rfl
            · intro w1 hx1; rintro _ rfl; change wpList _ _ _ _ _ _; exact ob_move rfl rfl rfl rfl rfl
            · intro w1 hx1; rintro _ rfl; change wpList _ _ _ _ _ _; have m0 := cell_of_row _ _ 0 _ _ _ (block_later HB2.out hx1); have m1 := cell_of_row _ _ 1 _ _ _ (block_later HB2.out hx1); have m2 := cell_of_row _ _ 2 _ _ _ (block_later HB2.out hx1); have m3 := cell_of_row _ _ 3 _ _ _ (block_later HB2.out hx1); have m4 := cell_of_row _ _ 4 _ _ _ (block_later HB2.out hx1); have m5 := cell_of_row _ _ 5 _ _ _ (block_later HB2.out hx1); go_wp2_with fail; exact ⟨rfl, Ext.refl _, rfl, rfl⟩
            · intro w1 hx1; rintro _ rfl; rintro _ rfl; change wpList _ _ _ _ _ _; go_wp2_with fail; refine (CB.out _).mono ?_; rintro e w2 ⟨rfl, hx2⟩; go_wp2_with fail; exact ⟨rfl, hx2, rfl, rfl⟩
            · intro w1 hx1; rintro _ rfl; change wpList _ _ _ _ _ _; exact ob_move rfl rfl rfl rfl rfl
            · intro w1 hx1; rintro _ rfl; rintro _ rfl; change wpList _ _ _ _ _ _; go_wp2_with fail; exact ⟨rfl, Ext.refl _, rfl, rfl⟩
            · intro w1 hx1; rintro _ rfl; rintro _ rfl; change wpList _ _ _ _ _ _; go_wp2_with fail; exact ⟨rfl, Ext.refl _, rfl, rfl⟩
            · intro w1 hx1; rintro _ rfl; rintro _ rfl; change wpList _ _ _ _ _ _; have m1 := cell_of_row _ _ 1 _ _ _ (block_later HS2.out hx1); go_wp2_with fail; exact ⟨rfl, Ext.refl _, rfl, rfl⟩
            · intro w1 hx1; rintro _ rfl; rintro _ rfl; rintro _ rfl; change wpList _ _ _ _ _ _; go_wp2_with fail; exact ⟨rfl, Ext.refl _, rfl, rfl⟩
            · intro w1 hx1; rintro _ rfl; rintro _ rfl; change wpList _ _ _ _ _ _; exact ob_pick rfl rfl rfl rfl rfl rfl
            · intro w1 hx1; rintro _ rfl; change wpList _ _ _ _ _ _; exact ob_move rfl rfl rfl rfl rfl
            · intro w1 hx1; rintro _ rfl; change wpList _ _ _ _ _ _; go_wp2_with fail; exact ⟨rfl, Ext.refl _, rfl, rfl⟩
            · intro w1 hx1; rintro _ rfl; rintro _ rfl; change wpList _ _ _ _ _ _; go_wp2_with fail; exact ⟨rfl, Ext.refl _, rfl, rfl⟩
            · intro w1 hx1; rintro _ rfl; rintro _ rfl; change wpList _ _ _ _ _ _; have m0 := cell_of_row _ _ 0 _ _ _ (block_later HB2.out hx1); go_wp2_with fail; exact ⟨rfl, Ext.refl _, rfl, rfl⟩
            · intro w1 hx1; rintro _ rfl; rintro _ rfl; change wpList _ _ _ _ _ _; go_wp2_with fail; exact ⟨rfl, Ext.refl _, rfl, rfl⟩
            · intro w1 hx1; rintro _ rfl; rintro _ rfl; change wpList _ _ _ _ _ _; exact ob_move rfl rfl rfl rfl rfl
            · intro w1 hx1; rintro _ rfl; change wpList _ _ _ _ _ _; exact ob_move rfl rfl rfl rfl rfl
            · intro w1 hx1; rintro _ rfl; rintro _ rfl; change wpList _ _ _ _ _ _; go_wp2_with fail; exact ⟨rfl, Ext.refl _, rfl, rfl⟩
            · intro w1 hx1; rintro _ rfl; rintro _ rfl; change wpList _ _ _ _ _ _; go_wp2_with fail; exact ⟨rfl, Ext.refl _, rfl, rfl⟩
            · intro w1 hx1; rintro _ rfl; rintro _ rfl; change wpList _ _ _ _ _ _; have m0 := cell_of_row _ _ 0 _ _ _ (block_later HS2.out hx1); go_wp2_with fail; exact ⟨rfl, Ext.refl _, rfl, rfl⟩
            · intro w1 hx1; rintro _ rfl; change wpList _ _ _ _ _ _; go_wp2_with fail; exact ⟨rfl, Ext.refl _, rfl, rfl⟩
            · intro w1 hx1; rintro _ rfl; rintro _ rfl; change wpList _ _ _ _ _ _; go_wp2_with fail; exact ⟨rfl, Ext.refl _, rfl, rfl⟩
            · intro w1 hx1; rintro _ rfl; rintro _ rfl; change wpList _ _ _ _ _ _; have m2 := cell_of_row _ _ 2 _ _ _ (block_later HB2.out hx1); have m3 := cell_of_row _ _ 3 _ _ _ (block_later HB2.out hx1); go_wp2_with fail; exact ⟨rfl, Ext.refl _, rfl, rfl⟩
            · intro w1 hx1; rintro _ rfl; rintro _ rfl; rintro _ rfl; change wpList _ _ _ _ _ _; go_wp2_with fail; refine (CM.out _ (HW.out.trans hx1)).mono ?_; rintro e w2 ⟨rfl, hx2⟩; go_wp2_with fail; exact ⟨rfl, hx2, rfl, rfl⟩
            · intro w1 hx1; rintro _ rfl; rintro _ rfl; rintro _ rfl; change wpList _ _ _ _ _ _; exact ob_pick rfl rfl rfl rfl rfl rfl
            · intro w1 hx1; rintro _ rfl; rintro _ rfl; change wpList _ _ _ _ _ _; exact ob_pick rfl rfl rfl rfl rfl rfl
            · intro w1 hx1; rintro _ rfl; change wpList _ _ _ _ _ _; exact ob_assign rfl rfl rfl rfl rfl
          · intro w1 hx1; rintro _ rfl; rintro _ rfl; rintro _ rfl; rintro _ rfl; rintro _ rfl; rintro _ rfl; rintro _ rfl; rintro _ rfl; rintro _ rfl; rintro _ rfl; rintro _ rfl; rintro _ rfl; rintro _ rfl; rintro _ rfl; rintro _ rfl; rintro _ rfl; rintro _ rfl; rintro _ rfl; rintro _ rfl; rintro _ rfl; rintro _ rfl; rintro _ rfl; rintro _ rfl; rintro _ rfl; rintro _ rfl; rintro _ rfl; rintro _ rfl; refine depsThen_nil ?_; dsimp only; simp only [Act.put, List.setIfInBounds_toArray, List.set_cons_zero, List.set_cons_succ]
            go_wp2_with fail
            go_ret
            exact ⟨by rw [HE.out]; simp [h1, h2], HW.out.trans hx1⟩
      · have i1 : decide ((next : Int) ≤ (b : Int)) = false := decide_eq_false (by omega)
        have j1 : decide (next ≤ b) = false := decide_eq_false h1
        refine wp_region_facts [Fact.eq (.bool true),
            Fact.eq (.bool true),
            Fact.eq (.agg #[.int .u64 n, .int .u64 t, .string k, .slice ha ln hc, .int .u64 f, .int .u64 g]),
            Fact.eq (.int .u64 (b : Nat)),
            Fact.eq (.pointer (some ⟨bs, 0, none⟩)),
            Fact.eq (.pointer (some ⟨bs, 0, none⟩)),
            Fact.eq (.pointer (some ⟨bs, 1, none⟩)),
            Fact.eq (.int .u64 (next : Nat)),
            Fact.eq (.bool false),
            Fact.eq (.bool false),
            Fact.eq (.bool false),
            Fact.eq undef,
            Fact.eq undef,
            Fact.eq undef,
            Fact.eq undef,
            Fact.eq undef,
            Fact.eq undef,
            Fact.eq undef,
            Fact.eq undef,
            Fact.eq undef,
            Fact.eq undef,
            Fact.eq undef,
            Fact.eq undef,
            Fact.eq undef,
            Fact.eq undef,
            Fact.eq (.bool false),
            Fact.eq (.bool false)]
          [[], [(0, 21)], [(1, 22)], [(2, 23), (1, 22)], [(1, 22)], [(4, 25), (1, 22)], [(5, 26), (1, 22)], [(6, 27), (1, 22)], [(3, 24), (7, 28), (1, 22)], [(1, 22), (8, 29)], [(9, 30)], [(10, 31)], [(11, 32), (10, 31)], [(12, 33), (10, 31)], [(13, 34), (10, 31)], [(14, 35), (10, 31)], [(15, 36)], [(16, 37), (15, 36)], [(17, 38), (15, 36)], [(18, 39), (15, 36)], [(15, 36)], [(20, 41), (15, 36)], [(21, 42), (15, 36)], [(19, 40), (22, 43), (15, 36)], [(15, 36), (23, 44), (10, 31)], [(10, 31), (24, 45)], [(25, 46)]]
          [(0, 21), (1, 22), (2, 23), (3, 24), (4, 25), (5, 26), (6, 27), (7, 28), (8, 29), (9, 30), (10, 31), (11, 32), (12, 33), (13, 34), (14, 35), (15, 36), (16, 37), (17, 38), (18, 39), (19, 40), (20, 41), (21, 42), (22, 43), (23, 44), (24, 45), (25, 46), (26, 4)] (by kernel_rfl) (by kernel_rfl) ?_ ?_
        · refine ⟨?_, ?_, ?_, ?_, ?_, ?_, ?_, ?_, ?_, ?_, ?_, ?_, ?_, ?_, ?_, ?_, ?_, ?_, ?_, ?_, ?_, ?_, ?_, ?_, ?_, ?_, ?_, trivial⟩
          · intro w1 hx1; change wpList _ _ _ _ _ _; exact ob_move rfl rfl rfl rfl rfl
          · intro w1 hx1; rintro _ rfl; change wpList _ _ _ _ _ _; exact ob_move rfl rfl rfl rfl rfl
          · intro w1 hx1; rintro _ rfl; change wpList _ _ _ _ _ _; have m0 := cell_of_row _ _ 0 _ _ _ (block_later HB2.out hx1); have m1 := cell_of_row _ _ 1 _ _ _ (block_later HB2.out hx1); have m2 := cell_of_row _ _ 2 _ _ _ (block_later HB2.out hx1); have m3 := cell_of_row _ _ 3 _ _ _ (block_later HB2.out hx1); have m4 := cell_of_row _ _ 4 _ _ _ (block_later HB2.out hx1); have m5 := cell_of_row _ _ 5 _ _ _ (block_later HB2.out hx1); go_wp2_with fail; exact ⟨rfl, Ext.refl _, rfl, rfl⟩
          · intro w1 hx1; rintro _ rfl; rintro _ rfl; change wpList _ _ _ _ _ _; go_wp2_with fail; refine (CB.out _).mono ?_; rintro e w2 ⟨rfl, hx2⟩; go_wp2_with fail; exact ⟨rfl, hx2, rfl, rfl⟩
          · intro w1 hx1; rintro _ rfl; change wpList _ _ _ _ _ _; exact ob_move rfl rfl rfl rfl rfl
          · intro w1 hx1; rintro _ rfl; rintro _ rfl; change wpList _ _ _ _ _ _; go_wp2_with fail; exact ⟨rfl, Ext.refl _, rfl, rfl⟩
          · intro w1 hx1; rintro _ rfl; rintro _ rfl; change wpList _ _ _ _ _ _; go_wp2_with fail; exact ⟨rfl, Ext.refl _, rfl, rfl⟩
          · intro w1 hx1; rintro _ rfl; rintro _ rfl; change wpList _ _ _ _ _ _; have m1 := cell_of_row _ _ 1 _ _ _ (block_later HS2.out hx1); go_wp2_with fail; exact ⟨rfl, Ext.refl _, rfl, rfl⟩
          · intro w1 hx1; rintro _ rfl; rintro _ rfl; rintro _ rfl; change wpList _ _ _ _ _ _; go_wp2_with fail; exact ⟨rfl, Ext.refl _, rfl, rfl⟩
          · intro w1 hx1; rintro _ rfl; rintro _ rfl; change wpList _ _ _ _ _ _; exact ob_pick rfl rfl rfl rfl rfl rfl
          · intro w1 hx1; rintro _ rfl; change wpList _ _ _ _ _ _; exact ob_move rfl rfl rfl rfl rfl
          · intro w1 hx1; rintro _ rfl; change wpList _ _ _ _ _ _; exact ob_skip rfl rfl rfl rfl
          · intro w1 hx1; rintro _ rfl; rintro _ rfl; change wpList _ _ _ _ _ _; exact ob_skip rfl rfl rfl rfl
          · intro w1 hx1; rintro _ rfl; rintro _ rfl; change wpList _ _ _ _ _ _; exact ob_skip rfl rfl rfl rfl
          · intro w1 hx1; rintro _ rfl; rintro _ rfl; change wpList _ _ _ _ _ _; exact ob_skip rfl rfl rfl rfl
          · intro w1 hx1; rintro _ rfl; rintro _ rfl; change wpList _ _ _ _ _ _; exact ob_skip rfl rfl rfl rfl
          · intro w1 hx1; rintro _ rfl; change wpList _ _ _ _ _ _; exact ob_skip rfl rfl rfl rfl
          · intro w1 hx1; rintro _ rfl; rintro _ rfl; change wpList _ _ _ _ _ _; exact ob_skip rfl rfl rfl rfl
          · intro w1 hx1; rintro _ rfl; rintro _ rfl; change wpList _ _ _ _ _ _; exact ob_skip rfl rfl rfl rfl
          · intro w1 hx1; rintro _ rfl; rintro _ rfl; change wpList _ _ _ _ _ _; exact ob_skip rfl rfl rfl rfl
          · intro w1 hx1; rintro _ rfl; change wpList _ _ _ _ _ _; exact ob_skip rfl rfl rfl rfl
          · intro w1 hx1; rintro _ rfl; rintro _ rfl; change wpList _ _ _ _ _ _; exact ob_skip rfl rfl rfl rfl
          · intro w1 hx1; rintro _ rfl; rintro _ rfl; change wpList _ _ _ _ _ _; exact ob_skip rfl rfl rfl rfl
          · intro w1 hx1; rintro _ rfl; rintro _ rfl; rintro _ rfl; change wpList _ _ _ _ _ _; exact ob_skip rfl rfl rfl rfl
          · intro w1 hx1; rintro _ rfl; rintro _ rfl; rintro _ rfl; change wpList _ _ _ _ _ _; exact ob_skip rfl rfl rfl rfl
          · intro w1 hx1; rintro _ rfl; rintro _ rfl; change wpList _ _ _ _ _ _; exact ob_pick rfl rfl rfl rfl rfl rfl
          · intro w1 hx1; rintro _ rfl; change wpList _ _ _ _ _ _; exact ob_assign rfl rfl rfl rfl rfl
        · intro w1 hx1; rintro _ rfl; rintro _ rfl; rintro _ rfl; rintro _ rfl; rintro _ rfl; rintro _ rfl; rintro _ rfl; rintro _ rfl; rintro _ rfl; rintro _ rfl; rintro _ rfl; rintro _ rfl; rintro _ rfl; rintro _ rfl; rintro _ rfl; rintro _ rfl; rintro _ rfl; rintro _ rfl; rintro _ rfl; rintro _ rfl; rintro _ rfl; rintro _ rfl; rintro _ rfl; rintro _ rfl; rintro _ rfl; rintro _ rfl; rintro _ rfl; refine depsThen_nil ?_; dsimp only; simp only [Act.put, List.setIfInBounds_toArray, List.set_cons_zero, List.set_cons_succ]
          go_wp2_with fail
          go_ret
          exact ⟨by rw [HE.out]; simp [h1], HW.out.trans hx1⟩
end Go.Proofs.YtaklnpjpndkccaaGreat

namespace Go.Proofs.YtaklnpjpndkccaaGreat
open Go.RowKit

/-- What a page's deliveries come to: what is told, the next number, whether it stopped for want of room. -/
def pageL (p : List C) (room : Int) : List PD → Nat → List PD → List PD × Nat × Bool
  | [], next, out => (out, next, false)
  | d :: r, next, out => if wantsB p next d = true then (if room ≤ (out.length : Int) then (out, d.beg, true) else pageL p room r (d.num + 1) (out ++ [d])) else pageL p room r next out
/-- .. and the state behind it. -/
def pageP (p : List C) (room : Int) (en : Nat) (last : Bool) (L : List PD) (next : Nat) : List PD × Nat × Int :=
  match pageL p room L next [] with
  | (out, nx, true) => (out, nx, 1)
  | (out, nx, false) => (out, max nx (min en 1099511627777), if last then 3 else 1)
theorem Row.atD {w : World} {a : Option Addr} {n cap : Nat} {L : List DM} (h : Row w 6 (.slice a n cap) L.length (L.flatMap dmC)) {i : Nat} (hi : i < L.length) :
    ∃ B o, a = some ⟨B, o, none⟩ ∧ w.cell? ⟨B, o + i * 6, none⟩ = some (.int .u64 L[i].n) ∧ w.cell? ⟨B, o + i * 6 + 1, none⟩ = some (.int .u64 L[i].t) ∧ w.cell? ⟨B, o + i * 6 + 2, none⟩ = some (.string (strOf L[i].key)) ∧ w.cell? ⟨B, o + i * 6 + 3, none⟩ = some (.slice L[i].ha L[i].av.length L[i].hc) ∧ w.cell? ⟨B, o + i * 6 + 4, none⟩ = some (.int .u64 L[i].f) ∧ w.cell? ⟨B, o + i * 6 + 5, none⟩ = some (.int .u64 L[i].g) := by
  obtain ⟨a', c', e, _⟩ := Row.shape h
  cases e
  obtain ⟨B, o, rfl⟩ := Row.base h (by omega) (by decide)
  have g := fun j hj => flat_get dmC 6 dmC_len L i hi j hj
  exact ⟨B, o, rfl, Row.cellAt h (g 0 (by decide)) (by omega), Row.cellAt h (g 1 (by decide)) (by omega), Row.cellAt h (g 2 (by decide)) (by omega), Row.cellAt h (g 3 (by decide)) (by omega), Row.cellAt h (g 4 (by decide)) (by omega), Row.cellAt h (g 5 (by decide)) (by omega)⟩

/-- A splicer, its predicate in older memory. -/
structure SplR (w0 w : World) (bs : Nat) (pv : Value) (p : List C) (next : Nat) (st count : Int) : Prop where
  sp : SpB w bs pv next st count
  old : w0.heap.size ≤ bs
  pr : PredR w0 pv p
  hx : Ext w0 w
theorem ext_but {w0 w w' : World} {b : Nat} (hx : Ext w0 w) (hg : w.grownBy w' (some b)) (hb : w0.heap.size ≤ b) : Ext w0 w' :=
  ⟨hg.os.trans hx.os, hg.tape.trans hx.tape, hg.output.trans hx.output, Nat.le_trans hx.size hg.size, fun k hk => (hg.block k (Nat.lt_of_lt_of_le hk hx.size) (by intro e; cases e; omega)).trans (hx.block k hk)⟩
theorem grown_at {w w1 w2 : World} {b : Option Nat} (h : w.grownBy w1 b) (k : w1.grownBy w2 b) : w.grownBy w2 b :=
  ⟨k.os.trans h.os, k.tape.trans h.tape, k.output.trans h.output, Nat.le_trans h.size k.size, fun j hj hne => (k.block j (Nat.lt_of_lt_of_le hj h.size) hne).trans (h.block j hj hne)⟩
theorem grown_new {w w1 w2 : World} {b r : Option Nat} (h : w.grownBy w1 b) (k : w1.grownBy w2 r) (hr : ∀ j, r = some j → w.heap.size ≤ j) : w.grownBy w2 b :=
  ⟨k.os.trans h.os, k.tape.trans h.tape, k.output.trans h.output, Nat.le_trans h.size k.size, fun j hj hne => (k.block j (Nat.lt_of_lt_of_le hj h.size) (fun e => by have := hr j e.symm; omega)).trans (h.block j hj hne)⟩
theorem grown_extJ {w w' : World} {b : Option Nat} (hx : Ext w w') : w.grownBy w' b := ⟨hx.os, hx.tape, hx.output, hx.size, fun k hk _ => hx.block k hk⟩
/-- What stands behind a call that tells deliveries. -/
def TellO (w w' : World) (bs : Nat) (pv : Value) (v : Value) (out : List PD) (next : Nat) (st count : Int) : Prop :=
  ∃ O : List DM, O.map DM.pd = out ∧ w'.ownsRow w.heap.size 53 6 v O.length (O.flatMap dmC) ∧ (∀ x ∈ O, AttrO w.heap.size w' x.h x.av) ∧ SpB w' bs pv next st count ∧ w.grownBy w' (some bs)

set_option maxRecDepth 100000 in
set_option maxHeartbeats 4000000 in
theorem page_no (w : World) (bs : Nat) (pv : Value) (next st count : Int) (hS : SpB w bs pv next st count) (cnt : Int) (h : ¬ (st = 2 ∧ count = cnt)) (fr en : Int) (hi hg : Value) (last : Bool) (room : Int) :
    Calls Tryz.prog 13 #[.pointer (some ⟨bs, 0, none⟩), .int .u64 cnt, .agg #[.int .u64 fr, .int .u64 en, hi, hg, .bool last], .int .i64 room] w fun e w' => e = .returned (.slice none 0 0) ∧ Ext w w' := by
  obtain ⟨hx, _⟩ := boxes1 w (.cells #[.int .u64 fr, .int .u64 en, hi, hg, .bool last] 34)
  have hS2 : SpB _ bs pv next st count := block_later hS hx
  have hst := sstate_any _ bs pv next st count hS2
  have m3 := cell_of_row _ _ 3 _ _ _ hS2
  have HST := Lib.hid hst
  have HX := Lib.hid hx
  clear hS hS2 hst hx
  by_cases h2 : st = 2
  · subst h2
    have hc : ((count : Int) != cnt) = true := bne_iff_ne.2 (fun e => h ⟨rfl, e⟩)
    clear h
    go_enter Tryz.func13, Tryz.ntmps13
    go_wp2_with (go_at_call 22; (with_reducible refine HST.out.mono ?_); rintro e w5 ⟨rfl, rfl⟩)
    go_ret
    exact ⟨rfl, HX.out⟩
  · have d1 : (st != 2) = true := bne_iff_ne.2 h2
    clear h h2
    go_enter Tryz.func13, Tryz.ntmps13
    go_wp2_with (go_at_call 22; (with_reducible refine HST.out.mono ?_); rintro e w5 ⟨rfl, rfl⟩)
    go_ret
    exact ⟨rfl, HX.out⟩
end Go.Proofs.YtaklnpjpndkccaaGreat

namespace Go.Proofs.YtaklnpjpndkccaaGreat
open Go.RowKit Go.Sort

theorem SpB.set2 {w : World} {b : Nat} {pv : Value} {n s c : Int} (h : SpB w b pv n s c) (v : Int) : SpB (w.setCell ⟨b, 2, none⟩ (.int .i64 v)) b pv n v c := by
  have := setCell_blockJ 2 (.int .i64 v) h
  simpa [SpB] using this
theorem SpB.set1 {w : World} {b : Nat} {pv : Value} {n s c : Int} (h : SpB w b pv n s c) (v : Int) : SpB (w.setCell ⟨b, 1, none⟩ (.int .u64 v)) b pv v s c := by
  have := setCell_blockJ 1 (.int .u64 v) h
  simpa [SpB] using this
theorem SpB.set3 {w : World} {b : Nat} {pv : Value} {n s c : Int} (h : SpB w b pv n s c) (v : Int) : SpB (w.setCell ⟨b, 3, none⟩ (.int .u64 v)) b pv n s v := by
  have := setCell_blockJ 3 (.int .u64 v) h
  simpa [SpB] using this
theorem pageP_stop {p : List C} {room : Int} {en : Nat} {last : Bool} {L out : List PD} {next nx : Nat} (h : pageL p room L next [] = (out, nx, true)) : pageP p room en last L next = (out, nx, 1) := by unfold pageP; rw [h]
theorem pageP_end {p : List C} {room : Int} {en : Nat} {last : Bool} {L out : List PD} {next nx : Nat} (h : pageL p room L next [] = (out, nx, false)) : pageP p room en last L next = (out, max nx (min en 1099511627777), if last then 3 else 1) := by unfold pageP; rw [h]
theorem tell_end {w w4 w' : World} {bs base : Nat} {pv v : Value} {O L : List DM} {nk n' : Int} {s c st' : Int} {nx : Nat} (hb : w.heap.size ≤ base) (hout : w4.ownsRow base 53 6 v O.length (O.flatMap dmC)) (hmem : ∀ x ∈ O, x ∈ L) (hat : ∀ x ∈ L, AttrO w.heap.size w4 x.h x.av)
    (hS : SpB w4 bs pv nk s c) (hgr : w.grownBy w4 (some bs)) (hg : w4.grownBy w' (some bs)) (hS' : SpB w' bs pv n' st' c) (hn : n' = (nx : Nat)) : TellO w w' bs pv v (O.map DM.pd) nx st' c := by
  subst hn
  exact ⟨O, rfl, own_low (own_keep hout hg fun k hk e => own_ne hout hS (by decide) (hk.trans e.symm)) hb, fun x hx => own_keep (hat x (hmem x hx)) hg fun k hk e => own_ne (hat x (hmem x hx)) hS (by decide) (hk.trans e.symm), hS', grown_at hgr hg⟩
/-- What stands behind Page. -/
def PageO (w w' : World) (bs : Nat) (pv v : Value) (p : List C) (room : Int) (en : Nat) (last : Bool) (items : List IM) (gaps : List (Nat × Nat)) (next : Nat) (cnt : Int) : Prop :=
  ∃ Zg Zi, StS kfGap gaps Zg ∧ StS kfItem items Zi ∧ TellO w w' bs pv v (pageP p room en last (rowD Zg (Zi.map IM.pi)) next).1 (pageP p room en last (rowD Zg (Zi.map IM.pi)) next).2.1 (pageP p room en last (rowD Zg (Zi.map IM.pi)) next).2.2 cnt
/-- What Page keeps. -/
def PgI (w0 w wr : World) (bs : Nat) (pv : Value) (p : List C) (cnt room : Int) (R : List PD × Nat × Bool) (base : Nat) (vL : Value) (L : List DM) (ov : Value) (i : Nat) : Prop :=
  ∃ (O : List DM) (nk : Nat), pageL p room ((L.drop i).map DM.pd) nk (O.map DM.pd) = R ∧ SplR w0 wr bs pv p nk 2 cnt ∧ wr.ownsRow w.heap.size 53 6 vL L.length (L.flatMap dmC) ∧ (∀ x ∈ L, AttrO w.heap.size wr x.h x.av)
    ∧ wr.ownsRow base 53 6 ov O.length (O.flatMap dmC) ∧ (∀ x ∈ O, x ∈ L) ∧ w.grownBy wr (some bs) ∧ base ≤ wr.heap.size ∧ O.length ≤ i
set_option maxRecDepth 100000 in
set_option maxHeartbeats 8000000 in
theorem page_yes (w0 w : World) (bs : Nat) (pv : Value) (p : List C) (next : Nat) (cnt : Int) (hSp : SplR w0 w bs pv p next 2 cnt) (fr en : Nat) (hi hg : Value) (last : Bool) (room : Int) (items : List IM) (gaps : List (Nat × Nat)) (h1 : ImR w hi items) (h2 : GpR w hg gaps) (hl1 : items.length ≤ 40) (hl2 : gaps.length ≤ 40) (hav : ∀ x ∈ items, x.av.length * 56 ≤ 140737488355328) :
    Calls Tryz.prog 13 #[.pointer (some ⟨bs, 0, none⟩), .int .u64 cnt, .agg #[.int .u64 fr, .int .u64 en, hi, hg, .bool last], .int .i64 room] w
      fun e w' => ∃ v, e = .returned v ∧ Hid (PageO w w' bs pv v p room en last items gaps next cnt) := by
  obtain ⟨hx, hb⟩ := boxes1 w (.cells #[.int .u64 fr, .int .u64 en, hi, hg, .bool last] 34)
  obtain ⟨a1, c1, rfl, _, _⟩ := Row.shape h1.row
  obtain ⟨a2, c2, rfl, _, _⟩ := Row.shape h2
  have hS2 : SpB _ bs pv next 2 cnt := block_later hSp.sp hx
  have HST := Lib.hid (sstate_any _ bs pv next 2 cnt hS2)
  have HROW := Lib.hid (row_any _ fr en _ _ last items gaps (h1.ext hx) (h2.ext hx) hl1 hl2 hav)
  have m3 := cell_of_row _ _ 3 _ _ _ hS2
  have hcc : ((cnt : Int) != cnt) = false := by simp
  have m0 := cell_of_row _ _ 0 _ _ _ hb
  have m1 := cell_of_row _ _ 1 _ _ _ hb
  have m2 := cell_of_row _ _ 2 _ _ _ hb
  have m4 := cell_of_row _ _ 4 _ _ _ hb
  have m3b := cell_of_row _ _ 3 _ _ _ hb
  have HB := Lib.hid hb
  have HX := Lib.hid hx
  have HS := Lib.hid hS2
  have HSP := Lib.hid hSp
  clear hx hb hS2 hSp h1 h2 hav hl1 hl2
  go_enter Tryz.func13, Tryz.ntmps13
  go_upto_region 3 with (go_at_call 22; (with_reducible refine HST.out.mono ?_); rintro e w5 ⟨rfl, rfl⟩)
  generalize w.alloc (.cells #[.int .u64 fr, .int .u64 en, .slice a1 items.length c1, .slice a2 gaps.length c2, .bool last] 34) = wb at *
  go_wp2_with (go_at_call 29; refine HROW.out.mono ?_; rintro e w6 ⟨v24, rfl, h6⟩; obtain ⟨L, Zg, Zi, hZg, hZi, hL, hown, hat, hx6, h80⟩ := h6.out; obtain ⟨aL, cL, rfl, _, _⟩ := own_shape hown)
  clear HROW h6 m0 m1 m2 m3 m4 m3b HST
  have hsp6 : SplR w0 w6 bs pv p next 2 cnt := ⟨block_later HS.out hx6, HSP.out.old, HSP.out.pr, (HSP.out.hx.trans HX.out).trans hx6⟩
  have hxw : Ext w w6 := HX.out.trans hx6
  have hlw : w.heap.size ≤ wb.heap.size := HX.out.size
  have hbk : ∀ k, (Value.slice aL L.length cL).ownBlock = some k → w.heap.size ≤ k ∧ k < w6.heap.size := fun k hk => ⟨Nat.le_trans hlw (hown.lt k hk).1, (hown.lt k hk).2⟩
  have HBP := Lib.hid (block_later HB.out hx6)
  have HBK := Lib.hid hbk
  have HZ := Lib.hid (And.intro hZg (And.intro hZi hL))
  obtain ⟨R, hR⟩ : ∃ R, R = pageL p room (L.map DM.pd) next [] := ⟨_, rfl⟩
  have HR := Lib.hid hR
  have H80 := Lib.hid h80
  have H0 : Hid (PgI w0 w w6 bs pv p cnt room R w6.heap.size (.slice aL L.length cL) L (.slice none 0 0) 0) :=
    ⟨[], next, by rw [List.drop_zero]; exact hR.symm, hsp6, own_low hown hlw, fun x hx => own_low (hat x hx) hlw, own_none _ _ _ _, (fun _ h => by cases h), grown_extJ hxw, Nat.le_refl _, Nat.le_refl _⟩
  have HBS : Hid (bs < wb.heap.size ∧ w.heap.size < w6.heap.size) := ⟨(Array.getElem?_eq_some_iff.1 HS.out).1, Nat.lt_of_lt_of_le (Array.getElem?_eq_some_iff.1 HB.out).1 hx6.size⟩
  clear hsp6 hxw hlw hbk hZg hZi hL hR h80 hown hat hx6 HB HX HS
  go_loopw [9, 26] (fun ov iv wr => ∃ i : Nat, iv = .int .i64 i ∧ i ≤ L.length ∧ Hid (PgI w0 w wr bs pv p cnt room R w6.heap.size (.slice aL L.length cL) L ov i ∧ wr.heap[w.heap.size]? = some (.cells #[.int .u64 fr, .int .u64 en, .slice a1 items.length c1, .slice a2 gaps.length c2, .bool last] 34 (0, 0)))) (fun _ iv _ => L.length - (intOf iv).toNat)
  case atStart => exact ⟨0, rfl, Nat.zero_le _, H0.out, HBP.out⟩
  case round =>
    clear H0 HBP
    obtain ⟨i, rfl, hi, hst⟩ := hrel
    obtain ⟨⟨O, nk, hpl, hsp, hown, hat, hout, hmem, hgr, hbs, hOi⟩, hpg⟩ := hst.out
    obtain ⟨ov, oc, rfl, _, _⟩ := own_shape hout
    clear hst
    have h80 : L.length ≤ 80 := H80.out
    by_cases h : i < L.length
    · have hI : decide ((i : Int) < (L.length : Int)) = true := decide_eq_true (by omega)
      obtain ⟨B, o, rfl, c0, c1, c2, c3, c4, c5⟩ := Row.atD (Row.of_own hown) h
      obtain ⟨d, hd⟩ : ∃ d, d = L[i] := ⟨_, rfl⟩
      rw [← hd] at c0 c1 c2 c3 c4 c5
      have hdm : d ∈ L := by rw [hd]; exact List.getElem_mem h
      have hdr : L.drop i = d :: L.drop (i + 1) := by rw [hd]; exact List.drop_eq_getElem_cons h
      rw [hdr, List.map_cons, pageL] at hpl
      obtain ⟨hx2, hb2⟩ := boxes1 wr (.cells #[.int .u64 d.n, .int .u64 d.t, .string (strOf d.key), .slice d.ha d.av.length d.hc, .int .u64 d.f, .int .u64 d.g] 53)
      have C := Lib.hid (wants_any _ bs pv p nk 2 cnt (block_later hsp.sp hx2) (hsp.pr.ext (hsp.hx.trans hx2)) d ((Row.of_own (hat d hdm)).ext hx2))
      have CBG := Lib.hid (fun W => begins_nat W d)
      have CNM := Lib.hid (fun W => number_nat W d)
      have HB2 := Lib.hid hb2
      have HPL := Lib.hid hpl
      have HSP2 := Lib.hid hsp
      have HO := Lib.hid (And.intro hown (And.intro hat (And.intro hout (And.intro hmem (And.intro hgr (And.intro hbs (And.intro hOi hpg)))))))
      have HX2 := Lib.hid hx2
      have HDM := Lib.hid hdm
      clear hd hdr hpl hsp hown hat hout hmem hgr hbs hpg hx2 hb2 hdm
      obtain ⟨E, hE⟩ : ∃ E, E = wantsB p nk d.pd := ⟨_, rfl⟩
      have HE := Lib.hid hE
      rw [← hE] at C
      clear hE
      cases E with
      | false =>
        go_wp2_with (go_at_call 34; (with_reducible refine C.out.mono ?_); rintro e w3 ⟨rfl, hx3⟩; have HX3 := Lib.hid hx3; clear hx3 c0 c1 c2 c3 c4 c5)
        go_roundw
        case rel =>
          obtain ⟨hown, hat, hout, hmem, hgr, hbs, hOi, hpg⟩ := HO.out
          have hxx := HX2.out.trans HX3.out
          have hpl := HPL.out
          rw [← HE.out, if_neg (by decide)] at hpl
          have hsp := HSP2.out
          exact ⟨i + 1, by go_num, h, ⟨O, nk, hpl, ⟨block_later hsp.sp hxx, hsp.old, hsp.pr, hsp.hx.trans hxx⟩, own_ext hown hxx, fun x hx => own_ext (hat x hx) hxx, own_ext hout hxx, hmem, grown_ext hgr hxx, Nat.le_trans hbs hxx.size, by omega⟩, block_later hpg hxx⟩
        case measure => simp [intOf]; omega
      | true =>
        have hplT : Hid ((if room ≤ ((O.map DM.pd).length : Int) then (O.map DM.pd, d.pd.beg, true) else pageL p room ((L.drop (i + 1)).map DM.pd) (d.pd.num + 1) (O.map DM.pd ++ [d.pd])) = R) := by
          have := HPL.out
          rw [← HE.out, if_pos rfl] at this
          exact this
        have hnum : d.pd.num ≤ 1099511627776 := by
          have := HE.out
          unfold wantsB mayD at this
          have h2 := this.symm
          simp only [Bool.and_eq_true, decide_eq_true_eq] at h2
          exact h2.1.2.2
        clear HPL HE
        rw [List.length_map] at hplT
        by_cases hrm : room ≤ (O.length : Int)
        · have dI : decide (room ≤ (O.length : Int)) = true := decide_eq_true hrm
          have HRR : Hid (R = (O.map DM.pd, d.pd.beg, true)) := by
            have := hplT.out
            rw [if_pos hrm] at this
            exact this.symm
          clear hplT CNM
          go_upto_region 9 with (go_at_call 34; (with_reducible refine C.out.mono ?_); rintro e w3 ⟨rfl, hx3⟩; have HX3 := Lib.hid hx3; clear hx3 c0 c1 c2 c3 c4 c5)
          have hxx := HX2.out.trans HX3.out
          have hsp3 := block_later HSP2.out.sp hxx
          have hb3 := block_later HB2.out HX3.out
          have c0 := cell_of_row _ _ 0 _ _ _ hb3
          have c1 := cell_of_row _ _ 1 _ _ _ hb3
          have c2 := cell_of_row _ _ 2 _ _ _ hb3
          have c3 := cell_of_row _ _ 3 _ _ _ hb3
          have c4 := cell_of_row _ _ 4 _ _ _ hb3
          have c5 := cell_of_row _ _ 5 _ _ _ hb3
          have HSP3 := Lib.hid hsp3
          have HXX := Lib.hid hxx
          clear hsp3 hxx hb3
          obtain ⟨bg, hbg⟩ : ∃ bg, bg = d.pd.beg := ⟨_, rfl⟩
          have HBG := Lib.hid hbg
          rw [← hbg] at CBG
          clear hbg
          go_upto_region 10 with (go_at_call 15; (with_reducible refine (CBG.out _).mono ?_); rintro e w4 ⟨rfl, hx4⟩; have hs4 := block_later HSP3.out hx4; have e1 := cell_of_row _ _ 1 _ _ _ hs4; have e2 := cell_of_row _ _ 2 _ _ _ hs4; have y1 := frozen_of_row _ _ 1 _ _ hs4; have y2 := frozen_of_row _ _ 2 _ _ hs4; have HX4 := Lib.hid hx4; have HS4 := Lib.hid hs4; clear hx4 hs4 c0 c1 c2 c3 c4 c5)
          go_wp2_with fail
          go_ret
          obtain ⟨hown, hat, hout, hmem, hgr, hbs, hOi, hpg⟩ := HO.out
          obtain ⟨hZg, hZi, hL⟩ := HZ.out
          have hx24 := HXX.out.trans HX4.out
          have hpp := pageP_stop (en := en) (last := last) (HR.out.symm.trans HRR.out)
          rw [hL] at hpp
          refine ⟨_, rfl, Zg, Zi, hZg, hZi, ?_⟩
          rw [hpp]
          exact tell_end (Nat.le_of_lt HBS.out.2) (own_ext hout hx24) hmem (fun x hx => own_ext (hat x hx) hx24) HS4.out (grown_ext hgr hx24) (grown_at (grown_setJ _ _ _ _) (grown_setJ _ _ _ _)) (SpB.set1 (SpB.set2 (show SpB w4 bs _ _ _ _ from HS4.out) 1) (bg : Nat)) (congrArg Int.ofNat HBG.out)
        · have dI : decide (room ≤ (O.length : Int)) = false := decide_eq_false hrm
          have HPL : Hid (pageL p room ((L.drop (i + 1)).map DM.pd) (d.pd.num + 1) ((O ++ [d]).map DM.pd) = R) := by
            have := hplT.out
            rw [if_neg hrm] at this
            show _ = _
            rw [List.map_append]
            exact this
          clear hplT CBG
          go_upto_region 11 with (go_at_call 34; (with_reducible refine C.out.mono ?_); rintro e w3 ⟨rfl, hx3⟩; have HX3 := Lib.hid hx3; clear hx3 c0 c1 c2 c3 c4 c5)
          have hxx := HX2.out.trans HX3.out
          have hsp3 := block_later HSP2.out.sp hxx
          have hb3 := block_later HB2.out HX3.out
          have c0 := cell_of_row _ _ 0 _ _ _ hb3
          have c1 := cell_of_row _ _ 1 _ _ _ hb3
          have c2 := cell_of_row _ _ 2 _ _ _ hb3
          have c3 := cell_of_row _ _ 3 _ _ _ hb3
          have c4 := cell_of_row _ _ 4 _ _ _ hb3
          have c5 := cell_of_row _ _ 5 _ _ _ hb3
          have hx4 := (boxes1 w3 (.cells #[.int .u64 d.n, .int .u64 d.t, .string (strOf d.key), .slice d.ha d.av.length d.hc, .int .u64 d.f, .int .u64 d.g] 53)).1
          have HO4 := Lib.hid (own_ext (own_ext HO.out.2.2.1 hxx) hx4)
          have HB4 : Hid (w6.heap.size ≤ (w3.alloc (.cells #[.int .u64 d.n, .int .u64 d.t, .string (strOf d.key), .slice d.ha d.av.length d.hc, .int .u64 d.f, .int .u64 d.g] 53)).heap.size) := Nat.le_trans (Nat.le_trans HO.out.2.2.2.2.2.1 hxx.size) hx4.size
          have HW4 := Lib.hid (Row.of_own (World.ownsRow_lit (base := w3.heap.size) (e := 53) (size := 6) w3 (dmC d).toArray 1 (Nat.le_refl _) (by decide) rfl))
          have hOi2 : O.length ≤ 80 := by have := HO.out.2.2.2.2.2.2.1; omega
          have HXX := Lib.hid (hxx.trans hx4)
          have HSP3 := Lib.hid (block_later hsp3 hx4)
          have HB3 := Lib.hid (block_later hb3 hx4)
          clear hsp3 hxx hb3 hx4
          go_upto_region 12 with (at_builtin; refine wpList_append_row 38 53 (.tmp 47) (.tmp 49) rfl w6.heap.size _ 6 72 Tryz.underlying38 infoDel rfl (by decide) rfl _ O.length (O.flatMap dmC) rfl HO4.out 1 (dmC d) HW4.out (dmC_one d) (by omega) (by unfold maxLen; omega) HB4.out ?_; intro v9 w9 hown9 hg9)
          have hob : ∀ k, (Value.slice ov O.length oc).ownBlock = some k → w6.heap.size ≤ k ∧ k < wr.heap.size := fun k hk => HO.out.2.2.1.lt k hk
          have HOB := Lib.hid hob
          have hb9 := (hg9.block wr.heap.size (Array.getElem?_eq_some_iff.1 HB3.out).1 (fun e => by have := HOB.out _ e.symm; omega)).trans HB3.out
          have hs9 : SpB w9 bs pv nk 2 cnt := (hg9.block bs (Array.getElem?_eq_some_iff.1 HSP3.out).1 (fun e => own_ne HO4.out HSP3.out (by decide) e.symm)).trans HSP3.out
          have c0 := cell_of_row _ _ 0 _ _ _ hb9
          have c1 := cell_of_row _ _ 1 _ _ _ hb9
          have c2 := cell_of_row _ _ 2 _ _ _ hb9
          have c3 := cell_of_row _ _ 3 _ _ _ hb9
          have c4 := cell_of_row _ _ 4 _ _ _ hb9
          have c5 := cell_of_row _ _ 5 _ _ _ hb9
          have HOWN9 := Lib.hid hown9
          have HG9 := Lib.hid hg9
          have HS9 := Lib.hid hs9
          obtain ⟨nm, hnm⟩ : ∃ nm, nm = d.pd.num := ⟨_, rfl⟩
          have HNM := Lib.hid hnm
          rw [← hnm] at CNM hnum
          obtain ⟨nm1, hnm1⟩ : ∃ x : Nat, (x : Int) = (nm : Int) + 1 := ⟨nm + 1, by omega⟩
          have qn : (nm : Int) + 1 = (nm1 : Int) := hnm1.symm
          have HNM1 : Hid (nm1 = nm + 1) := by show _ = _; omega
          have hnm2 : nm1 ≤ 1099511627777 := by omega
          obtain ⟨a9, c9, rfl, _, _⟩ := own_shape hown9
          clear hob hb9 hs9 hown9 hg9 hnm hnm1
          go_wp2_with (go_at_call 16; (with_reducible refine (CNM.out _).mono ?_); rintro e w10 ⟨rfl, hx10⟩; have hs10 := block_later HS9.out hx10; have e1 := cell_of_row _ _ 1 _ _ _ hs10; have y1 := frozen_of_row _ _ 1 _ _ hs10; have HX10 := Lib.hid hx10; have HS10 := Lib.hid hs10; clear hx10 hs10 c0 c1 c2 c3 c4 c5)
          go_roundw
          case rel =>
            obtain ⟨hown, hat, hout, hmem, hgr, hbs, hOi, hpg⟩ := HO.out
            have hx11 := HXX.out
            have HK : ∀ {v : Value} {xs : List Value} {n size base : Nat} {e : TypeId}, w9.ownsRow base e size v n xs → e ≠ 88 → (w10.setCell ⟨bs, 1, none⟩ (.int .u64 (nm1 : Nat))).ownsRow base e size v n xs := fun ho he => own_setJ (own_ext ho HX10.out) HS10.out he 1 _
            have hgr9 := grown_new (grown_ext hgr hx11) HG9.out (fun j hj => by have := HOB.out j hj; have := HBS.out; omega)
            have hgr10 := grown_at (grown_ext hgr9 HX10.out) (grown_setJ w10 bs 1 (.int .u64 (nm1 : Nat)))
            have hpgx := block_later hpg hx11
            have hpg9 := (HG9.out.block w.heap.size (Array.getElem?_eq_some_iff.1 hpgx).1 (fun e => own_ne HO4.out hpgx (by decide) e.symm)).trans hpgx
            have hpg10 := block_later hpg9 HX10.out
            refine ⟨i + 1, by go_num, h, ⟨O ++ [d], nm1, by rw [HNM1.out, HNM.out]; exact HPL.out, ⟨SpB.set1 (show SpB w10 bs _ _ _ _ from HS10.out) (nm1 : Nat), HSP2.out.old, HSP2.out.pr, ?_⟩, ?_, fun x hx => ?_, ?_, fun x hx => ?_, hgr10, ?_, ?_⟩, ?_⟩
            · exact ext_but HSP.out.hx hgr10 HSP.out.old
            · exact HK (own_keep (own_ext hown hx11) HG9.out fun k hk e => by have h1 := HOB.out k e; have h2 := HBK.out k hk; omega) (by decide)
            · exact HK (own_keep (own_ext (hat x hx) hx11) HG9.out (own_apart HO4.out (own_ext (hat x hx) hx11) (by decide))) (by decide)
            · have := HK HOWN9.out (by decide)
              rw [List.length_append, List.length_singleton, List.flatMap_append]
              simpa using this
            · rcases List.mem_append.1 hx with hx | hx
              · exact hmem x hx
              · rw [List.mem_singleton.1 hx]; exact HDM.out
            · rw [World.size_setCell]
              exact Nat.le_trans (Nat.le_trans HB4.out HG9.out.size) HX10.out.size
            · rw [List.length_append, List.length_singleton]; omega
            · exact (setCell_block_far w10 ⟨bs, 1, none⟩ _ w.heap.size (by have := HBS.out; have h1 := (Array.getElem?_eq_some_iff.1 HSP.out.sp).1; show w.heap.size ≠ bs; omega)).trans hpg10
          case measure => simp [intOf]; omega
    · have hI : decide ((i : Int) < (L.length : Int)) = false := decide_eq_false (by omega)
      have hiL : i = L.length := by omega
      subst hiL
      have HSP2 := Lib.hid hsp
      have HO := Lib.hid (And.intro hat (And.intro hout (And.intro hmem (And.intro hgr (And.intro hbs hpg)))))
      have HRR : Hid (R = (O.map DM.pd, nk, false)) := by
        rw [List.drop_length] at hpl
        exact hpl.symm
      clear hpl hsp hown hat hout hmem hgr hbs hpg
      go_upto_region 14 with fail
      refine wp_region_chain 11 [Fact.eq (.pointer (some ⟨bs, 0, none⟩)),
          Fact.eq (.pointer (some ⟨bs, 0, none⟩)),
          Fact.eq (.pointer (some ⟨bs, 0, none⟩)),
          Fact.eq (.pointer (some ⟨bs, 1, none⟩)),
          Fact.eq (.int .u64 (nk : Nat)),
          Fact.eq (.pointer (some ⟨w.heap.size, 1, none⟩)),
          Fact.eq (.int .u64 (en : Nat)),
          Fact.eq (.int .u64 (min (en : Int) 1099511627777)),
          Fact.eq (.int .u64 (max (nk : Int) (min (en : Int) 1099511627777))),
          Fact.eq (.pointer (some ⟨bs, 0, none⟩)),
          Fact.eq (.pointer (some ⟨bs, 1, none⟩))]
        [[], [], [(1, 59)], [(2, 60)], [(3, 61)], [], [(5, 63)], [(6, 64)], [(4, 62), (7, 65)], [(0, 58)], [(9, 67)]]
        [(0, 58), (1, 59), (2, 60), (3, 61), (4, 62), (5, 63), (6, 64), (7, 65), (8, 66), (9, 67), (10, 68)] (by kernel_rfl) (by kernel_rfl) ?_ ?_
      · refine ⟨?_, ?_, ?_, ?_, ?_, ?_, ?_, ?_, ?_, ?_, ?_, trivial⟩
        · intro w1 hx1; change wpList _ _ _ _ _ _; exact ob_move rfl rfl rfl rfl rfl
        · intro w1 hx1; change wpList _ _ _ _ _ _; exact ob_move rfl rfl rfl rfl rfl
        · intro w1 hx1; rintro _ rfl; change wpList _ _ _ _ _ _; go_wp2_with fail; exact ⟨rfl, Ext.refl _, rfl, rfl⟩
        · intro w1 hx1; rintro _ rfl; change wpList _ _ _ _ _ _; go_wp2_with fail; exact ⟨rfl, Ext.refl _, rfl, rfl⟩
        · intro w1 hx1; rintro _ rfl; change wpList _ _ _ _ _ _; have m1 := cell_of_row _ _ 1 _ _ _ (block_later HSP2.out.sp hx1); go_wp2_with fail; exact ⟨rfl, Ext.refl _, rfl, rfl⟩
        · intro w1 hx1; change wpList _ _ _ _ _ _; go_wp2_with fail; exact ⟨rfl, Ext.refl _, rfl, rfl⟩
        · intro w1 hx1; rintro _ rfl; change wpList _ _ _ _ _ _; have m1 := cell_of_row _ _ 1 _ _ _ (block_later HO.out.2.2.2.2.2 hx1); go_wp2_with fail; exact ⟨rfl, Ext.refl _, rfl, rfl⟩
        · intro w1 hx1; rintro _ rfl; change wpList _ _ _ _ _ _; go_wp2_with fail; exact ⟨rfl, Ext.refl _, rfl, rfl⟩
        · intro w1 hx1; rintro _ rfl; rintro _ rfl; change wpList _ _ _ _ _ _; go_wp2_with fail; exact ⟨rfl, Ext.refl _, rfl, rfl⟩
        · intro w1 hx1; rintro _ rfl; change wpList _ _ _ _ _ _; go_wp2_with fail; exact ⟨rfl, Ext.refl _, rfl, rfl⟩
        · intro w1 hx1; rintro _ rfl; change wpList _ _ _ _ _ _; go_wp2_with fail; exact ⟨rfl, Ext.refl _, rfl, rfl⟩
      · intro w1 hx1; rintro _ rfl; rintro _ rfl; rintro _ rfl; rintro _ rfl; rintro _ rfl; rintro _ rfl; rintro _ rfl; rintro _ rfl; rintro _ rfl; rintro _ rfl; rintro _ rfl; refine depsThen_nil ?_; dsimp only; simp only [Act.put, List.setIfInBounds_toArray, List.set_cons_zero, List.set_cons_succ, List.drop_succ_cons, List.drop_zero]
        have hs1 := block_later HSP2.out.sp hx1
        have e1 := cell_of_row _ _ 1 _ _ _ hs1
        have y1 := frozen_of_row _ _ 1 _ _ hs1
        have H1S := Lib.hid (show SpB w1 bs pv nk 2 cnt from hs1)
        have HX1 := Lib.hid hx1
        have hp1 := block_later HO.out.2.2.2.2.2 hx1
        have hp2 := (setCell_block_far w1 ⟨bs, 1, none⟩ (.int .u64 (max (nk : Int) (min (en : Int) 1099511627777))) w.heap.size (by have h1 := (Array.getElem?_eq_some_iff.1 HSP.out.sp).1; show w.heap.size ≠ bs; omega)).trans hp1
        have HS2 := Lib.hid (SpB.set1 H1S.out (max (nk : Int) (min (en : Int) 1099511627777)))
        have HG2 := Lib.hid (grown_setJ w1 bs 1 (.int .u64 (max (nk : Int) (min (en : Int) 1099511627777))))
        clear hs1 hx1 hp1
        go_upto_region 15 with fail
        clear e1 y1
        generalize w1.setCell ⟨bs, 1, none⟩ (.int .u64 (max (nk : Int) (min (en : Int) 1099511627777))) = w2 at *
        have e2 := cell_of_row _ _ 2 _ _ _ HS2.out
        have y2 := frozen_of_row _ _ 2 _ _ HS2.out
        have hp3 := (setCell_block_far w2 ⟨bs, 2, none⟩ (.int .i64 1) w.heap.size (by have h1 := (Array.getElem?_eq_some_iff.1 HSP.out.sp).1; show w.heap.size ≠ bs; omega)).trans hp2
        have HS3 := Lib.hid (SpB.set2 HS2.out 1)
        have HG3 := Lib.hid (grown_setJ w2 bs 2 (.int .i64 1))
        clear hp2
        go_upto_region 16 with fail
        clear e2 y2
        generalize w2.setCell ⟨bs, 2, none⟩ (.int .i64 1) = w3 at *
        have e2 := cell_of_row _ _ 2 _ _ _ HS3.out
        have y2 := frozen_of_row _ _ 2 _ _ HS3.out
        have m4 := cell_of_row _ _ 4 _ _ _ hp3
        have FIN : Hid (∀ (w' : World) (st' : Int), w3.grownBy w' (some bs) → SpB w' bs pv (max (nk : Int) (min (en : Int) 1099511627777)) st' cnt → st' = (if last then 3 else 1) → ∃ v, Ending.returned (Value.slice ov O.length oc) = .returned v ∧ Hid (PageO w w' bs pv v p room en last items gaps next cnt)) := fun w' st' hg hS hst => by
          obtain ⟨hat, hout, hmem, hgr, hbs, hpg⟩ := HO.out
          obtain ⟨hZg, hZi, hL⟩ := HZ.out
          have hpp := pageP_end (en := en) (last := last) (HR.out.symm.trans HRR.out)
          rw [hL] at hpp
          refine ⟨_, rfl, Zg, Zi, hZg, hZi, ?_⟩
          rw [hpp, ← hst]
          exact tell_end (Nat.le_of_lt HBS.out.2) (own_ext hout HX1.out) hmem (fun x hx => own_ext (hat x hx) HX1.out) H1S.out (grown_ext hgr HX1.out) (grown_at (grown_at HG2.out HG3.out) hg) hS (by simp only []; omega)
        clear hp3 HS2 HG2 H1S HRR HZ HR
        cases last with
        | false =>
          go_wp2_with fail
          go_ret
          exact FIN.out w3 1 ⟨rfl, rfl, rfl, Nat.le_refl _, fun _ _ _ => rfl⟩ HS3.out rfl
        | true =>
          go_wp2_with fail
          go_ret
          exact FIN.out _ 3 (grown_setJ w3 bs 2 (.int .i64 3)) (SpB.set2 HS3.out 3) rfl
end Go.Proofs.YtaklnpjpndkccaaGreat
