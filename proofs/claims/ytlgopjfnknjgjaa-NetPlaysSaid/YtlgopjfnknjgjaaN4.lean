/- out (39): bytes set out. -/
import Derived.Test.YtlgopjfnknjgjaaN3
import Derived.Test.YtlgopjfnknjgjaaK7
import Derived.Test.YtlgopjfnknjgjaaY2
namespace Go.Proofs.Ytlgopjfnknjgjaa
open Go.RowKit Go.MapKept

theorem setCell_blk (w : World) (b i : Nat) (v : Value) (c : Array Value) (t : TypeId) (fr : Nat × Nat) (h : w.heap[b]? = some (.cells c t fr)) : (w.setCell ⟨b, i, none⟩ v).heap[b]? = some (.cells (c.setIfInBounds i v) t fr) := by
  unfold World.setCell
  simp [Array.getElem?_modify, h]
theorem Net2.set {bn bm : Nat} (w : World) (j : Nat) (v : Value) : Net2 bn bm w (w.setCell ⟨bn, j, none⟩ v) := by
  refine ⟨?_, ?_, ?_, ?_, fun k _ hk => setCell_block_far w _ v k (fun e => hk (by rw [e]; exact List.mem_cons_self ..))⟩
  · simp [World.setCell]
  · simp [World.setCell]
  · simp [World.setCell]
  · simp [World.setCell]
theorem Net2.but {bn bm : Nat} {w w' : World} (h : But bm w w') : Net2 bn bm w w' :=
  ⟨h.os, h.tape, h.output, by rw [h.size]; exact Nat.le_refl _, fun k _ hk => h.block k (fun e => hk (by rw [e]; exact List.mem_cons_of_mem _ (List.mem_cons_self ..)))⟩
/-- The net's map where the net's own header has turned. -/
theorem NetR.mapE' {w w' : World} {base bn bm k last : Nat} {L : List PK} (h : NetR w base bn bm k last L) (j : Nat) (v : Value) (e : w' = w.setCell ⟨bn, j, none⟩ v) : MapE w' bm (.int .u64) (L.map pE) := by
  subst e
  obtain ⟨es, clock, h1, rest⟩ := h.map
  exact ⟨es, clock, by rw [setCell_block_far w _ v bm (Ne.symm h.ne)]; exact h1, rest⟩
theorem NetR.add {w w3 w1 w2 : World} {base bn bm k last : Nat} {L : List PK} (h : NetR w base bn bm k last L) (x : PK) (hid : x.id = last + 1) (hin : x.fr < k ∧ x.dst < k) (hlb : x.b.length ≤ 4096) (hlen : L.length < 4096)
    (hw3 : Net2 bn bm w w3) (hn3 : w3.heap[bn]? = some (.cells #[.int .i64 k, .int .u64 (last + 1 : Nat), .map (some bm)] 87 (0, 0))) (hx : Ext w3 w1) (hb : But bm w1 w2)
    (hm : ((∀ p ∈ L.map pE, p.1 ≠ (pE x).1) ∧ MapE w2 bm (.int .u64) (L.map pE ++ [pE x])) ∨ ∃ (j : Nat) (u : Value), (L.map pE)[j]? = some ((pE x).1, u) ∧ MapE w2 bm (.int .u64) ((L.map pE).set j (pE x)))
    (ho : OwnB w1 w3.heap.size x.h x.b) : NetR w2 base bn bm k (last + 1) (L ++ [x]) ∧ Net2 bn bm w w2 := by
  have hne := h.ne
  have h2 : Net2 bn bm w w2 := hw3.trans ((Net2.of hx).trans (Net2.but hb))
  have hno : ∀ p ∈ L.map pE, p.1 ≠ (pE x).1 := fun p hp => by
    obtain ⟨y, hy, rfl⟩ := List.mem_map.1 hp
    refine u64_ne ?_
    have := (h.low y hy).2
    omega
  have hm2 : MapE w2 bm (.int .u64) ((L ++ [x]).map pE) := by
    rcases hm with ⟨_, hm⟩ | ⟨j, u, hj, _⟩
    · rw [List.map_append]; exact hm
    · exact absurd rfl (hno ((pE x).1, u) (List.mem_of_getElem? hj))
  have hbase : base ≤ w3.heap.size := Nat.le_trans h.lo.1 (Nat.le_of_lt (Nat.lt_of_lt_of_le h.bnlt hw3.size))
  have hox : OwnB w2 base x.h x.b := by
    have h3 : ∀ g, x.h.ownBlock = some g → w3.heap.size ≤ g := own_base ho
    refine own_low (b2 := base) (Net2.row (bn := bn) (bm := bm) (Net2.but hb) ho (fun e => ?_) (fun e => ?_)) hbase
    · have := h3 _ e; have := hw3.size; have := h.bnlt; omega
    · have := h3 _ e; have := hw3.size; have := h.bmlt; omega
  refine ⟨⟨?_, hm2, h.lo, ?_, ?_, ?_, ?_, ?_, h.max.1, ?_, ?_⟩, h2⟩
  · rw [hb.block bn hne]; exact block_later hn3 hx
  · rw [List.pairwise_append]
    refine ⟨h.rise, List.pairwise_singleton _ _, fun a ha b hb' => ?_⟩
    rw [List.mem_singleton] at hb'
    subst hb'
    have := (h.low a ha).2
    omega
  · intro y hy
    rcases List.mem_append.1 hy with hy | hy
    · have := h.low y hy; omega
    · rw [List.mem_singleton] at hy; subst hy; omega
  · intro y hy
    rcases List.mem_append.1 hy with hy | hy
    · exact h.row h2 (h.own y hy) (by decide)
    · rw [List.mem_singleton] at hy; subst hy; exact hox
  · rw [List.pairwise_append]
    refine ⟨h.apart, List.pairwise_singleton _ _, fun a ha b hb' => ?_⟩
    rw [List.mem_singleton] at hb'
    subst hb'
    intro g hg hg2
    have h4 := ((h.own a ha).lt g hg).2
    have h5 := own_base ho g hg2
    have := hw3.size
    omega
  · intro y hy
    rcases List.mem_append.1 hy with hy | hy
    · exact h.inn y hy
    · rw [List.mem_singleton] at hy; subst hy; exact hin
  · rw [List.length_append, List.length_singleton]; omega
  · intro y hy
    rcases List.mem_append.1 hy with hy | hy
    · exact h.max.2.2 y hy
    · rw [List.mem_singleton] at hy; subst hy; exact hlb

def Fact.ownB (b : Nat) (l : List UInt8) : Fact := ⟨fun v w => OwnB w b v l, fun _ _ _ hx h => own_ext h hx⟩
def Fact.pk (b : Nat) (id fr dst : Nat) (l : List UInt8) : Fact := ⟨fun v w => ∃ a n c, v = .agg #[.int .u64 id, .int .i64 fr, .int .i64 dst, .slice a n c] ∧ OwnB w b (.slice a n c) l, fun _ _ _ hx h => by
  obtain ⟨a, n, c, e, ho⟩ := h
  exact ⟨a, n, c, e, own_ext ho hx⟩⟩

set_option maxRecDepth 100000 in
set_option maxHeartbeats 2000000 in
theorem out_full (w : World) (base bn bm k last : Nat) (L : List PK) (h : NetR w base bn bm k last L) (p q vb : Value) (hf : 4096 ≤ L.length) : Calls Try.prog 39 #[.pointer (some ⟨bn, 0, none⟩), p, q, vb] w fun e w' => e = .returned (.tuple #[.int .u64 0, .int .i64 7]) ∧ Ext w w' := by
  obtain ⟨c0, c1, c2⟩ := h.cell
  have HM := Lib.hid h.map
  have hl : (L.map pE).length = L.length := List.length_map ..
  have HL := Lib.hid hl
  clear h hl c0 c1
  generalize L.length = n at *
  have h1 : decide (4096 ≤ (n : Int)) = true := decide_eq_true (by omega)
  go_enter Try.func39, Try.ntmps39
  go_wp2_with (refine wpList_lenE (.tmp 13) 85 rfl rfl Try.underlying85 rfl HM.out HL.out ?_)
  go_ret2
  exact ⟨rfl, Ext.refl w⟩
set_option maxRecDepth 100000 in
set_option maxHeartbeats 4000000 in
theorem out_anyF (w : World) (base bn bm k last : Nat) (L : List PK) (h : NetR w base bn bm k last L) (p q : Nat) (vb : Value) (lb : List UInt8) (hb : Bytes w vb lb) (hbk : ∀ w', Net2 bn bm w w' → Bytes w' vb lb) (hin : p < k ∧ q < k) (hlb : lb.length ≤ 4096) (hf : L.length < 4096) (hlast : last < 1000000000) :
    Calls Try.prog 39 #[.pointer (some ⟨bn, 0, none⟩), .int .i64 p, .int .i64 q, vb] w fun e w' => e = .returned (.tuple #[.int .u64 (last + 1 : Nat), .int .i64 0]) ∧ (∃ hv, NetR w' base bn bm k (last + 1) (L ++ [⟨last + 1, p, q, lb, hv⟩]) ∧ ∀ g, hv.ownBlock = some g → w.heap.size ≤ g) ∧ Net2 bn bm w w' := by
  obtain ⟨c0, c1, c2⟩ := h.cell
  have f1 := h.frees 1
  obtain ⟨ab, nb, cb, rfl⟩ : ∃ a n c, vb = .slice a n c := by obtain ⟨a, c, e, _⟩ := hb.shape; exact ⟨a, _, c, e⟩
  have hl : (L.map pE).length = L.length := List.length_map ..
  have hH := Lib.hid h
  have HB := Lib.hid hb
  have HL := Lib.hid hl
  have HLB := Lib.hid hlb
  have HFL := Lib.hid hf
  have HIN := Lib.hid hin
  obtain ⟨l1, hl1⟩ : ∃ l1, l1 = last + 1 := ⟨_, rfl⟩
  have q1 : (last : Int) + 1 = (l1 : Int) := by omega
  have h1 : decide (4096 ≤ (L.length : Int)) = false := decide_eq_false (by omega)
  have HB3 := Lib.hid (setCell_blk w bn 1 (.int .u64 l1) _ _ _ h.net)
  have HN3 := Lib.hid (Net2.set (bn := bn) (bm := bm) w 1 (.int .u64 l1))
  have HM3 := Lib.hid (h.mapE' 1 (.int .u64 l1) rfl)
  have HBB := Lib.hid (hbk (w.setCell ⟨bn, 1, none⟩ (.int .u64 l1)) (Net2.set w 1 _))
  rw [← hl1]
  have HL1 := Lib.hid hl1
  clear h hb hl c0 hlb hf hin hl1 hbk
  obtain ⟨n, hn⟩ : ∃ n, n = L.length := ⟨_, rfl⟩
  rw [← hn] at h1 HL
  clear hn
  go_enter Try.func39, Try.ntmps39
  go_upto_region 4 with (refine wpList_lenE (.tmp 13) 85 rfl rfl Try.underlying85 rfl hH.out.map HL.out ?_)
  clear c1 c2 f1 h1 q1
  generalize w.setCell ⟨bn, 1, none⟩ (.int .u64 l1) = w3 at *
  have hb3 : w3.heap[bn]? = some (.cells #[.int .i64 k, .int .u64 l1, .map (some bm)] 87 (0, 0)) := HB3.out
  have KB3 := Lib.hid hb3
  have e1 := cell_of_row _ _ 1 _ _ _ hb3
  have e2 := cell_of_row _ _ 2 _ _ _ hb3
  clear hb3 HB3
  refine wp_region_chain 18 [Fact.eq (.pointer (some ⟨bn, 0, none⟩)),
      Fact.eq (.pointer (some ⟨bn, 0, none⟩)),
      Fact.eq (.pointer (some ⟨bn, 2, none⟩)),
      Fact.eq (.map (some bm)),
      Fact.eq (.pointer (some ⟨bn, 0, none⟩)),
      Fact.eq (.pointer (some ⟨bn, 0, none⟩)),
      Fact.eq (.pointer (some ⟨bn, 1, none⟩)),
      Fact.eq (.int .u64 l1),
      Fact.eq (.pointer (some ⟨bn, 0, none⟩)),
      Fact.eq (.pointer (some ⟨bn, 0, none⟩)),
      Fact.eq (.pointer (some ⟨bn, 1, none⟩)),
      Fact.eq (.int .u64 l1),
      Fact.eq (.int .i64 p),
      Fact.eq (.int .i64 q),
      Fact.eq (.agg #[.int .u64 l1, .int .i64 p, .int .i64 q]),
      Fact.eq (.slice ab nb cb),
      Fact.ownB w3.heap.size lb,
      Fact.pk w3.heap.size l1 p q lb]
    [[], [(0, 23)], [(1, 24)], [(2, 25)], [], [(4, 27)], [(5, 28)], [(6, 29)], [], [(8, 31)], [(9, 32)], [(10, 33)], [], [], [(11, 34), (12, 35), (13, 36)], [], [(15, 38)], [(14, 37), (16, 39)]]
    [(0, 23), (1, 24), (2, 25), (3, 26), (4, 27), (5, 28), (6, 29), (7, 30), (8, 31), (9, 32), (10, 33), (11, 34), (12, 35), (13, 36), (14, 37), (15, 38), (16, 39), (17, 40)] (by kernel_rfl) (by kernel_rfl) ?_ ?_
  · refine ⟨?_, ?_, ?_, ?_, ?_, ?_, ?_, ?_, ?_, ?_, ?_, ?_, ?_, ?_, ?_, ?_, ?_, ?_, trivial⟩
    · intro w1 hx1; change wpList _ _ _ _ _ _; exact ob_move rfl rfl rfl rfl rfl
    · intro w1 hx1; rintro _ rfl; change wpList _ _ _ _ _ _; go_wp2_with fail; exact ⟨rfl, Ext.refl _, rfl, rfl⟩
    · intro w1 hx1; rintro _ rfl; change wpList _ _ _ _ _ _; go_wp2_with fail; exact ⟨rfl, Ext.refl _, rfl, rfl⟩
    · intro w1 hx1; rintro _ rfl; change wpList _ _ _ _ _ _; have m0 := hx1.cell e2; go_wp2_with fail; exact ⟨rfl, Ext.refl _, rfl, rfl⟩
    · intro w1 hx1; change wpList _ _ _ _ _ _; exact ob_move rfl rfl rfl rfl rfl
    · intro w1 hx1; rintro _ rfl; change wpList _ _ _ _ _ _; go_wp2_with fail; exact ⟨rfl, Ext.refl _, rfl, rfl⟩
    · intro w1 hx1; rintro _ rfl; change wpList _ _ _ _ _ _; go_wp2_with fail; exact ⟨rfl, Ext.refl _, rfl, rfl⟩
    · intro w1 hx1; rintro _ rfl; change wpList _ _ _ _ _ _; have m0 := hx1.cell e1; go_wp2_with fail; exact ⟨rfl, Ext.refl _, rfl, rfl⟩
    · intro w1 hx1; change wpList _ _ _ _ _ _; exact ob_move rfl rfl rfl rfl rfl
    · intro w1 hx1; rintro _ rfl; change wpList _ _ _ _ _ _; go_wp2_with fail; exact ⟨rfl, Ext.refl _, rfl, rfl⟩
    · intro w1 hx1; rintro _ rfl; change wpList _ _ _ _ _ _; go_wp2_with fail; exact ⟨rfl, Ext.refl _, rfl, rfl⟩
    · intro w1 hx1; rintro _ rfl; change wpList _ _ _ _ _ _; have m0 := hx1.cell e1; go_wp2_with fail; exact ⟨rfl, Ext.refl _, rfl, rfl⟩
    · intro w1 hx1; change wpList _ _ _ _ _ _; exact ob_move rfl rfl rfl rfl rfl
    · intro w1 hx1; change wpList _ _ _ _ _ _; exact ob_move rfl rfl rfl rfl rfl
    · intro w1 hx1; rintro _ rfl; rintro _ rfl; rintro _ rfl; change wpList _ _ _ _ _ _; go_wp2_with fail; exact ⟨rfl, Ext.refl _, rfl, rfl⟩
    · intro w1 hx1; change wpList _ _ _ _ _ _; exact ob_move rfl rfl rfl rfl rfl
    · intro w1 hx1; rintro _ rfl; change wpList _ _ _ _ _ _; go_wp2_with fail; refine (clone_any w1 _ lb (Bytes.ext HBB.out hx1) (Nat.le_trans HLB.out (by decide))).mono ?_; rintro e w2 ⟨v', rfl, ho, hx2⟩; have ho2 := own_low ho hx1.size; go_wp2_with fail; exact ⟨rfl, hx2, rfl, ho2⟩
    · intro w1 hx1; rintro _ rfl; intro v39 h39; change wpList _ _ _ _ _ _; obtain ⟨a9, n9, c9, rfl⟩ : ∃ a n c, v39 = .slice a n c := (by obtain ⟨a, c, e⟩ := OwnB.slice h39; exact ⟨a, _, c, e⟩); go_wp2_with fail; exact ⟨rfl, Ext.refl _, rfl, _, _, _, rfl, h39⟩
  · intro w1 hx1; rintro _ rfl; rintro _ rfl; rintro _ rfl; rintro _ rfl; rintro _ rfl; rintro _ rfl; rintro _ rfl; rintro _ rfl; rintro _ rfl; rintro _ rfl; rintro _ rfl; rintro _ rfl; rintro _ rfl; rintro _ rfl; rintro _ rfl; rintro _ rfl; intro v39 h39; intro v40 h40; refine depsThen_nil ?_; dsimp only; simp only [Act.put, List.setIfInBounds_toArray, List.set_cons_zero, List.set_cons_succ, List.drop_succ_cons, List.drop_zero]
    replace h39 : (Fact.ownB w3.heap.size lb).p v39 w1 := h39
    replace h40 : (Fact.pk w3.heap.size l1 p q lb).p v40 w1 := h40
    obtain ⟨a4, n4, c4, rfl, ho4⟩ : ∃ a n c, v40 = .agg #[.int .u64 l1, .int .i64 p, .int .i64 q, .slice a n c] ∧ OwnB w1 w3.heap.size (.slice a n c) lb := h40
    have g1 := hx1.cell e1
    have HO4 := Lib.hid ho4
    have HM1 := Lib.hid (HM3.out.ext hx1)
    have HX1 := Lib.hid hx1
    clear h39 ho4 e1 e2 hx1 HM3
    go_wp2_with (refine wpList_put rfl (.tmp 26) (.tmp 30) (.tmp 40) 85 rfl Try.underlying85 Try.underlying28 rfl HM1.out rfl ?_; intro w2 hbut hput; have HBUT := Lib.hid hbut; have HPUT := Lib.hid hput; have g2 : w2.cell? ⟨bn, 1, none⟩ = some (.int .u64 l1) := (World.cell?_of_block (hbut.block bn hH.out.ne)).trans g1; clear hbut hput g1)
    go_ret2
    have hl1 := HL1.out
    have hadd := hH.out.add ⟨l1, p, q, lb, .slice a4 n4 c4⟩ hl1 HIN.out HLB.out HFL.out HN3.out (by rw [← hl1]; exact KB3.out) HX1.out HBUT.out HPUT.out HO4.out
    rw [← hl1] at hadd
    exact ⟨rfl, ⟨_, hadd.1, fun g hg => Nat.le_trans HN3.out.size (own_base HO4.out g hg)⟩, hadd.2⟩
theorem out_any (w : World) (base bn bm k last : Nat) (L : List PK) (h : NetR w base bn bm k last L) (p q : Nat) (vb : Value) (lb : List UInt8) (hb : Bytes w vb lb) (hbk : ∀ w', Net2 bn bm w w' → Bytes w' vb lb) (hin : p < k ∧ q < k) (hlb : lb.length ≤ 4096) (hf : L.length < 4096) (hlast : last < 1000000000) :
    Calls Try.prog 39 #[.pointer (some ⟨bn, 0, none⟩), .int .i64 p, .int .i64 q, vb] w fun e w' => e = .returned (.tuple #[.int .u64 (last + 1 : Nat), .int .i64 0]) ∧ (∃ hv, NetR w' base bn bm k (last + 1) (L ++ [⟨last + 1, p, q, lb, hv⟩])) ∧ Net2 bn bm w w' :=
  (out_anyF w base bn bm k last L h p q vb lb hb hbk hin hlb hf hlast).mono fun _ _ ⟨h1, ⟨hv, h2, _⟩, h3⟩ => ⟨h1, ⟨hv, h2⟩, h3⟩
end Go.Proofs.Ytlgopjfnknjgjaa
