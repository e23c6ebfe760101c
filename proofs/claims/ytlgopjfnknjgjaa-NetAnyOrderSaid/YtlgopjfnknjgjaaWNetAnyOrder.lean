/- NetAnyOrder, walked. Its second half's round stands twice: printed by tools/mkany.py. -/
import Derived.Test.YtlgopjfnknjgjaaN18
import Derived.Deep.CutBlock
namespace Go.Proofs.Ytlgopjfnknjgjaa
open Go.RowKit Go.MapKept

theorem Pre.net {w w' : World} {base bn bm k last : Nat} {L : List PK} (h : NetR w base bn bm k last L) (h2 : Net2 bn bm w w') {b2 size g n c : Nat} {e : TypeId} {xs : List Value} (ho : Pre w b2 e size g n c xs) (he : e ≠ 87) : Pre w' b2 e size g n c xs := by
  obtain ⟨hnc, n', cap', ys, q1, q2, ho, q3⟩ := ho
  exact ⟨hnc, n', cap', ys, q1, q2, h.row h2 ho he, q3⟩

theorem Net2.cell2 {bn bm : Nat} {w w' : World} (h : Net2 bn bm w w') {p : Addr} {u : Value} (hc : w.cell? p = some u) (h1 : p.block ≠ bn) (h2 : p.block ≠ bm) : w'.cell? p = some u :=
  (World.cell?_of_block (h.keep (World.block_lt_of_cell? w _ hc) h1 h2)).trans hc

set_option maxRecDepth 100000 in
set_option maxHeartbeats 0 in
theorem netAny_walk (w : World) (va vo : Value) (l : List SZ) (lo : List Nat) (hi : BbR w va l) (ho : OrdR w vo lo) : Calls Try.prog 9 #[va, vo] w fun e w' => e = .returned (.bool true) ∧ Ext w w' := by
  obtain ⟨a, cap, rfl, hc, hmx⟩ := Row.shape hi.row
  obtain ⟨a2, cap2, rfl, hc2, hmx2⟩ := Row.shape ho.row
  unfold maxLen at hmx hmx2
  have HI := Lib.hid hi
  have HR := Lib.hid ho
  clear hi ho
  generalize hN : l.length = N at *
  generalize hM : lo.length = M at *
  have HN := Lib.hid hN
  have HM := Lib.hid hM
  clear hN hM
  go_enter Try.func9, Try.ntmps9
  go_upto_region 4 with (go_at_call 21; (with_reducible refine (new_lit w 2 2 rfl (by decide) (by decide)).mono ?_); rintro e w1 ⟨rfl, hn, hx⟩; have HN1 := Lib.hid hn; have HX1 := Lib.hid hx; clear hn hx)
  have HBN0 : Hid (w.heap.size ≤ w.heap.size + 1) := Nat.le_succ _
  generalize hbn : w.heap.size + 1 = bn at HN1 HBN0 ⊢
  clear hbn
  obtain ⟨bm, hbm⟩ : ∃ bm, bm = w.heap.size := ⟨_, rfl⟩
  have HNA : Hid (NetR w1 w.heap.size bn bm 2 0 []) := by rw [hbm]; exact HN1.out
  clear hbm HN1 HBN0
  have HS0 : Hid (AnyS w w1 w.heap.size bn bm 0 (.slice none 0 0) (.slice none 0 0) [] []) :=
    ⟨⟨HNA.out, List.Perm.refl _, (fun _ h => by cases h), HX1.out, Nat.le_refl _⟩, own_none _ _ _ _, own_none _ _ _ _⟩
  clear HNA HX1
  go_wp2_with fail
  go_loopw [7, 8, 9] (fun iv sv i wr => ∃ k : Nat, k ≤ N ∧ k ≤ 40 ∧ i = .int .i64 k ∧ Hid (∃ L Z last, AnyS w wr w.heap.size bn bm last iv sv L Z ∧ Z.length ≤ k ∧ last ≤ k)) (fun _ _ i _ => N - (intOf i).toNat)
  case atStart => exact ⟨0, Nat.zero_le _, Nat.zero_le _, rfl, [], [], 0, HS0.out, Nat.le_refl _, Nat.le_refl _⟩
  case round =>
    clear HS0
    obtain ⟨k, hk, hk80, rfl, hst⟩ := hrel
    by_cases hlt : k < N ∧ k < 40
    · as_aux_lemma =>
      obtain ⟨hlt, hlt80⟩ := hlt
      have hI : decide ((k : Int) < (N : Int)) = true := decide_eq_true (by omega)
      have hI2 : decide ((k : Int) < 40) = true := decide_eq_true (by omega)
      have hkN : (k : Int) < (N : Int) := by omega
      obtain ⟨L, Z, last, hw, hzl, hll⟩ := hst.out
      have hkl : k < l.length := by rw [HN.out]; exact hlt
      have hrw : Row wr 1 (.slice a N cap) N (l.map SZ.h) := by have h := HI.out.row; rw [HN.out] at h; exact h.ext hw.c.ext
      have hrz : Row w 1 (.slice a N cap) N (l.map SZ.h) := by have h := HI.out.row; rw [HN.out] at h; exact h
      obtain ⟨B, o, rfl⟩ := Row.base hrw (by omega) (by decide)
      obtain ⟨⟨ah, ch, eh⟩, hbx⟩ := HI.out.hs _ (List.getElem_mem hkl)
      have hj : (l.map SZ.h)[k]? = some l[k].h := by rw [List.getElem?_map, List.getElem?_eq_getElem hkl]; rfl
      have f0 := Row.cellAt hrw hj (by omega)
      have hB : B < w.heap.size := World.block_lt_of_cell? w _ (Row.cellAt hrz hj (by omega))
      rw [eh] at f0 hbx
      have HBX := Lib.hid hbx
      clear hj hrw hrz hbx eh
      generalize l[k] = x at *
      clear hkl
      obtain ⟨a5, c5, e5, _, _⟩ := own_shape hw.ids
      obtain ⟨a6, c6, e6, _, _⟩ := own_shape hw.sent
      subst e5
      subst e6
      have HW := Lib.hid hw
      have hz39 : Z.length ≤ 39 := by omega
      have hlen : L.length = Z.length := hw.c.len
      obtain ⟨F, hF⟩ : ∃ F : Nat, (F : Int) = (k : Int) % 2 := ⟨((k : Int) % 2).toNat, by omega⟩
      obtain ⟨T, hT⟩ : ∃ T : Nat, (T : Int) = 1 - (F : Int) := ⟨(1 - (F : Int)).toNat, by omega⟩
      have e1 : bits .and .i64 (k : Int) 1 = (F : Int) := by rw [and1, hF]
      have e2 : (1 : Int) - (F : Int) = (T : Int) := hT.symm
      have HFT : Hid (F ≠ T) := by show F ≠ T; omega
      have HF2 : Hid (F < 2 ∧ T < 2) := by show F < 2 ∧ T < 2; omega
      have HL : Hid (L.length < 4096) := by show L.length < 4096; omega
      have HLA : Hid (last < 1000000000) := by show last < 1000000000; omega
      have hlow := Lib.hid hw.c.low
      have HZK := Lib.hid hzl
      have HLK := Lib.hid hll
      clear hF hT hst hw hlen hzl hll
      by_cases hlb : 4096 < x.b.length
      · as_aux_lemma =>
        go_wp2_with (go_at_call 22; (with_reducible refine (send_long wr _ _ _ _ _ _ HW.out.c.net F T _ _ _ HF2.out HFT.out hlb).mono ?_); rintro e w3 ⟨rfl, hx⟩; have HW3 := Lib.hid (HW.out.ext' hx); clear hx f0)
        go_roundw
        case rel => exact ⟨k + 1, hlt, by omega, by go_num, L, Z, last, HW3.out, Nat.le_succ_of_le HZK.out, Nat.le_succ_of_le HLK.out⟩
        case measure => simp [intOf]; omega
      · as_aux_lemma =>
        have HLB : Hid (x.b.length ≤ 4096) := Nat.le_of_not_lt hlb
        have HOLD := Lib.hid (bytes_old HBX.out hlow.out.1 hlow.out.2)
        have HBW := Lib.hid (Bytes.ext HBX.out HW.out.c.ext)
        obtain ⟨l1, hl1⟩ : ∃ l1, l1 = last + 1 := ⟨_, rfl⟩
        have HL1 := Lib.hid hl1
        have HB := Lib.hid hB
        clear hl1 hlb hB
        go_upto_region 11 with (go_at_call 22; (with_reducible refine (send_any wr _ _ _ _ _ _ HW.out.c.net F T _ x.b HBW.out HOLD.out HF2.out HFT.out HLB.out HL.out HLA.out).mono ?_); rw [← HL1.out]; rintro e w3 ⟨rfl, ⟨hv, hn⟩, h2⟩; have HN3 := Lib.hid hn; have H23 := Lib.hid h2; clear hn h2)
        have HO3 := Lib.hid (HW.out.out HN3.out H23.out)
        have hx3 : Ext w w3 := HO3.out.ext
        have hkl : k < N := hlt
        have f3 : w3.cell? ⟨B, o + k, none⟩ = some (.slice ah x.b.length ch) := H23.out.cell2 f0 (by have h1 := HB.out; have h2 := hlow.out.1; show B ≠ bn; omega) (by have h1 := HB.out; have h2 := hlow.out.2; show B ≠ bm; omega)
        have HAP : Hid (∀ q, (Value.slice a5 Z.length c5).ownBlock = some q → (Value.slice a6 Z.length c6).ownBlock ≠ some q) := own_apart HO3.out.sent HO3.out.ids (by decide)
        have HLS : Hid (∀ g, (Value.slice a6 Z.length c6).ownBlock = some g → g < w3.heap.size) := fun g h => (HO3.out.sent.lt g h).2
        have HLI : Hid (∀ g, (Value.slice a5 Z.length c5).ownBlock = some g → g < w3.heap.size) := fun g h => (HO3.out.ids.lt g h).2
        have HLA : Hid (∀ g, (Value.slice a5 Z.length c5).ownBlock = some g → g < w3.heap.size) := HLI
        have HLB : Hid (∀ g, (Value.slice a6 Z.length c6).ownBlock = some g → g < w3.heap.size) := HLS
        have HNB : Hid (some B ∉ [none, none, none, (Value.slice a5 Z.length c5).ownBlock, none, none, none, none, none, none]) := fun h => by
          simp only [List.mem_cons, List.not_mem_nil, or_false, reduceCtorEq, false_or] at h
          have h1 := HB.out
          have h2 := own_base HO3.out.ids B h.symm
          omega
        have hb5 : (Z.length + 1) * 8 ≤ 140737488355328 := by omega
        have hb6 : (Z.length + 1) * 24 ≤ 140737488355328 := by omega
        have hb7 : Z.length + 1 ≤ maxLen := by unfold maxLen; omega
        have HWE : Hid (w.heap.size ≤ w3.heap.size) := hx3.size
        clear f0 hx3
        refine Rr.wp_region_rows_chain 10 [none, none, none, (Value.slice a5 Z.length c5).ownBlock, none, none, none, none, none, none] [Rr.FactB.eq (.slice a5 Z.length c5),
            Rr.FactB.eq (.int .u64 l1),
            Rr.FactB.later w3.heap.size 1 1 [.int .u64 l1],
            Rr.FactB.own w.heap.size 28 1 (Z.length + 1) (Z.map zI ++ [.int .u64 l1]) (Value.slice a6 Z.length c6).ownBlock,
            Rr.FactB.eq (.slice a6 Z.length c6),
            Rr.FactB.eq (.slice (some ⟨B, o, none⟩) N cap),
            Rr.FactB.eq (.int .i64 k),
            Rr.FactB.eq (.pointer (some ⟨B, o + k, none⟩)),
            Rr.FactB.eq (.slice ah x.b.length ch),
            Rr.FactB.later w3.heap.size 1 1 [.slice ah x.b.length ch]]
          [Rr.FactB.any, Rr.FactB.any, Rr.FactB.any, (Rr.FactB.own w.heap.size 28 1 Z.length (Z.map zI) (Value.slice a6 Z.length c6).ownBlock).at (.slice a5 Z.length c5), Rr.FactB.any, Rr.FactB.any, Rr.FactB.any, Rr.FactB.any, Rr.FactB.any, Rr.FactB.any, (Rr.FactB.own w.heap.size 52 1 Z.length (Z.map SZ.h) (Value.slice a5 Z.length c5).ownBlock).at (.slice a6 Z.length c6), Rr.FactB.any, Rr.FactB.any]
          [[], [], [(1, 51)], [(0, 50), (2, 52)], [], [], [], [(5, 55), (6, 56)], [(7, 57)], [(8, 58)]]
          [(0, 50), (1, 51), (2, 52), (3, 53), (4, 54), (5, 55), (6, 56), (7, 57), (8, 58), (9, 59)] (by kernel_rfl) (by kernel_rfl) ?_ ?_ ?_ ?_ ?_
        · refine ⟨?_, ?_, ?_, ?_, ?_, ?_, ?_, ?_, ?_, ?_, trivial⟩
          · exact fun _ _ h => h
          · exact fun _ _ h => h
          · change ∀ row ∈ ([none, none, none, (Value.slice a5 Z.length c5).ownBlock, none, none, none, none, none, none] : List (Option Nat)), ¬ (Rr.FactB.later w3.heap.size 1 1 [.int .u64 l1]).bad row; exact (List.forall_mem_cons.2 ⟨Rr.later_none, (List.forall_mem_cons.2 ⟨Rr.later_none, (List.forall_mem_cons.2 ⟨Rr.later_none, (List.forall_mem_cons.2 ⟨(Rr.later_row (by first | exact HLA.out | exact HLB.out)), (List.forall_mem_cons.2 ⟨Rr.later_none, (List.forall_mem_cons.2 ⟨Rr.later_none, (List.forall_mem_cons.2 ⟨Rr.later_none, (List.forall_mem_cons.2 ⟨Rr.later_none, (List.forall_mem_cons.2 ⟨Rr.later_none, (List.forall_mem_cons.2 ⟨Rr.later_none, (fun _ h => absurd h List.not_mem_nil)⟩)⟩)⟩)⟩)⟩)⟩)⟩)⟩)⟩)⟩)
          · change ∀ row ∈ ([none, none, none, none, none, none, none, none, none, none] : List (Option Nat)), ¬ (Rr.FactB.own w.heap.size 28 1 (Z.length + 1) (Z.map zI ++ [.int .u64 l1]) (Value.slice a6 Z.length c6).ownBlock).bad row; exact (List.forall_mem_cons.2 ⟨Rr.own_none', (List.forall_mem_cons.2 ⟨Rr.own_none', (List.forall_mem_cons.2 ⟨Rr.own_none', (List.forall_mem_cons.2 ⟨Rr.own_none', (List.forall_mem_cons.2 ⟨Rr.own_none', (List.forall_mem_cons.2 ⟨Rr.own_none', (List.forall_mem_cons.2 ⟨Rr.own_none', (List.forall_mem_cons.2 ⟨Rr.own_none', (List.forall_mem_cons.2 ⟨Rr.own_none', (List.forall_mem_cons.2 ⟨Rr.own_none', (fun _ h => absurd h List.not_mem_nil)⟩)⟩)⟩)⟩)⟩)⟩)⟩)⟩)⟩)⟩)
          · exact fun _ _ h => h
          · exact fun _ _ h => h
          · exact fun _ _ h => h
          · exact fun _ _ h => h
          · exact fun _ _ h => h
          · change ∀ row ∈ ([none, none, none, none, (Value.slice a5 Z.length c5).ownBlock, none, none, none, none, none] : List (Option Nat)), ¬ (Rr.FactB.later w3.heap.size 1 1 [.slice ah x.b.length ch]).bad row; exact (List.forall_mem_cons.2 ⟨Rr.later_none, (List.forall_mem_cons.2 ⟨Rr.later_none, (List.forall_mem_cons.2 ⟨Rr.later_none, (List.forall_mem_cons.2 ⟨Rr.later_none, (List.forall_mem_cons.2 ⟨(Rr.later_row (by first | exact HLA.out | exact HLB.out)), (List.forall_mem_cons.2 ⟨Rr.later_none, (List.forall_mem_cons.2 ⟨Rr.later_none, (List.forall_mem_cons.2 ⟨Rr.later_none, (List.forall_mem_cons.2 ⟨Rr.later_none, (List.forall_mem_cons.2 ⟨Rr.later_none, (fun _ h => absurd h List.not_mem_nil)⟩)⟩)⟩)⟩)⟩)⟩)⟩)⟩)⟩)⟩)
        · refine ⟨?_, ?_, ?_, ?_, ?_, ?_, ?_, ?_, ?_, ?_, ?_, ?_, ?_, trivial⟩
          · exact fun _ _ h => h
          · exact fun _ _ h => h
          · exact fun _ _ h => h
          · change ∀ row ∈ ([none, none, none, none, none, none, none, none, none, none] : List (Option Nat)), ¬ ((Rr.FactB.own w.heap.size 28 1 Z.length (Z.map zI) (Value.slice a6 Z.length c6).ownBlock).at (.slice a5 Z.length c5)).bad row; exact (List.forall_mem_cons.2 ⟨(Rr.at_calm Rr.own_none'), (List.forall_mem_cons.2 ⟨(Rr.at_calm Rr.own_none'), (List.forall_mem_cons.2 ⟨(Rr.at_calm Rr.own_none'), (List.forall_mem_cons.2 ⟨(Rr.at_calm Rr.own_none'), (List.forall_mem_cons.2 ⟨(Rr.at_calm Rr.own_none'), (List.forall_mem_cons.2 ⟨(Rr.at_calm Rr.own_none'), (List.forall_mem_cons.2 ⟨(Rr.at_calm Rr.own_none'), (List.forall_mem_cons.2 ⟨(Rr.at_calm Rr.own_none'), (List.forall_mem_cons.2 ⟨(Rr.at_calm Rr.own_none'), (List.forall_mem_cons.2 ⟨(Rr.at_calm Rr.own_none'), (fun _ h => absurd h List.not_mem_nil)⟩)⟩)⟩)⟩)⟩)⟩)⟩)⟩)⟩)⟩)
          · exact fun _ _ h => h
          · exact fun _ _ h => h
          · exact fun _ _ h => h
          · exact fun _ _ h => h
          · exact fun _ _ h => h
          · exact fun _ _ h => h
          · change ∀ row ∈ ([none, none, none, none, (Value.slice a5 Z.length c5).ownBlock, none, none, none, none, none, none] : List (Option Nat)), ¬ ((Rr.FactB.own w.heap.size 52 1 Z.length (Z.map SZ.h) (Value.slice a5 Z.length c5).ownBlock).at (.slice a6 Z.length c6)).bad row; exact (List.forall_mem_cons.2 ⟨(Rr.at_calm Rr.own_none'), (List.forall_mem_cons.2 ⟨(Rr.at_calm Rr.own_none'), (List.forall_mem_cons.2 ⟨(Rr.at_calm Rr.own_none'), (List.forall_mem_cons.2 ⟨(Rr.at_calm Rr.own_none'), (List.forall_mem_cons.2 ⟨(Rr.at_calm Rr.own_other), (List.forall_mem_cons.2 ⟨(Rr.at_calm Rr.own_none'), (List.forall_mem_cons.2 ⟨(Rr.at_calm Rr.own_none'), (List.forall_mem_cons.2 ⟨(Rr.at_calm Rr.own_none'), (List.forall_mem_cons.2 ⟨(Rr.at_calm Rr.own_none'), (List.forall_mem_cons.2 ⟨(Rr.at_calm Rr.own_none'), (List.forall_mem_cons.2 ⟨(Rr.at_calm Rr.own_none'), (fun _ h => absurd h List.not_mem_nil)⟩)⟩)⟩)⟩)⟩)⟩)⟩)⟩)⟩)⟩)⟩)
          · exact fun _ _ h => h
          · exact fun _ _ h => h
        · intro f hf; simp only [List.mem_cons, List.not_mem_nil, or_false] at hf; rcases hf with rfl | rfl | rfl | rfl | rfl | rfl | rfl | rfl | rfl | rfl | rfl | rfl | rfl
          · exact True.intro
          · exact True.intro
          · exact True.intro
          · exact ⟨own_ext HO3.out.ids ((Ext.refl _).drew), fun g h => HAP.out g h⟩
          · exact True.intro
          · exact True.intro
          · exact True.intro
          · exact True.intro
          · exact True.intro
          · exact True.intro
          · exact ⟨own_ext HO3.out.sent ((Ext.refl _).drew), fun g h h' => HAP.out g h' h⟩
          · exact True.intro
          · exact True.intro
        · refine ⟨?_, ?_, ?_, ?_, ?_, ?_, ?_, ?_, ?_, ?_, trivial⟩
          · intro w1 hx1 hg1; change wpList _ _ _ _ _ _; refine Rr.lift (fun _ _ h => Rr.grew_of h) ?_; exact ob_move rfl rfl rfl rfl rfl
          · intro w1 hx1 hg1; change wpList _ _ _ _ _ _; refine Rr.lift (fun _ _ h => Rr.grew_of h) ?_; exact ob_move rfl rfl rfl rfl rfl
          · intro w1 hx1 hg1; rintro _ rfl; change wpList _ _ _ _ _ _; refine Rr.lift (fun _ _ h => Rr.grew_of h) ?_; go_wp2_with fail; exact ⟨rfl, (Ext.refl _).alloc _, rfl, one_row w1 _ _, _, _, _, rfl, hx1.size, by rw [World.size_alloc]; exact Nat.lt_succ_self _⟩
          · intro w1 hx1 hg1; rintro _ rfl; intro v52 h52; change wpList _ _ _ _ _ _; refine Rr.wpList_append_rowA 23 28 (.tmp 50) (.tmp 52) rfl w.heap.size _ 1 8 Try.underlying23 info28t rfl (by decide) rfl _ Z.length (Z.map zI) rfl hg1.1 1 [.int .u64 l1] h52.1 (one_int _ _) hb5 hb7 (Nat.le_trans HWE.out hx1.size) ?_; intro v' w2 hown2 hg2 hat; exact wpList_nil ⟨rfl, hg2, rfl, hown2, fun g (hg : v'.ownBlock = some g) => by rcases hat with e | e; (rw [e] at hg; exact HAP.out g hg); (intro h9; rw [e] at hg; cases hg; exact absurd (Nat.lt_of_lt_of_le (HLB.out _ h9) hx1.size) (Nat.lt_irrefl _))⟩
          · intro w1 hx1 hg1; change wpList _ _ _ _ _ _; refine Rr.lift (fun _ _ h => Rr.grew_of h) ?_; exact ob_move rfl rfl rfl rfl rfl
          · intro w1 hx1 hg1; change wpList _ _ _ _ _ _; refine Rr.lift (fun _ _ h => Rr.grew_of h) ?_; exact ob_move rfl rfl rfl rfl rfl
          · intro w1 hx1 hg1; change wpList _ _ _ _ _ _; refine Rr.lift (fun _ _ h => Rr.grew_of h) ?_; exact ob_move rfl rfl rfl rfl rfl
          · intro w1 hx1 hg1; rintro _ rfl; rintro _ rfl; change wpList _ _ _ _ _ _; refine Rr.lift (fun _ _ h => Rr.grew_of h) ?_; go_wp2_with fail; exact ⟨rfl, Ext.refl _, rfl, rfl⟩
          · intro w1 hx1 hg1; rintro _ rfl; change wpList _ _ _ _ _ _; refine Rr.lift (fun _ _ h => Rr.grew_of h) ?_; have d0 := hx1.cell f3 HNB.out; go_wp2_with fail; exact ⟨rfl, Ext.refl _, rfl, rfl⟩
          · intro w1 hx1 hg1; rintro _ rfl; change wpList _ _ _ _ _ _; refine Rr.lift (fun _ _ h => Rr.grew_of h) ?_; go_wp2_with fail; exact ⟨rfl, (Ext.refl _).alloc _, rfl, one_row w1 _ _, _, _, _, rfl, hx1.size, by rw [World.size_alloc]; exact Nat.lt_succ_self _⟩
        · intro w1 hx1; intro hgs; rintro _ rfl; rintro _ rfl; intro v52 h52; intro v53 h53; rintro _ rfl; rintro _ rfl; rintro _ rfl; rintro _ rfl; rintro _ rfl; intro v59 h59; refine depsThen_nil ?_; dsimp only; simp only [Act.put, List.setIfInBounds_toArray, List.set_cons_zero, List.set_cons_succ, List.drop_succ_cons, List.drop_zero]
          replace h52 : (Rr.FactB.later w3.heap.size 1 1 [.int .u64 l1]).p v52 w1 := h52
          replace h53 : (Rr.FactB.own w.heap.size 28 1 (Z.length + 1) (Z.map zI ++ [.int .u64 l1]) (Value.slice a6 Z.length c6).ownBlock).p v53 w1 := h53
          replace h59 : (Rr.FactB.later w3.heap.size 1 1 [.slice ah x.b.length ch]).p v59 w1 := h59
          have g60 : ((Rr.FactB.own w.heap.size 52 1 Z.length (Z.map SZ.h) (Value.slice a5 Z.length c5).ownBlock).at (.slice a6 Z.length c6)).p undef w1 := hgs 10 (by decide) (by show 10 < 13; decide)
          clear hgs
          have k53 : w1.ownsRow w.heap.size 28 1 v53 (Z.length + 1) (Z.map zI ++ [.int .u64 l1]) ∧ ∀ g, v53.ownBlock = some g → (Value.slice a6 Z.length c6).ownBlock ≠ some g := h53
          have k59 : Row w1 1 v59 1 [.slice ah x.b.length ch] := h59.1
          have k60 : w1.ownsRow w.heap.size 52 1 (.slice a6 Z.length c6) Z.length (Z.map SZ.h) := g60.1
          have hg0 : w3.grownBy w1 (Value.slice a5 Z.length c5).ownBlock := ⟨hx1.os, hx1.tape, hx1.output, hx1.size, fun i hi hne => hx1.block i hi (by simp only [List.mem_cons, List.not_mem_nil, or_false, reduceCtorEq, false_or]; exact hne)⟩
          have K53 := Lib.hid k53.1
          have K59 := Lib.hid k59
          have K60 := Lib.hid k60
          have HG0 := Lib.hid hg0
          have HWF : Hid (w.heap.size ≤ w1.heap.size) := Nat.le_trans HWE.out hx1.size
          clear k53 k59 k60 hg0 h53 h52 h59 g60 hx1 f3 HLA HLB HLS HLI HNB HAP
          go_wp2_with (refine Rr.wpList_append_rowA 66 52 (.tmp 54) (.tmp 59) rfl w.heap.size _ 1 24 Try.underlying66 info52t rfl (by decide) rfl _ Z.length (Z.map SZ.h) rfl K60.out 1 [.slice ah x.b.length ch] K59.out (one_slice _ _ _) hb6 hb7 HWF.out ?_; intro vb w2 hown2 hg2 hat; have HO2 := Lib.hid hown2; have HG2 := Lib.hid hg2; clear hown2 hg2 hat)
          go_roundw
          case rel => exact ⟨k + 1, hkl, by omega, by go_num, _, _, _, HO3.out.told ⟨l1, x.b, .slice ah x.b.length ch⟩ HG0.out K53.out HG2.out HO2.out rfl rfl ⟨⟨_, _, rfl⟩, HBX.out⟩, by rw [List.length_append, List.length_singleton]; exact Nat.succ_le_succ HZK.out, by rw [HL1.out]; exact Nat.succ_le_succ HLK.out⟩
          case measure => simp [intOf]; omega
    · as_aux_lemma =>
      obtain ⟨L, Z, last, hw, hzl, hll⟩ := hst.out
      have hz40 : Z.length ≤ 40 := by omega
      have hW0 := hw.done
      have HW0 := Lib.hid hW0
      obtain ⟨a5, c5, e5, _, _⟩ := own_shape hw.ids
      obtain ⟨a6, c6, e6, _, _⟩ := own_shape hw.sent
      subst e5
      subst e6
      clear hst hw hzl hll hW0
      go_upto_region 7 with fail
      go_cut [31] from 24 to 30 (fun v wx => v = .bool false ∧ wr = wx)
      case first => as_aux_lemma =>
        by_cases hkN : k < N
        · have hI : decide ((k : Int) < (N : Int)) = true := decide_eq_true (by omega)
          have hI2 : decide ((k : Int) < 40) = false := decide_eq_false (by omega)
          go_wp2_with fail
          go_meet
          exact ⟨rfl, rfl⟩
        · have hI : decide ((k : Int) < (N : Int)) = false := decide_eq_false (by omega)
          go_wp2_with fail
          go_meet
          exact ⟨rfl, rfl⟩
      case rest =>
        obtain ⟨rfl, rfl⟩ := hcut
        go_wp2_with fail
        go_loopw [7, 8, 12] (fun iv sv i wr => ∃ (L : List PK) (Z : List SZ) (last j : Nat), i = .int .i64 j ∧ j + Z.length ≤ 40 ∧ (∃ a c, iv = .slice a Z.length c) ∧ (∃ a c, sv = .slice a Z.length c) ∧ Hid (AnyW w wr w.heap.size bn bm last iv sv L Z)) (fun iv _ _ _ => lenV iv)
        case atStart => exact ⟨L, Z, last, 0, rfl, by omega, ⟨_, _, rfl⟩, ⟨_, _, rfl⟩, HW0.out⟩
        case round =>
          clear HW0 hz40
          obtain ⟨L, Z, last, j, rfl, hjz, ⟨a5, c5, rfl⟩, ⟨a6, c6, rfl⟩, HW⟩ := hrel
          by_cases hz : 0 < Z.length
          · have hz1 : decide ((0 : Int) < (Z.length : Int)) = true := decide_eq_true (by omega)
            have hz2 : decide (0 < Z.length) = true := decide_eq_true hz
            have hz3 : ¬ (Z.length : Int) = 0 := by omega
            obtain ⟨g1, c1, e1, hp1⟩ := HW.out.ids.some hz
            obtain ⟨g2, c2, e2, hp2⟩ := HW.out.sent.some hz
            cases e1
            cases e2
            have HP1 := Lib.hid hp1
            have HP2 := Lib.hid hp2
            clear hp1 hp2
            by_cases hjm : j < M
            · as_aux_lemma =>
              have hJ : decide ((j : Int) < (M : Int)) = true := decide_eq_true (by omega)
              have hjM : (j : Int) < (M : Int) := by omega
              have hjl : j < lo.length := by rw [HM.out]; exact hjm
              have hrw : Row wr 1 (.slice a2 M cap2) M (lo.map fun n => Value.int .u16 (n : Nat)) := by have h := HR.out.row; rw [HM.out] at h; exact h.ext HW.out.c.ext
              obtain ⟨B2, o2, rfl⟩ := Row.base hrw (by omega) (by decide)
              have hju : (lo.map fun n => Value.int .u16 (n : Nat))[j]? = some (.int .u16 (lo[j] : Nat)) := by rw [List.getElem?_map, List.getElem?_eq_getElem hjl]; rfl
              have f0 := Row.cellAt hrw hju (by omega)
              have hx16 := HR.out.lt _ (List.getElem_mem hjl)
              clear hju hrw
              generalize lo[j] = x at *
              clear hjl
              obtain ⟨kk, hkk⟩ : ∃ kk, kk = x % Z.length := ⟨_, rfl⟩
              have hkz : kk < Z.length := by rw [hkk]; exact Nat.mod_lt _ hz
              have htm : Int.tmod (x : Int) (Z.length : Int) = (kk : Int) := by rw [hkk]; exact (Int.ofNat_tmod x Z.length).symm
              clear hkk
              go_upto_region 18 with fail
              clear f0 htm hx16
              have hk1 : kk + 1 ≤ Z.length := hkz
              obtain ⟨L1, y, L2, hL, hyi, hyb, hperm⟩ := HW.out.c.pick hkz
              obtain ⟨⟨ah, ch, eh⟩, hbz⟩ := HW.out.c.ok _ (List.getElem_mem hkz)
              have hI1 : (Z.map zI)[kk]? = some (.int .u64 (y.id : Nat)) := by rw [List.getElem?_map, List.getElem?_eq_getElem hkz, Option.map_some, zI, hyi]
              have hS1 : (Z.map SZ.h)[kk]? = some (.slice ah y.b.length ch) := by rw [List.getElem?_map, List.getElem?_eq_getElem hkz, Option.map_some, eh, hyb]
              rw [eh, ← hyb] at hbz
              have f1 := Row.cellAt HP1.out.row hI1 hz
              rw [Nat.zero_add] at f1
              subst hL
              have HBZ := Lib.hid hbz
              have HPM := Lib.hid hperm
              have HS1 := Lib.hid hS1
              have hlow := Lib.hid HW.out.c.low
              have hkN : (kk : Int) < (Z.length : Int) := by omega
              clear hbz hperm hI1 hS1 hyi hyb eh
              go_upto_region 19 with (go_at_call 23; (with_reducible refine (dlA wr _ _ _ _ _ y.id L1 L2 _ _ y HW.out.c.net rfl rfl rfl).mono ?_); rintro e w3 ⟨ay, cy, rfl, hn, h2, ho⟩; have HN3 := Lib.hid hn; have H23 := Lib.hid h2; have HO3 := Lib.hid ho; clear hn h2 ho)
              have HX3 := Lib.hid (H23.out.ext HW.out.c.ext hlow.out.1 hlow.out.2)
              have HQ1 := Lib.hid (Pre.net HW.out.c.net H23.out HP1.out (by decide))
              have HQ2 := Lib.hid (Pre.net HW.out.c.net H23.out HP2.out (by decide))
              have f2 := Row.cellAt HQ2.out.row HS1.out hz
              rw [Nat.zero_add] at f2
              clear f1 HP1 HP2
              refine wp_region_facts [Fact.eq (.int .i64 0),
                  Fact.eq (.bool false),
                  Fact.eq (.bool false),
                  Fact.eq (.slice ay y.b.length cy),
                  Fact.eq (.string (strOf y.b)),
                  Fact.eq (.slice (some ⟨g2, 0, none⟩) Z.length c6),
                  Fact.eq (.int .i64 kk),
                  Fact.eq (.pointer (some ⟨g2, kk, none⟩)),
                  Fact.eq (.slice ah y.b.length ch),
                  Fact.eq (.string (strOf y.b)),
                  Fact.eq (.bool false),
                  Fact.eq (.bool false)]
                [[], [(0, 89)], [(1, 90)], [(2, 91)], [(3, 92), (2, 91)], [(2, 91)], [(2, 91)], [(5, 94), (6, 95), (2, 91)], [(7, 96), (2, 91)], [(8, 97), (2, 91)], [(4, 93), (9, 98), (2, 91)], [(2, 91), (10, 99)]]
                [(0, 89), (1, 90), (2, 91), (3, 92), (4, 93), (5, 94), (6, 95), (7, 96), (8, 97), (9, 98), (10, 99), (11, 100)] (by kernel_rfl) (by kernel_rfl) ?_ ?_
              · refine ⟨?_, ?_, ?_, ?_, ?_, ?_, ?_, ?_, ?_, ?_, ?_, ?_, trivial⟩
                · intro w1 hx1; change wpList _ _ _ _ _ _; exact ob_move rfl rfl rfl rfl rfl
                · intro w1 hx1; rintro _ rfl; change wpList _ _ _ _ _ _; go_wp2_with fail; exact ⟨rfl, Ext.refl _, rfl, rfl⟩
                · intro w1 hx1; rintro _ rfl; change wpList _ _ _ _ _ _; exact ob_move rfl rfl rfl rfl rfl
                · intro w1 hx1; rintro _ rfl; change wpList _ _ _ _ _ _; exact ob_move rfl rfl rfl rfl rfl
                · intro w1 hx1; rintro _ rfl; rintro _ rfl; change wpList _ _ _ _ _ _; have e9 : (convert 52 9 (.slice ay y.b.length cy)).run Try.prog w1 = .ok (.string (strOf y.b)) w1 := run_bytes_str _ 52 9 5 Try.underlying52 Try.underlying5 Try.underlying9 (Bytes.ext HO3.out hx1); go_wp2_with fail; exact ⟨rfl, Ext.refl _, rfl, rfl⟩
                · intro w1 hx1; rintro _ rfl; change wpList _ _ _ _ _ _; exact ob_move rfl rfl rfl rfl rfl
                · intro w1 hx1; rintro _ rfl; change wpList _ _ _ _ _ _; exact ob_move rfl rfl rfl rfl rfl
                · intro w1 hx1; rintro _ rfl; rintro _ rfl; rintro _ rfl; change wpList _ _ _ _ _ _; go_wp2_with fail; exact ⟨rfl, Ext.refl _, rfl, rfl⟩
                · intro w1 hx1; rintro _ rfl; rintro _ rfl; change wpList _ _ _ _ _ _; have m0 := hx1.cell f2; go_wp2_with fail; exact ⟨rfl, Ext.refl _, rfl, rfl⟩
                · intro w1 hx1; rintro _ rfl; rintro _ rfl; change wpList _ _ _ _ _ _; have e9 : (convert 52 9 (.slice ah y.b.length ch)).run Try.prog w1 = .ok (.string (strOf y.b)) w1 := run_bytes_str _ 52 9 5 Try.underlying52 Try.underlying5 Try.underlying9 (Bytes.ext HBZ.out (HX3.out.trans hx1)); go_wp2_with fail; exact ⟨rfl, Ext.refl _, rfl, rfl⟩
                · intro w1 hx1; rintro _ rfl; rintro _ rfl; rintro _ rfl; change wpList _ _ _ _ _ _; go_wp2_with fail; exact ⟨rfl, Ext.refl _, rfl, rfl⟩
                · intro w1 hx1; rintro _ rfl; rintro _ rfl; change wpList _ _ _ _ _ _; exact ob_pick rfl rfl rfl rfl rfl rfl
              · intro w1 hx1; rintro _ rfl; rintro _ rfl; rintro _ rfl; rintro _ rfl; rintro _ rfl; rintro _ rfl; rintro _ rfl; rintro _ rfl; rintro _ rfl; rintro _ rfl; rintro _ rfl; rintro _ rfl; refine depsThen_nil ?_; dsimp only; simp only [Act.put, List.setIfInBounds_toArray, List.set_cons_zero, List.set_cons_succ]
                replace HQ1 := Lib.hid (HQ1.out.ext hx1)
                replace HQ2 := Lib.hid (HQ2.out.ext hx1)
                replace HN3 := Lib.hid (HN3.out.ext hx1)
                replace H23 := Lib.hid (H23.out.trans (Net2.of hx1))
                replace HX3 := Lib.hid (HX3.out.trans hx1)
                clear hx1 f2 HO3
                go_upto_region 21 with fail
                obtain ⟨k1, hk1e⟩ : ∃ k1, k1 = kk + 1 := ⟨_, rfl⟩
                have q7 : (kk : Int) + 1 = (k1 : Int) := by omega
                have q8 : (k1 : Int) = (kk : Int) + 1 := by omega
                have HK1 := Lib.hid q8
                have hc1 : kk ≤ c5 := Nat.le_trans (Nat.le_of_lt hkz) HQ1.out.nc
                have hc2 : kk ≤ c6 := Nat.le_trans (Nat.le_of_lt hkz) HQ2.out.nc
                have hb1 : Z.length * 8 ≤ 140737488355328 := by omega
                have hb2 : Z.length * 24 ≤ 140737488355328 := by omega
                have HB3 : Hid (w.heap.size ≤ w1.heap.size) := HX3.out.size
                clear hk1e q8
                refine wp_region_facts [Fact.eq (.slice (some ⟨g1, 0, none⟩) Z.length c5),
                    Fact.eq (.int .i64 kk),
                    Fact.eq (.int .i64 kk),
                    Fact.eq (.slice (some ⟨g1, 0, none⟩) kk kk),
                    Fact.eq (.slice (some ⟨g1, 0, none⟩) Z.length c5),
                    Fact.eq (.int .i64 kk),
                    Fact.eq (.int .i64 k1),
                    Fact.eq (.slice (some (srcAt g1 c5 kk 1)) (Z.length - (kk + 1)) (c5 - (kk + 1))),
                    Fact.preV w.heap.size 28 1 (Z.length - 1) ((Z.map zI).take (kk * 1) ++ (Z.map zI).drop ((kk + 1) * 1)),
                    Fact.eq (.slice (some ⟨g2, 0, none⟩) Z.length c6),
                    Fact.eq (.int .i64 kk),
                    Fact.eq (.int .i64 kk),
                    Fact.eq (.slice (some ⟨g2, 0, none⟩) kk kk),
                    Fact.eq (.slice (some ⟨g2, 0, none⟩) Z.length c6),
                    Fact.eq (.int .i64 kk),
                    Fact.eq (.int .i64 k1),
                    Fact.eq (.slice (some (srcAt g2 c6 kk 1)) (Z.length - (kk + 1)) (c6 - (kk + 1))),
                    Fact.preV w.heap.size 52 1 (Z.length - 1) ((Z.map SZ.h).take (kk * 1) ++ (Z.map SZ.h).drop ((kk + 1) * 1)),
                    Fact.preV w.heap.size 28 1 (Z.length - 1) ((Z.map zI).take (kk * 1) ++ (Z.map zI).drop ((kk + 1) * 1)),
                    Fact.preV w.heap.size 52 1 (Z.length - 1) ((Z.map SZ.h).take (kk * 1) ++ (Z.map SZ.h).drop ((kk + 1) * 1))]
                  [[], [], [], [(0, 101), (1, 102), (2, 103)], [], [], [(5, 106)], [(4, 105), (6, 107)], [(3, 104), (7, 108)], [], [], [], [(9, 110), (10, 111), (11, 112)], [], [], [(14, 115)], [(13, 114), (15, 116)], [(12, 113), (16, 117)], [(8, 109)], [(17, 118)]]
                  [(0, 101), (1, 102), (2, 103), (3, 104), (4, 105), (5, 106), (6, 107), (7, 108), (8, 109), (9, 110), (10, 111), (11, 112), (12, 113), (13, 114), (14, 115), (15, 116), (16, 117), (17, 118), (18, 7), (19, 8)] (by kernel_rfl) (by kernel_rfl) ?_ ?_
                · refine ⟨?_, ?_, ?_, ?_, ?_, ?_, ?_, ?_, ?_, ?_, ?_, ?_, ?_, ?_, ?_, ?_, ?_, ?_, ?_, ?_, trivial⟩
                  · intro w1 hx1; change wpList _ _ _ _ _ _; exact ob_move rfl rfl rfl rfl rfl
                  · intro w1 hx1; change wpList _ _ _ _ _ _; exact ob_move rfl rfl rfl rfl rfl
                  · intro w1 hx1; change wpList _ _ _ _ _ _; exact ob_move rfl rfl rfl rfl rfl
                  · intro w1 hx1; rintro _ rfl; rintro _ rfl; rintro _ rfl; change wpList _ _ _ _ _ _; refine wpList_headAt 23 28 (.tmp 101) (.tmp 102) (.tmp 103) 1 g1 Z.length c5 kk rfl Try.underlying23 size28t rfl rfl rfl rfl hc1 ?_; exact wpList_nil ⟨rfl, Ext.refl _, rfl, rfl⟩
                  · intro w1 hx1; change wpList _ _ _ _ _ _; exact ob_move rfl rfl rfl rfl rfl
                  · intro w1 hx1; change wpList _ _ _ _ _ _; exact ob_move rfl rfl rfl rfl rfl
                  · intro w1 hx1; rintro _ rfl; change wpList _ _ _ _ _ _; go_wp2_with fail; exact ⟨rfl, Ext.refl _, rfl, rfl⟩
                  · intro w1 hx1; rintro _ rfl; rintro _ rfl; change wpList _ _ _ _ _ _; refine wpList_tailAt 23 28 (.tmp 105) (.tmp 107) 1 g1 Z.length c5 kk rfl Try.underlying23 size28t rfl rfl rfl HK1.out hk1 ?_; exact wpList_nil ⟨rfl, Ext.refl _, rfl, rfl⟩
                  · intro w1 hx1; rintro _ rfl; rintro _ rfl; change wpList _ _ _ _ _ _; refine wpList_without 23 28 (.tmp 104) (.tmp 108) rfl w.heap.size _ 1 8 Try.underlying23 info28t rfl (by decide) rfl g1 Z.length c5 kk (Z.map zI) rfl rfl (HQ1.out.ext hx1) hkz hb1 (Nat.le_trans HB3.out hx1.size) ?_; intro v' w2 hx2 hp; exact wpList_nil ⟨rfl, hx2, rfl, hp⟩
                  · intro w1 hx1; change wpList _ _ _ _ _ _; exact ob_move rfl rfl rfl rfl rfl
                  · intro w1 hx1; change wpList _ _ _ _ _ _; exact ob_move rfl rfl rfl rfl rfl
                  · intro w1 hx1; change wpList _ _ _ _ _ _; exact ob_move rfl rfl rfl rfl rfl
                  · intro w1 hx1; rintro _ rfl; rintro _ rfl; rintro _ rfl; change wpList _ _ _ _ _ _; refine wpList_headAt 66 52 (.tmp 110) (.tmp 111) (.tmp 112) 1 g2 Z.length c6 kk rfl Try.underlying66 size52t rfl rfl rfl rfl hc2 ?_; exact wpList_nil ⟨rfl, Ext.refl _, rfl, rfl⟩
                  · intro w1 hx1; change wpList _ _ _ _ _ _; exact ob_move rfl rfl rfl rfl rfl
                  · intro w1 hx1; change wpList _ _ _ _ _ _; exact ob_move rfl rfl rfl rfl rfl
                  · intro w1 hx1; rintro _ rfl; change wpList _ _ _ _ _ _; go_wp2_with fail; exact ⟨rfl, Ext.refl _, rfl, rfl⟩
                  · intro w1 hx1; rintro _ rfl; rintro _ rfl; change wpList _ _ _ _ _ _; refine wpList_tailAt 66 52 (.tmp 114) (.tmp 116) 1 g2 Z.length c6 kk rfl Try.underlying66 size52t rfl rfl rfl HK1.out hk1 ?_; exact wpList_nil ⟨rfl, Ext.refl _, rfl, rfl⟩
                  · intro w1 hx1; rintro _ rfl; rintro _ rfl; change wpList _ _ _ _ _ _; refine wpList_without 66 52 (.tmp 113) (.tmp 117) rfl w.heap.size _ 1 24 Try.underlying66 info52t rfl (by decide) rfl g2 Z.length c6 kk (Z.map SZ.h) rfl rfl (HQ2.out.ext hx1) hkz hb2 (Nat.le_trans HB3.out hx1.size) ?_; intro v' w2 hx2 hp; exact wpList_nil ⟨rfl, hx2, rfl, hp⟩
                  · intro w1 hx1; intro v109 h109; change wpList _ _ _ _ _ _; exact ob_assign rfl rfl rfl rfl h109
                  · intro w1 hx1; intro v118 h118; change wpList _ _ _ _ _ _; exact ob_assign rfl rfl rfl rfl h118
                · intro w1 hx1; rintro _ rfl; rintro _ rfl; rintro _ rfl; rintro _ rfl; rintro _ rfl; rintro _ rfl; rintro _ rfl; rintro _ rfl; intro v109 h109; rintro _ rfl; rintro _ rfl; rintro _ rfl; rintro _ rfl; rintro _ rfl; rintro _ rfl; rintro _ rfl; rintro _ rfl; intro v118 h118; intro v7 h7; intro v8 h8; refine depsThen_nil ?_; dsimp only; simp only [Act.put, List.setIfInBounds_toArray, List.set_cons_zero, List.set_cons_succ]
                  replace h109 : (Fact.preV w.heap.size 28 1 (Z.length - 1) ((Z.map zI).take (kk * 1) ++ (Z.map zI).drop ((kk + 1) * 1))).p v109 w1 := h109
                  replace h118 : (Fact.preV w.heap.size 52 1 (Z.length - 1) ((Z.map SZ.h).take (kk * 1) ++ (Z.map SZ.h).drop ((kk + 1) * 1))).p v118 w1 := h118
                  replace h7 : (Fact.preV w.heap.size 28 1 (Z.length - 1) ((Z.map zI).take (kk * 1) ++ (Z.map zI).drop ((kk + 1) * 1))).p v7 w1 := h7
                  replace h8 : (Fact.preV w.heap.size 52 1 (Z.length - 1) ((Z.map SZ.h).take (kk * 1) ++ (Z.map SZ.h).drop ((kk + 1) * 1))).p v8 w1 := h8
                  have k7 : PreV w1 w.heap.size 28 1 v7 (Z.length - 1) ((Z.map zI).take (kk * 1) ++ (Z.map zI).drop ((kk + 1) * 1)) := h7
                  have k8 : PreV w1 w.heap.size 52 1 v8 (Z.length - 1) ((Z.map SZ.h).take (kk * 1) ++ (Z.map SZ.h).drop ((kk + 1) * 1)) := h8
                  obtain ⟨hw4, hlz⟩ := HW.out.took hkz HPM.out HN3.out H23.out hx1 k7 k8
                  obtain ⟨a7, c7, e7⟩ := k7.shape
                  obtain ⟨a8, c8, e8⟩ := k8.shape
                  subst e7
                  subst e8
                  have HW4 := Lib.hid hw4
                  have HLZ := Lib.hid hlz
                  clear hw4 hlz k7 k8 h7 h8 h109 h118 hx1 HN3 H23 HX3 HQ1 HQ2 HBZ HPM HS1 HW
                  go_wp2_with fail
                  go_roundw
                  case rel => exact ⟨L1 ++ L2, Z.take kk ++ Z.drop (kk + 1), last, j + 1, by go_num, by rw [HLZ.out]; omega, ⟨a7, c7, by rw [HLZ.out]⟩, ⟨a8, c8, by rw [HLZ.out]⟩, HW4.out⟩
                  case measure => show Z.length - 1 < Z.length; omega
            · as_aux_lemma =>
              have hJ : decide ((j : Int) < (M : Int)) = false := decide_eq_false (by omega)
              obtain ⟨kk, hkk⟩ : ∃ kk : Nat, kk = 0 := ⟨_, rfl⟩
              have hkz : kk < Z.length := by omega
              have hk0 : (Value.int .i64 0) = .int .i64 (kk : Nat) := by rw [hkk]; rfl
              have HK0 := Lib.hid hk0
              clear hkk hk0
              go_upto_region 15 with fail
              go_cut [13] from 66 to 66 (fun v wx => v = .int .i64 (kk : Nat) ∧ wr = wx)
              case first =>
                go_wp2_with fail
                go_meet
                exact ⟨HK0.out, rfl⟩
              case rest =>
                obtain ⟨rfl, rfl⟩ := hcut
                go_upto_region 18 with fail
                have hk1 : kk + 1 ≤ Z.length := hkz
                obtain ⟨L1, y, L2, hL, hyi, hyb, hperm⟩ := HW.out.c.pick hkz
                obtain ⟨⟨ah, ch, eh⟩, hbz⟩ := HW.out.c.ok _ (List.getElem_mem hkz)
                have hI1 : (Z.map zI)[kk]? = some (.int .u64 (y.id : Nat)) := by rw [List.getElem?_map, List.getElem?_eq_getElem hkz, Option.map_some, zI, hyi]
                have hS1 : (Z.map SZ.h)[kk]? = some (.slice ah y.b.length ch) := by rw [List.getElem?_map, List.getElem?_eq_getElem hkz, Option.map_some, eh, hyb]
                rw [eh, ← hyb] at hbz
                have f1 := Row.cellAt HP1.out.row hI1 hz
                rw [Nat.zero_add] at f1
                subst hL
                have HBZ := Lib.hid hbz
                have HPM := Lib.hid hperm
                have HS1 := Lib.hid hS1
                have hlow := Lib.hid HW.out.c.low
                have hkN : (kk : Int) < (Z.length : Int) := by omega
                clear hbz hperm hI1 hS1 hyi hyb eh
                go_upto_region 19 with (go_at_call 23; (with_reducible refine (dlA wr _ _ _ _ _ y.id L1 L2 _ _ y HW.out.c.net rfl rfl rfl).mono ?_); rintro e w3 ⟨ay, cy, rfl, hn, h2, ho⟩; have HN3 := Lib.hid hn; have H23 := Lib.hid h2; have HO3 := Lib.hid ho; clear hn h2 ho)
                have HX3 := Lib.hid (H23.out.ext HW.out.c.ext hlow.out.1 hlow.out.2)
                have HQ1 := Lib.hid (Pre.net HW.out.c.net H23.out HP1.out (by decide))
                have HQ2 := Lib.hid (Pre.net HW.out.c.net H23.out HP2.out (by decide))
                have f2 := Row.cellAt HQ2.out.row HS1.out hz
                rw [Nat.zero_add] at f2
                clear f1 HP1 HP2
                refine wp_region_facts [Fact.eq (.int .i64 0),
                    Fact.eq (.bool false),
                    Fact.eq (.bool false),
                    Fact.eq (.slice ay y.b.length cy),
                    Fact.eq (.string (strOf y.b)),
                    Fact.eq (.slice (some ⟨g2, 0, none⟩) Z.length c6),
                    Fact.eq (.int .i64 kk),
                    Fact.eq (.pointer (some ⟨g2, kk, none⟩)),
                    Fact.eq (.slice ah y.b.length ch),
                    Fact.eq (.string (strOf y.b)),
                    Fact.eq (.bool false),
                    Fact.eq (.bool false)]
                  [[], [(0, 89)], [(1, 90)], [(2, 91)], [(3, 92), (2, 91)], [(2, 91)], [(2, 91)], [(5, 94), (6, 95), (2, 91)], [(7, 96), (2, 91)], [(8, 97), (2, 91)], [(4, 93), (9, 98), (2, 91)], [(2, 91), (10, 99)]]
                  [(0, 89), (1, 90), (2, 91), (3, 92), (4, 93), (5, 94), (6, 95), (7, 96), (8, 97), (9, 98), (10, 99), (11, 100)] (by kernel_rfl) (by kernel_rfl) ?_ ?_
                · refine ⟨?_, ?_, ?_, ?_, ?_, ?_, ?_, ?_, ?_, ?_, ?_, ?_, trivial⟩
                  · intro w1 hx1; change wpList _ _ _ _ _ _; exact ob_move rfl rfl rfl rfl rfl
                  · intro w1 hx1; rintro _ rfl; change wpList _ _ _ _ _ _; go_wp2_with fail; exact ⟨rfl, Ext.refl _, rfl, rfl⟩
                  · intro w1 hx1; rintro _ rfl; change wpList _ _ _ _ _ _; exact ob_move rfl rfl rfl rfl rfl
                  · intro w1 hx1; rintro _ rfl; change wpList _ _ _ _ _ _; exact ob_move rfl rfl rfl rfl rfl
                  · intro w1 hx1; rintro _ rfl; rintro _ rfl; change wpList _ _ _ _ _ _; have e9 : (convert 52 9 (.slice ay y.b.length cy)).run Try.prog w1 = .ok (.string (strOf y.b)) w1 := run_bytes_str _ 52 9 5 Try.underlying52 Try.underlying5 Try.underlying9 (Bytes.ext HO3.out hx1); go_wp2_with fail; exact ⟨rfl, Ext.refl _, rfl, rfl⟩
                  · intro w1 hx1; rintro _ rfl; change wpList _ _ _ _ _ _; exact ob_move rfl rfl rfl rfl rfl
                  · intro w1 hx1; rintro _ rfl; change wpList _ _ _ _ _ _; exact ob_move rfl rfl rfl rfl rfl
                  · intro w1 hx1; rintro _ rfl; rintro _ rfl; rintro _ rfl; change wpList _ _ _ _ _ _; go_wp2_with fail; exact ⟨rfl, Ext.refl _, rfl, rfl⟩
                  · intro w1 hx1; rintro _ rfl; rintro _ rfl; change wpList _ _ _ _ _ _; have m0 := hx1.cell f2; go_wp2_with fail; exact ⟨rfl, Ext.refl _, rfl, rfl⟩
                  · intro w1 hx1; rintro _ rfl; rintro _ rfl; change wpList _ _ _ _ _ _; have e9 : (convert 52 9 (.slice ah y.b.length ch)).run Try.prog w1 = .ok (.string (strOf y.b)) w1 := run_bytes_str _ 52 9 5 Try.underlying52 Try.underlying5 Try.underlying9 (Bytes.ext HBZ.out (HX3.out.trans hx1)); go_wp2_with fail; exact ⟨rfl, Ext.refl _, rfl, rfl⟩
                  · intro w1 hx1; rintro _ rfl; rintro _ rfl; rintro _ rfl; change wpList _ _ _ _ _ _; go_wp2_with fail; exact ⟨rfl, Ext.refl _, rfl, rfl⟩
                  · intro w1 hx1; rintro _ rfl; rintro _ rfl; change wpList _ _ _ _ _ _; exact ob_pick rfl rfl rfl rfl rfl rfl
                · intro w1 hx1; rintro _ rfl; rintro _ rfl; rintro _ rfl; rintro _ rfl; rintro _ rfl; rintro _ rfl; rintro _ rfl; rintro _ rfl; rintro _ rfl; rintro _ rfl; rintro _ rfl; rintro _ rfl; refine depsThen_nil ?_; dsimp only; simp only [Act.put, List.setIfInBounds_toArray, List.set_cons_zero, List.set_cons_succ]
                  replace HQ1 := Lib.hid (HQ1.out.ext hx1)
                  replace HQ2 := Lib.hid (HQ2.out.ext hx1)
                  replace HN3 := Lib.hid (HN3.out.ext hx1)
                  replace H23 := Lib.hid (H23.out.trans (Net2.of hx1))
                  replace HX3 := Lib.hid (HX3.out.trans hx1)
                  clear hx1 f2 HO3
                  go_upto_region 21 with fail
                  obtain ⟨k1, hk1e⟩ : ∃ k1, k1 = kk + 1 := ⟨_, rfl⟩
                  have q7 : (kk : Int) + 1 = (k1 : Int) := by omega
                  have q8 : (k1 : Int) = (kk : Int) + 1 := by omega
                  have HK1 := Lib.hid q8
                  have hc1 : kk ≤ c5 := Nat.le_trans (Nat.le_of_lt hkz) HQ1.out.nc
                  have hc2 : kk ≤ c6 := Nat.le_trans (Nat.le_of_lt hkz) HQ2.out.nc
                  have hb1 : Z.length * 8 ≤ 140737488355328 := by omega
                  have hb2 : Z.length * 24 ≤ 140737488355328 := by omega
                  have HB3 : Hid (w.heap.size ≤ w1.heap.size) := HX3.out.size
                  clear hk1e q8
                  refine wp_region_facts [Fact.eq (.slice (some ⟨g1, 0, none⟩) Z.length c5),
                      Fact.eq (.int .i64 kk),
                      Fact.eq (.int .i64 kk),
                      Fact.eq (.slice (some ⟨g1, 0, none⟩) kk kk),
                      Fact.eq (.slice (some ⟨g1, 0, none⟩) Z.length c5),
                      Fact.eq (.int .i64 kk),
                      Fact.eq (.int .i64 k1),
                      Fact.eq (.slice (some (srcAt g1 c5 kk 1)) (Z.length - (kk + 1)) (c5 - (kk + 1))),
                      Fact.preV w.heap.size 28 1 (Z.length - 1) ((Z.map zI).take (kk * 1) ++ (Z.map zI).drop ((kk + 1) * 1)),
                      Fact.eq (.slice (some ⟨g2, 0, none⟩) Z.length c6),
                      Fact.eq (.int .i64 kk),
                      Fact.eq (.int .i64 kk),
                      Fact.eq (.slice (some ⟨g2, 0, none⟩) kk kk),
                      Fact.eq (.slice (some ⟨g2, 0, none⟩) Z.length c6),
                      Fact.eq (.int .i64 kk),
                      Fact.eq (.int .i64 k1),
                      Fact.eq (.slice (some (srcAt g2 c6 kk 1)) (Z.length - (kk + 1)) (c6 - (kk + 1))),
                      Fact.preV w.heap.size 52 1 (Z.length - 1) ((Z.map SZ.h).take (kk * 1) ++ (Z.map SZ.h).drop ((kk + 1) * 1)),
                      Fact.preV w.heap.size 28 1 (Z.length - 1) ((Z.map zI).take (kk * 1) ++ (Z.map zI).drop ((kk + 1) * 1)),
                      Fact.preV w.heap.size 52 1 (Z.length - 1) ((Z.map SZ.h).take (kk * 1) ++ (Z.map SZ.h).drop ((kk + 1) * 1))]
                    [[], [], [], [(0, 101), (1, 102), (2, 103)], [], [], [(5, 106)], [(4, 105), (6, 107)], [(3, 104), (7, 108)], [], [], [], [(9, 110), (10, 111), (11, 112)], [], [], [(14, 115)], [(13, 114), (15, 116)], [(12, 113), (16, 117)], [(8, 109)], [(17, 118)]]
                    [(0, 101), (1, 102), (2, 103), (3, 104), (4, 105), (5, 106), (6, 107), (7, 108), (8, 109), (9, 110), (10, 111), (11, 112), (12, 113), (13, 114), (14, 115), (15, 116), (16, 117), (17, 118), (18, 7), (19, 8)] (by kernel_rfl) (by kernel_rfl) ?_ ?_
                  · refine ⟨?_, ?_, ?_, ?_, ?_, ?_, ?_, ?_, ?_, ?_, ?_, ?_, ?_, ?_, ?_, ?_, ?_, ?_, ?_, ?_, trivial⟩
                    · intro w1 hx1; change wpList _ _ _ _ _ _; exact ob_move rfl rfl rfl rfl rfl
                    · intro w1 hx1; change wpList _ _ _ _ _ _; exact ob_move rfl rfl rfl rfl rfl
                    · intro w1 hx1; change wpList _ _ _ _ _ _; exact ob_move rfl rfl rfl rfl rfl
                    · intro w1 hx1; rintro _ rfl; rintro _ rfl; rintro _ rfl; change wpList _ _ _ _ _ _; refine wpList_headAt 23 28 (.tmp 101) (.tmp 102) (.tmp 103) 1 g1 Z.length c5 kk rfl Try.underlying23 size28t rfl rfl rfl rfl hc1 ?_; exact wpList_nil ⟨rfl, Ext.refl _, rfl, rfl⟩
                    · intro w1 hx1; change wpList _ _ _ _ _ _; exact ob_move rfl rfl rfl rfl rfl
                    · intro w1 hx1; change wpList _ _ _ _ _ _; exact ob_move rfl rfl rfl rfl rfl
                    · intro w1 hx1; rintro _ rfl; change wpList _ _ _ _ _ _; go_wp2_with fail; exact ⟨rfl, Ext.refl _, rfl, rfl⟩
                    · intro w1 hx1; rintro _ rfl; rintro _ rfl; change wpList _ _ _ _ _ _; refine wpList_tailAt 23 28 (.tmp 105) (.tmp 107) 1 g1 Z.length c5 kk rfl Try.underlying23 size28t rfl rfl rfl HK1.out hk1 ?_; exact wpList_nil ⟨rfl, Ext.refl _, rfl, rfl⟩
                    · intro w1 hx1; rintro _ rfl; rintro _ rfl; change wpList _ _ _ _ _ _; refine wpList_without 23 28 (.tmp 104) (.tmp 108) rfl w.heap.size _ 1 8 Try.underlying23 info28t rfl (by decide) rfl g1 Z.length c5 kk (Z.map zI) rfl rfl (HQ1.out.ext hx1) hkz hb1 (Nat.le_trans HB3.out hx1.size) ?_; intro v' w2 hx2 hp; exact wpList_nil ⟨rfl, hx2, rfl, hp⟩
                    · intro w1 hx1; change wpList _ _ _ _ _ _; exact ob_move rfl rfl rfl rfl rfl
                    · intro w1 hx1; change wpList _ _ _ _ _ _; exact ob_move rfl rfl rfl rfl rfl
                    · intro w1 hx1; change wpList _ _ _ _ _ _; exact ob_move rfl rfl rfl rfl rfl
                    · intro w1 hx1; rintro _ rfl; rintro _ rfl; rintro _ rfl; change wpList _ _ _ _ _ _; refine wpList_headAt 66 52 (.tmp 110) (.tmp 111) (.tmp 112) 1 g2 Z.length c6 kk rfl Try.underlying66 size52t rfl rfl rfl rfl hc2 ?_; exact wpList_nil ⟨rfl, Ext.refl _, rfl, rfl⟩
                    · intro w1 hx1; change wpList _ _ _ _ _ _; exact ob_move rfl rfl rfl rfl rfl
                    · intro w1 hx1; change wpList _ _ _ _ _ _; exact ob_move rfl rfl rfl rfl rfl
                    · intro w1 hx1; rintro _ rfl; change wpList _ _ _ _ _ _; go_wp2_with fail; exact ⟨rfl, Ext.refl _, rfl, rfl⟩
                    · intro w1 hx1; rintro _ rfl; rintro _ rfl; change wpList _ _ _ _ _ _; refine wpList_tailAt 66 52 (.tmp 114) (.tmp 116) 1 g2 Z.length c6 kk rfl Try.underlying66 size52t rfl rfl rfl HK1.out hk1 ?_; exact wpList_nil ⟨rfl, Ext.refl _, rfl, rfl⟩
                    · intro w1 hx1; rintro _ rfl; rintro _ rfl; change wpList _ _ _ _ _ _; refine wpList_without 66 52 (.tmp 113) (.tmp 117) rfl w.heap.size _ 1 24 Try.underlying66 info52t rfl (by decide) rfl g2 Z.length c6 kk (Z.map SZ.h) rfl rfl (HQ2.out.ext hx1) hkz hb2 (Nat.le_trans HB3.out hx1.size) ?_; intro v' w2 hx2 hp; exact wpList_nil ⟨rfl, hx2, rfl, hp⟩
                    · intro w1 hx1; intro v109 h109; change wpList _ _ _ _ _ _; exact ob_assign rfl rfl rfl rfl h109
                    · intro w1 hx1; intro v118 h118; change wpList _ _ _ _ _ _; exact ob_assign rfl rfl rfl rfl h118
                  · intro w1 hx1; rintro _ rfl; rintro _ rfl; rintro _ rfl; rintro _ rfl; rintro _ rfl; rintro _ rfl; rintro _ rfl; rintro _ rfl; intro v109 h109; rintro _ rfl; rintro _ rfl; rintro _ rfl; rintro _ rfl; rintro _ rfl; rintro _ rfl; rintro _ rfl; rintro _ rfl; intro v118 h118; intro v7 h7; intro v8 h8; refine depsThen_nil ?_; dsimp only; simp only [Act.put, List.setIfInBounds_toArray, List.set_cons_zero, List.set_cons_succ]
                    replace h109 : (Fact.preV w.heap.size 28 1 (Z.length - 1) ((Z.map zI).take (kk * 1) ++ (Z.map zI).drop ((kk + 1) * 1))).p v109 w1 := h109
                    replace h118 : (Fact.preV w.heap.size 52 1 (Z.length - 1) ((Z.map SZ.h).take (kk * 1) ++ (Z.map SZ.h).drop ((kk + 1) * 1))).p v118 w1 := h118
                    replace h7 : (Fact.preV w.heap.size 28 1 (Z.length - 1) ((Z.map zI).take (kk * 1) ++ (Z.map zI).drop ((kk + 1) * 1))).p v7 w1 := h7
                    replace h8 : (Fact.preV w.heap.size 52 1 (Z.length - 1) ((Z.map SZ.h).take (kk * 1) ++ (Z.map SZ.h).drop ((kk + 1) * 1))).p v8 w1 := h8
                    have k7 : PreV w1 w.heap.size 28 1 v7 (Z.length - 1) ((Z.map zI).take (kk * 1) ++ (Z.map zI).drop ((kk + 1) * 1)) := h7
                    have k8 : PreV w1 w.heap.size 52 1 v8 (Z.length - 1) ((Z.map SZ.h).take (kk * 1) ++ (Z.map SZ.h).drop ((kk + 1) * 1)) := h8
                    obtain ⟨hw4, hlz⟩ := HW.out.took hkz HPM.out HN3.out H23.out hx1 k7 k8
                    obtain ⟨a7, c7, e7⟩ := k7.shape
                    obtain ⟨a8, c8, e8⟩ := k8.shape
                    subst e7
                    subst e8
                    have HW4 := Lib.hid hw4
                    have HLZ := Lib.hid hlz
                    clear hw4 hlz k7 k8 h7 h8 h109 h118 hx1 HN3 H23 HX3 HQ1 HQ2 HBZ HPM HS1 HW
                    go_wp2_with fail
                    go_roundw
                    case rel => exact ⟨L1 ++ L2, Z.take kk ++ Z.drop (kk + 1), last, j + 1, by go_num, by rw [HLZ.out]; omega, ⟨a7, c7, by rw [HLZ.out]⟩, ⟨a8, c8, by rw [HLZ.out]⟩, HW4.out⟩
                    case measure => show Z.length - 1 < Z.length; omega
          · as_aux_lemma =>
            have hZ0 : Z.length = 0 := by omega
            have hL0 : L.length = 0 := by rw [HW.out.c.len, hZ0]
            rw [hZ0]
            clear hz hjz
            go_wp2_with (first
              | (go_at_call 26; (with_reducible refine (ways0 wr _ _ _ _ _ _ HW.out.c.net hL0).mono ?_); rintro e w6 ⟨⟨aw, cw, rfl⟩, hx⟩; have HX6 := Lib.hid (HW.out.c.ext.trans hx); clear hx)
              | (go_at_call 27; (with_reducible refine (netwakes_any _).mono ?_); rintro e w9 ⟨rfl, hx⟩; have HX9 := Lib.hid (HX6.out.trans hx); clear hx))
            go_ret
            exact ⟨rfl, HX9.out⟩
end Go.Proofs.Ytlgopjfnknjgjaa
