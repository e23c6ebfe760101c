import Derived.Deep.CutBlock
import Derived.Deep.QuietTactic
import Derived.BigQuiet
import Derived.Test.YtaklnpjpndkccaaGreatPk8
import Derived.Test.YtaklnpjpndkccaaGreatPk9
import Derived.Test.YtaklnpjpndkccaaGreatPk2
import Derived.Test.YtaklnpjpndkccaaGreatPk10
namespace Go.Proofs.YtaklnpjpndkccaaGreat
open Go.RowKit Go.Sort
def kb (d : PD) : Int := d.beg
theorem beg_I (x : PI) : (PD.ofI x).beg = x.n := by
 show (if 0 < x.n then x.n else 0) = x.n
 split <;> omega
def layAt : List PD → Nat → Nat
 | [], _ => 0
 | x :: r, b => if x.beg ≤ b then layAt r b + 1 else 0
def layD (l : List PD) (d : PD) : List PD := l.take (layAt l d.beg) ++ d :: l.drop (layAt l d.beg)
theorem layAt_le : ∀ (l : List PD) (b : Nat), layAt l b ≤ l.length
 | [], _ => Nat.le_refl _
 | x :: r, b => by
   have := layAt_le r b
   rw [layAt]
   split <;> simp only [List.length_cons] <;> omega
theorem layD_len (l : List PD) (d : PD) : (layD l d).length = l.length + 1 := by
 have := layAt_le l d.beg
 unfold layD
 rw [List.length_append, List.length_cons, List.length_take, List.length_drop]
 omega
theorem layAt_low : ∀ {l : List PD} {b i : Nat} (h : i < layAt l b), (l[i]'(Nat.lt_of_lt_of_le h (layAt_le l b))).beg ≤ b
 | [], _, _, h => by simp [layAt] at h
 | x :: r, b, i, h => by
   by_cases hx : x.beg ≤ b
   · rw [layAt, if_pos hx] at h
     cases i with
     | zero => exact hx
     | succ j => exact layAt_low (l := r) (by omega)
   · rw [layAt, if_neg hx] at h
     omega
theorem layAt_hi : ∀ {l : List PD} {b : Nat} (h : layAt l b < l.length), b < (l[layAt l b]).beg
 | [], _, h => by simp at h
 | x :: r, b, h => by
   by_cases hx : x.beg ≤ b
   · have e : layAt (x :: r) b = layAt r b + 1 := by rw [layAt, if_pos hx]
     simp only [e, List.getElem_cons_succ]
     rw [e] at h
     exact layAt_hi (by simpa using h)
   · have e : layAt (x :: r) b = 0 := by rw [layAt, if_neg hx]
     simp only [e, List.getElem_cons_zero]
     omega
theorem layD_cons (x : PD) (r : List PD) (d : PD) : layD (x :: r) d = if x.beg ≤ d.beg then x :: layD r d else d :: x :: r := by
 unfold layD
 rw [layAt]
 split
 · rw [List.take_succ_cons, List.drop_succ_cons]; rfl
 · rfl
theorem layD_mem {l : List PD} {d y : PD} (h : y ∈ layD l d) : y = d ∨ y ∈ l := by
 unfold layD at h
 rcases List.mem_append.1 h with h | h
 · exact .inr (List.mem_of_mem_take h)
 · rcases List.mem_cons.1 h with h | h
   · exact .inl h
   · exact .inr (List.mem_of_mem_drop h)
theorem layD_sorted : ∀ {l : List PD}, (l.Pairwise fun a b => kb a ≤ kb b) → ∀ d, (layD l d).Pairwise fun a b => kb a ≤ kb b
 | [], _, d => List.pairwise_singleton _ _
 | x :: r, h, d => by
   have hx := List.pairwise_cons.1 h
   rw [layD_cons]
   split
   · rename_i hb
     refine List.pairwise_cons.2 ⟨fun y hy => ?_, layD_sorted hx.2 d⟩
     rcases layD_mem hy with rfl | hy
     · unfold kb; omega
     · exact hx.1 y hy
   · rename_i hb
     refine List.pairwise_cons.2 ⟨fun y hy => ?_, h⟩
     rcases List.mem_cons.1 hy with rfl | hy
     · unfold kb; omega
     · have := hx.1 y hy
       unfold kb at *
       omega
theorem layD_filter : ∀ {l : List PD}, (l.Pairwise fun a b => kb a ≤ kb b) → ∀ d v, (layD l d).filter (fun x => decide (kb x = v)) = l.filter (fun x => decide (kb x = v)) ++ [d].filter (fun x => decide (kb x = v))
 | [], _, d, v => rfl
 | x :: r, h, d, v => by
   have hx := List.pairwise_cons.1 h
   rw [layD_cons]
   split
   · rw [List.filter_cons, layD_filter hx.2 d v, List.filter_cons (x := x)]
     split <;> rfl
   · rename_i hb
     by_cases hv : kb d = v
     · have : (x :: r).filter (fun x => decide (kb x = v)) = [] := filter_none fun y hy => by
        rcases List.mem_cons.1 hy with rfl | hy
        · unfold kb at *; omega
        · have := hx.1 y hy
          unfold kb at *; omega
       rw [List.filter_cons_of_pos (by simp [hv]), this, List.nil_append, List.filter_cons_of_pos (by simp [hv])]; rfl
     · rw [List.filter_cons_of_neg (by simp [hv]), List.filter_cons_of_neg (l := []) (by simp [hv])]
       exact (List.append_nil _).symm
theorem lays_sorted : ∀ (L acc : List PD), (acc.Pairwise fun a b => kb a ≤ kb b) → (L.foldl layD acc).Pairwise fun a b => kb a ≤ kb b
 | [], _, h => h
 | d :: L, _, h => lays_sorted L _ (layD_sorted h d)
theorem lays_filter : ∀ (L acc : List PD), (acc.Pairwise fun a b => kb a ≤ kb b) → ∀ v, (L.foldl layD acc).filter (fun x => decide (kb x = v)) = acc.filter (fun x => decide (kb x = v)) ++ L.filter (fun x => decide (kb x = v))
 | [], acc, _, v => by simp
 | d :: L, acc, h, v => by
   rw [List.foldl_cons, lays_filter L _ (layD_sorted h d) v, layD_filter h d v, List.append_assoc, ← List.filter_append]; rfl
def rowR (gaps : List (Nat × Nat)) (items : List PI) : List PD := (items.map PD.ofI).foldl layD ((gaps.map PD.ofG).foldl layD [])
theorem rowR_sorted (gaps : List (Nat × Nat)) (items : List PI) : (rowR gaps items).Pairwise fun a b => kb a ≤ kb b := lays_sorted _ _ (lays_sorted _ _ List.Pairwise.nil)
theorem rowR_filter (gaps : List (Nat × Nat)) (items : List PI) (v : Int) : (rowR gaps items).filter (fun x => decide (kb x = v)) = (gaps.map PD.ofG).filter (fun x => decide (kb x = v)) ++ (items.map PD.ofI).filter (fun x => decide (kb x = v)) := by
 unfold rowR
 rw [lays_filter _ _ (lays_sorted _ _ List.Pairwise.nil), lays_filter _ _ List.Pairwise.nil]
 rfl
theorem rowD_mem : ∀ {gs : List (Nat × Nat)} {l : List PI} {d : PD}, d ∈ rowD gs l → (∃ g ∈ gs, d = PD.ofG g) ∨ ∃ x ∈ l, d = PD.ofI x
 | [], l, d, h => by
   rw [rowD] at h
   obtain ⟨x, h1, h2⟩ := List.mem_map.1 h
   exact .inr ⟨x, h1, h2.symm⟩
 | g :: gs, [], d, h => by
   rw [rowD] at h
   rcases List.mem_cons.1 h with rfl | h
   · exact .inl ⟨g, List.mem_cons_self .., rfl⟩
   · rcases rowD_mem h with ⟨x, h1, h2⟩ | ⟨x, h1, _⟩
     · exact .inl ⟨x, List.mem_cons_of_mem _ h1, h2⟩
     · cases h1
 | g :: gs, i :: l, d, h => by
   rw [rowD] at h
   split at h
   · rcases List.mem_cons.1 h with rfl | h
     · exact .inl ⟨g, List.mem_cons_self .., rfl⟩
     · rcases rowD_mem h with ⟨x, h1, h2⟩ | h
       · exact .inl ⟨x, List.mem_cons_of_mem _ h1, h2⟩
       · exact .inr h
   · rcases List.mem_cons.1 h with rfl | h
     · exact .inr ⟨i, List.mem_cons_self .., rfl⟩
     · rcases rowD_mem h with h | ⟨x, h1, h2⟩
       · exact .inl h
       · exact .inr ⟨x, List.mem_cons_of_mem _ h1, h2⟩
termination_by gs l => gs.length + l.length
theorem kG (g : Nat × Nat) : kb (PD.ofG g) = (g.1 : Int) := rfl
theorem kI (x : PI) : kb (PD.ofI x) = (x.n : Int) := by unfold kb; rw [beg_I]
theorem rowD_sorted : ∀ {gs : List (Nat × Nat)} {l : List PI}, (gs.Pairwise fun a b => (a.1 : Int) ≤ b.1) → (l.Pairwise fun a b => (a.n : Int) ≤ b.n) → (rowD gs l).Pairwise fun a b => kb a ≤ kb b
 | [], l, _, h => by
   rw [rowD, List.pairwise_map]
   exact h.imp fun {a b} h => by rw [kI, kI]; exact h
 | g :: gs, [], h, k => by
   have hg := List.pairwise_cons.1 h
   rw [rowD]
   refine List.pairwise_cons.2 ⟨fun y hy => ?_, rowD_sorted hg.2 k⟩
   rcases rowD_mem hy with ⟨x, h1, rfl⟩ | ⟨x, h1, _⟩
   · rw [kG, kG]; exact hg.1 x h1
   · cases h1
 | g :: gs, i :: l, h, k => by
   have hg := List.pairwise_cons.1 h
   have hi := List.pairwise_cons.1 k
   rw [rowD]
   split
   · rename_i hgi
     refine List.pairwise_cons.2 ⟨fun y hy => ?_, rowD_sorted hg.2 k⟩
     rcases rowD_mem hy with ⟨x, h1, rfl⟩ | ⟨x, h1, rfl⟩
     · rw [kG, kG]; exact hg.1 x h1
     · rw [kG, kI]
       rcases List.mem_cons.1 h1 with rfl | h1
       · omega
       · have := hi.1 x h1; omega
   · rename_i hgi
     refine List.pairwise_cons.2 ⟨fun y hy => ?_, rowD_sorted h hi.2⟩
     rcases rowD_mem hy with ⟨x, h1, rfl⟩ | ⟨x, h1, rfl⟩
     · rw [kG, kI]
       rcases List.mem_cons.1 h1 with rfl | h1
       · omega
       · have := hg.1 x h1; omega
     · rw [kI, kI]; exact hi.1 x h1
termination_by gs l => gs.length + l.length
theorem rowD_filter : ∀ {gs : List (Nat × Nat)} {l : List PI}, (gs.Pairwise fun a b => (a.1 : Int) ≤ b.1) → (l.Pairwise fun a b => (a.n : Int) ≤ b.n) → ∀ v, (rowD gs l).filter (fun x => decide (kb x = v)) = (gs.map PD.ofG).filter (fun x => decide (kb x = v)) ++ (l.map PD.ofI).filter (fun x => decide (kb x = v))
 | [], l, _, h, v => by rw [rowD]; rfl
 | g :: gs, [], h, k, v => by
   rw [rowD, List.filter_cons, rowD_filter (List.pairwise_cons.1 h).2 k v, List.map_cons, List.filter_cons (x := PD.ofG g)]
   split <;> rfl
 | g :: gs, i :: l, h, k, v => by
   have hg := List.pairwise_cons.1 h
   have hi := List.pairwise_cons.1 k
   rw [rowD]
   split
   · rw [List.filter_cons, rowD_filter hg.2 k v, List.map_cons (f := PD.ofG), List.filter_cons (x := PD.ofG g)]
     split <;> rfl
   · rename_i hgi
     rw [List.filter_cons, rowD_filter h hi.2 v, List.map_cons (f := PD.ofI), List.filter_cons (x := PD.ofI i)]
     by_cases hv : kb (PD.ofI i) = v
     · have hn : ((g :: gs).map PD.ofG).filter (fun x => decide (kb x = v)) = [] := filter_none fun y hy => by
        obtain ⟨x, h1, rfl⟩ := List.mem_map.1 hy
        rw [kG]
        rw [kI] at hv
        rcases List.mem_cons.1 h1 with rfl | h1
        · omega
        · have := hg.1 x h1; omega
       rw [hn, if_pos (by simp [hv]), if_pos (by simp [hv])]; rfl
     · rw [if_neg (by simp [hv]), if_neg (by simp [hv])]
termination_by gs l => gs.length + l.length
theorem filt_map {α : Type} (f : α → PD) (k : α → Int) (hk : ∀ x, kb (f x) = k x) (l : List α) (v : Int) : (l.map f).filter (fun x => decide (kb x = v)) = (l.filter (fun x => decide (k x = v))).map f := by
 rw [List.filter_map]
 congr 1
 exact List.filter_congr fun x _ => by simp [hk]
theorem row_same {gaps Zg : List (Nat × Nat)} {items Zi : List IM} (hg : StS kfGap gaps Zg) (hi : StS kfItem items Zi) : rowD Zg (Zi.map IM.pi) = rowR gaps (items.map IM.pi) := by
 have s1 : Zg.Pairwise fun a b => (a.1 : Int) ≤ b.1 := hg.2.1
 have s2 : (Zi.map IM.pi).Pairwise fun a b => (a.n : Int) ≤ b.n := by rw [List.pairwise_map]; exact hi.2.1
 refine sts_unique (kf := kb) (rowD_sorted s1 s2) (rowR_sorted _ _) fun v => ?_
 rw [rowD_filter s1 s2, rowR_filter]
 congr 1
 · rw [filt_map PD.ofG kfGap kG, filt_map PD.ofG kfGap kG, hg.2.2]
 · rw [filt_map PD.ofI (fun x => (x.n : Int)) kI, filt_map PD.ofI (fun x => (x.n : Int)) kI]
   have e : ∀ L : List IM, (L.map IM.pi).filter (fun x => decide ((x.n : Int) = v)) = (L.filter (fun x => decide (kfItem x = v))).map IM.pi := fun L => by
    rw [List.filter_map]; rfl
   rw [e, e, hi.2.2]
end Go.Proofs.YtaklnpjpndkccaaGreat
namespace Go.Proofs.YtaklnpjpndkccaaGreat
open Go.RowKit
set_option maxRecDepth 100000 in
set_option maxHeartbeats 8000000 in
theorem rholds_any (w : World) (c : C) (sa : Option Addr) (sc : Nat) (hs : SetR w (.slice sa c.set.length sc) c.set) (v : V) :
 Calls Tryz.prog 76 #[.agg #[.string (strOf c.name), .int .i64 c.op, .int .i64 c.v.k, .int .i64 c.v.n, .string (strOf c.v.s), .bool c.v.b, .slice sa c.set.length sc], .agg #[.int .i64 v.k, .int .i64 v.n, .string (strOf v.s), .bool v.b]] w
  fun e w' => e = .returned (.bool (holdsC c v)) ∧ Ext w w' := by
 have hx0 : Ext w ((w.alloc (.cells #[.string (strOf c.name), .int .i64 c.op, .int .i64 c.v.k, .int .i64 c.v.n, .string (strOf c.v.s), .bool c.v.b, .slice sa c.set.length sc] 94)).alloc (.cells #[.int .i64 v.k, .int .i64 v.n, .string (strOf v.s), .bool v.b] 80)) := ((Ext.refl w).alloc _).alloc _
 have hN : ((w.alloc (.cells #[.string (strOf c.name), .int .i64 c.op, .int .i64 c.v.k, .int .i64 c.v.n, .string (strOf c.v.s), .bool c.v.b, .slice sa c.set.length sc] 94)).alloc (.cells #[.int .i64 v.k, .int .i64 v.n, .string (strOf v.s), .bool v.b] 80)).heap[w.heap.size + 1]? = some (.cells #[.int .i64 v.k, .int .i64 v.n, .string (strOf v.s), .bool v.b] 80 (0, 0)) := by
  have h := heap_alloc_new (w.alloc (.cells #[.string (strOf c.name), .int .i64 c.op, .int .i64 c.v.k, .int .i64 c.v.n, .string (strOf c.v.s), .bool c.v.b, .slice sa c.set.length sc] 94)) (.cells #[.int .i64 v.k, .int .i64 v.n, .string (strOf v.s), .bool v.b] 80)
  rw [World.size_alloc] at h; exact h
 have hB : CBox ((w.alloc (.cells #[.string (strOf c.name), .int .i64 c.op, .int .i64 c.v.k, .int .i64 c.v.n, .string (strOf c.v.s), .bool c.v.b, .slice sa c.set.length sc] 94)).alloc (.cells #[.int .i64 v.k, .int .i64 v.n, .string (strOf v.s), .bool v.b] 80)) w.heap.size c sa sc :=
  (CBox.mk (heap_alloc_new _ _) (hs.ext ((Ext.refl w).alloc _))).ext ((Ext.refl _).alloc _)
 obtain ⟨c0, c1, c2, c3, c4, c5, c6⟩ := hB.cell
 have n0 := cell_of_row _ _ 0 _ _ _ hN
 have n1 := cell_of_row _ _ 1 _ _ _ hN
 have n2 := cell_of_row _ _ 2 _ _ _ hN
 have n3 := cell_of_row _ _ 3 _ _ _ hN
 have hsd := hB.s
 have HB := Lib.hid hB
 clear hs hN hB
 by_cases h1 : c.op = 1
 · have hh : holdsC c v = true := by unfold holdsC; rw [if_pos h1]
   rw [hh]
   have d1 : (c.op == 1) = true := beq_iff_eq.2 h1
   clear hh h1
   go_enter Tryz.func76, Tryz.ntmps76
   go_wp2_with fail
   go_ret
   exact ⟨rfl, hx0⟩
 have d1 := beq_int_ne h1
 by_cases h9 : c.op = 9
 · have hh : holdsC c v = c.set.any fun x => decide (cmpV v x = 0) := by unfold holdsC; rw [if_neg h1, if_pos h9]
   rw [hh]
   have d9 : (c.op == 9) = true := beq_iff_eq.2 h9
   obtain ⟨_, _, es, _, hms⟩ := Row.shape hsd
   simp only [Value.slice.injEq] at es
   obtain ⟨rfl, -, rfl⟩ := es
   unfold maxLen at hms
   clear hh h1 h9
   go_enter Tryz.func76, Tryz.ntmps76
   go_wp2_with fail
   generalize (w.alloc (.cells #[.string (strOf c.name), .int .i64 c.op, .int .i64 c.v.k, .int .i64 c.v.n, .string (strOf c.v.s), .bool c.v.b, .slice sa c.set.length sc] 94)).alloc (.cells #[.int .i64 v.k, .int .i64 v.n, .string (strOf v.s), .bool v.b] 80) = wa at *
   go_loopw [5] (fun i wr => ∃ k : Nat, k ≤ c.set.length ∧ i = .int .i64 k ∧ Hid (∀ x ∈ c.set.take k, decide (cmpV v x = 0) = false) ∧ Ext wa wr) (fun i _ => c.set.length - (intOf i).toNat)
   case atStart => exact ⟨0, Nat.zero_le _, rfl, (by show ∀ x ∈ c.set.take 0, _; simp), Ext.refl _⟩
   case round =>
    obtain ⟨k, hk, rfl, hall, hx⟩ := hrel
    have g6 := hx.cell c6
    by_cases hlt : k < c.set.length
    · obtain ⟨B1, o1, rfl, f0, f1, f2, f3⟩ := SetR.at (hsd.ext hx) hlt
      have hI : decide ((k : Int) < (c.set.length : Int)) = true := decide_eq_true (by omega)
      have hhit : cmpV v c.set[k] = 0 → (c.set.any fun x => decide (cmpV v x = 0)) = true := fun e => List.any_eq_true.2 ⟨_, List.getElem_mem hlt, decide_eq_true e⟩
      have hnext : cmpV v c.set[k] ≠ 0 → ∀ x ∈ c.set.take (k + 1), decide (cmpV v x = 0) = false := fun e x hx => by
       rw [List.take_succ_eq_append_getElem hlt] at hx
       rcases List.mem_append.1 hx with hx | hx
       · exact hall.out x hx
       · rw [List.mem_singleton.1 hx]; exact decide_eq_false e
      generalize c.set[k] = x at *
      have hxd : Ext wr wr.drew := (Ext.refl wr).drew
      have q0 := (hx.trans hxd).cell n0
      have q1 := (hx.trans hxd).cell n1
      have q2 := (hx.trans hxd).cell n2
      have q3 := (hx.trans hxd).cell n3
      have q6 := hxd.cell g6
      have e0 := hxd.cell f0
      have e1 := hxd.cell f1
      have e2 := hxd.cell f2
      have e3 := hxd.cell f3
      by_cases hz : cmpV v x = 0
      · have hres := Lib.hid (hhit hz)
        have hcm := fun W => rcmpV_any W v x
        rw [hz] at hcm
        clear hz hhit hnext
        go_upto_region 7 with fail
        go_region_law (first | (go_simp; go_at_call 107; refine (hcm _).mono ?_; rintro e w2 ⟨rfl, hx2⟩))
        all_goals
         go_wp2_with fail
         go_ret
         exact ⟨by rw [hres.out]; rfl, hx0.trans (hx.trans (hxd.trans hx2.1))⟩
      · have hres := Lib.hid (hnext hz)
        have hcm := fun W => rcmpV_any W v x
        have hzz := beq_int_ne hz
        generalize cmpV v x = r at *
        clear hz hhit hnext
        go_upto_region 7 with fail
        go_region_law (first | (go_simp; go_at_call 107; refine (hcm _).mono ?_; rintro e w2 ⟨rfl, hx2⟩))
        all_goals
         go_wp2_with fail
         go_roundw
         case rel => exact ⟨k + 1, hlt, by go_num, hres, hx.trans (hxd.trans hx2.1)⟩
         case measure => simp [intOf]; omega
    · obtain rfl : k = c.set.length := by omega
      have hI : decide ((c.set.length : Int) < (c.set.length : Int)) = false := decide_eq_false (by omega)
      have hres : Hid ((c.set.any fun x => decide (cmpV v x = 0)) = false) := by
       show _ = _
       refine List.any_eq_false.2 fun x hx => ?_
       have := hall.out x (by rw [List.take_length]; exact hx)
       simpa using this
      go_wp2_with fail
      go_ret
      exact ⟨by rw [hres.out]; rfl, hx0.trans hx⟩
 have d9 := beq_int_ne h9
 by_cases hk : v.k = c.v.k
 · have dk : (v.k != c.v.k) = false := by simp [hk]
   have hcm := fun W => rcmpV_any W v c.v
   by_cases h2 : c.op = 2
   · have hh : holdsC c v = decide (cmpV v c.v = 0) := by unfold holdsC; rw [if_neg h1, if_neg h9, if_pos hk, if_pos h2]
     rw [hh]
     have d2 : (c.op == 2) = true := beq_iff_eq.2 h2
     clear hh h1 h9 h2 hk
     generalize cmpV v c.v = r at *
     go_enter Tryz.func76, Tryz.ntmps76
     go_wp2_with (go_at_call 107; refine (hcm _).mono ?_; rintro e w2 ⟨rfl, hx2⟩; have x1 := hx2.1.cell c1)
     go_ret
     exact ⟨by rw [← beq_dec]; rfl, hx0.trans hx2.1⟩
   have d2 := beq_int_ne h2
   by_cases h3 : c.op = 3
   · have hh : holdsC c v = !decide (cmpV v c.v = 0) := by unfold holdsC; rw [if_neg h1, if_neg h9, if_pos hk, if_neg h2, if_pos h3]
     rw [hh]
     have d3 : (c.op == 3) = true := beq_iff_eq.2 h3
     clear hh h1 h9 h3 hk
     generalize cmpV v c.v = r at *
     go_enter Tryz.func76, Tryz.ntmps76
     go_wp2_with (go_at_call 107; refine (hcm _).mono ?_; rintro e w2 ⟨rfl, hx2⟩; have x1 := hx2.1.cell c1)
     go_ret
     exact ⟨by rw [← beq_dec]; rfl, hx0.trans hx2.1⟩
   have d3 := beq_int_ne h3
   by_cases h4 : c.op = 4
   · have hh : holdsC c v = decide (cmpV v c.v < 0) := by unfold holdsC; rw [if_neg h1, if_neg h9, if_pos hk, if_neg h2, if_neg h3, if_pos h4]
     rw [hh]
     have d4 : (c.op == 4) = true := beq_iff_eq.2 h4
     clear hh h1 h9 h4 hk
     generalize cmpV v c.v = r at *
     go_enter Tryz.func76, Tryz.ntmps76
     go_wp2_with (go_at_call 107; refine (hcm _).mono ?_; rintro e w2 ⟨rfl, hx2⟩; have x1 := hx2.1.cell c1)
     go_ret
     exact ⟨rfl, hx0.trans hx2.1⟩
   have d4 := beq_int_ne h4
   by_cases h5 : c.op = 5
   · have hh : holdsC c v = decide (cmpV v c.v ≤ 0) := by unfold holdsC; rw [if_neg h1, if_neg h9, if_pos hk, if_neg h2, if_neg h3, if_neg h4, if_pos h5]
     rw [hh]
     have d5 : (c.op == 5) = true := beq_iff_eq.2 h5
     clear hh h1 h9 h5 hk
     generalize cmpV v c.v = r at *
     go_enter Tryz.func76, Tryz.ntmps76
     go_wp2_with (go_at_call 107; refine (hcm _).mono ?_; rintro e w2 ⟨rfl, hx2⟩; have x1 := hx2.1.cell c1)
     go_ret
     exact ⟨rfl, hx0.trans hx2.1⟩
   have d5 := beq_int_ne h5
   by_cases h6 : c.op = 6
   · have hh : holdsC c v = decide (0 < cmpV v c.v) := by unfold holdsC; rw [if_neg h1, if_neg h9, if_pos hk, if_neg h2, if_neg h3, if_neg h4, if_neg h5, if_pos h6]
     rw [hh]
     have d6 : (c.op == 6) = true := beq_iff_eq.2 h6
     clear hh h1 h9 h6 hk
     generalize cmpV v c.v = r at *
     go_enter Tryz.func76, Tryz.ntmps76
     go_wp2_with (go_at_call 107; refine (hcm _).mono ?_; rintro e w2 ⟨rfl, hx2⟩; have x1 := hx2.1.cell c1)
     go_ret
     exact ⟨rfl, hx0.trans hx2.1⟩
   have d6 := beq_int_ne h6
   by_cases h7 : c.op = 7
   · have hh : holdsC c v = decide (0 ≤ cmpV v c.v) := by unfold holdsC; rw [if_neg h1, if_neg h9, if_pos hk, if_neg h2, if_neg h3, if_neg h4, if_neg h5, if_neg h6, if_pos h7]
     rw [hh]
     have d7 : (c.op == 7) = true := beq_iff_eq.2 h7
     clear hh h1 h9 h7 hk
     generalize cmpV v c.v = r at *
     go_enter Tryz.func76, Tryz.ntmps76
     go_wp2_with (go_at_call 107; refine (hcm _).mono ?_; rintro e w2 ⟨rfl, hx2⟩; have x1 := hx2.1.cell c1)
     go_ret
     exact ⟨rfl, hx0.trans hx2.1⟩
   have d7 := beq_int_ne h7
   by_cases h8 : c.op = 8
   · have d8 : (c.op == 8) = true := beq_iff_eq.2 h8
     by_cases hk2 : v.k = 2
     · have hh : holdsC c v = c.v.s.isPrefixOf v.s := by
        rw [holds_pre h8, decide_eq_true hk2, decide_eq_true (by omega : c.v.k = 2)]; rfl
       rw [hh]
       have dk2 : (v.k == 2) = true := beq_iff_eq.2 hk2
       clear hh h1 h2 h3 h4 h5 h6 h7 h8 h9 hk hk2
       generalize cmpV v c.v = r at *
       go_enter Tryz.func76, Tryz.ntmps76
       go_upto_region 28 with (go_at_call 107; refine (hcm _).mono ?_; rintro e w2 ⟨rfl, hx2⟩; have x1 := hx2.1.cell c1; have x4 := hx2.1.cell c4; have y0 := hx2.1.cell n0; have y2 := hx2.1.cell n2)
       by_cases hle : c.v.s.length ≤ v.s.length
       · have hI : decide (((strOf c.v.s).size : Int) ≤ ((strOf v.s).size : Int)) = true := decide_eq_true (by rw [strOf_size, strOf_size]; omega)
         have hI2 : (strOf c.v.s).size ≤ (strOf v.s).size := by rw [strOf_size, strOf_size]; exact hle
         have hP := pre_str v.s c.v.s hle
         generalize hR : c.v.s.isPrefixOf v.s = R at hP
         go_quiet (fail)
         go_wp2_with fail
         go_ret
         exact ⟨by rw [hR]; rfl, (hx0.trans hx2.1).drewN _⟩
       · have hI : decide (((strOf c.v.s).size : Int) ≤ ((strOf v.s).size : Int)) = false := decide_eq_false (by rw [strOf_size, strOf_size]; omega)
         have hP : c.v.s.isPrefixOf v.s = false := by
          cases hq : c.v.s.isPrefixOf v.s with
          | false => rfl
          | true => exact absurd (Lib.hasPrefix_le (s := v.s) (p := c.v.s) hq) hle
         have hI2 : decide ((strOf c.v.s).size ≤ (strOf v.s).size) = false := decide_eq_false (by rw [strOf_size, strOf_size]; exact hle)
         have hI3 : ¬ (strOf c.v.s).size ≤ (strOf v.s).size := by rw [strOf_size, strOf_size]; exact hle
         go_quiet (fail)
         go_wp2_with fail
         go_ret
         exact ⟨by rw [hP]; rfl, (hx0.trans hx2.1).drewN _⟩
     · have hh : holdsC c v = false := by
        rw [holds_pre h8, decide_eq_false hk2]; rfl
       rw [hh]
       have dk2 : (v.k == 2) = false := beq_eq_false_iff_ne.2 hk2
       clear hh h1 h2 h3 h4 h5 h6 h7 h8 h9 hk hk2
       generalize cmpV v c.v = r at *
       go_enter Tryz.func76, Tryz.ntmps76
       go_upto_region 28 with (go_at_call 107; refine (hcm _).mono ?_; rintro e w2 ⟨rfl, hx2⟩; have x1 := hx2.1.cell c1; have x4 := hx2.1.cell c4; have y0 := hx2.1.cell n0; have y2 := hx2.1.cell n2)
       go_quiet (fail)
       go_wp2_with fail
       go_ret
       exact ⟨rfl, (hx0.trans hx2.1).drewN _⟩
   have d8 := beq_int_ne h8
   have hh : holdsC c v = false := by unfold holdsC; rw [if_neg h1, if_neg h9, if_pos hk, if_neg h2, if_neg h3, if_neg h4, if_neg h5, if_neg h6, if_neg h7, if_neg h8]
   rw [hh]
   clear hh h1 h2 h3 h4 h5 h6 h7 h8 h9 hk
   generalize cmpV v c.v = r at *
   go_enter Tryz.func76, Tryz.ntmps76
   go_wp2_with (go_at_call 107; refine (hcm _).mono ?_; rintro e w2 ⟨rfl, hx2⟩; have x1 := hx2.1.cell c1)
   go_ret
   exact ⟨rfl, hx0.trans hx2.1⟩
 · have hh : holdsC c v = false := by unfold holdsC; rw [if_neg h1, if_neg h9, if_neg hk]
   rw [hh]
   have dk : (v.k != c.v.k) = true := by simp [hk]
   clear hh h1 h9 hk
   go_enter Tryz.func76, Tryz.ntmps76
   go_wp2_with fail
   go_ret
   exact ⟨rfl, hx0⟩
set_option maxRecDepth 100000 in
set_option maxHeartbeats 8000000 in
theorem rmatches_any (w : World) (v : Value) (p : List C) (key : List UInt8) (va : Value) (l : List (List UInt8 × V)) (hp : PredR w v p) (hl : AttrR w va l) :
 Calls Tryz.prog 57 #[v, .agg #[.string (strOf key), va]] w fun e w' => e = .returned (.bool (matchP p l)) ∧ Ext w w' := by
 obtain ⟨aa, ca, rfl, hca, hma⟩ := Row.shape hl
 obtain ⟨ap, cp, rfl, hcp, hmp⟩ := hp.shape
 unfold maxLen at hma hmp
 have hx0 : Ext w (w.alloc (.cells #[.string (strOf key), .slice aa l.length ca] 47)) := (Ext.refl w).alloc _
 have hE : (w.alloc (.cells #[.string (strOf key), .slice aa l.length ca] 47)).heap[w.heap.size]? = some (.cells #[.string (strOf key), .slice aa l.length ca] 47 (0, 0)) := heap_alloc_new _ _
 have hE1 := cell_of_row _ _ 1 _ _ _ hE
 have hl0 := hl.ext hx0
 have hp0 := hp.ext hx0
 clear hE hl hp
 go_enter Tryz.func57, Tryz.ntmps57
 go_wp2_with fail
 generalize w.alloc (.cells #[.string (strOf key), .slice aa l.length ca] 47) = wa at *
 go_loopw [5] (fun i wr => ∃ k : Nat, k ≤ p.length ∧ i = .int .i64 k ∧ Hid (∀ c ∈ p.take k, asksE l c = true) ∧ Ext wa wr) (fun i _ => p.length - (intOf i).toNat)
 case atStart => exact ⟨0, Nat.zero_le _, rfl, (by show ∀ x ∈ p.take 0, _; simp), Ext.refl _⟩
 case round =>
  obtain ⟨k, hk, rfl, hall, hx⟩ := hrel
  by_cases hlt : k < p.length
  · have hI : decide ((k : Int) < (p.length : Int)) = true := decide_eq_true (by omega)
    have hno : asksE l p[k] = false → matchP p l = false := fun e => by
     unfold matchP
     exact List.all_eq_false.2 ⟨p[k], List.getElem_mem hlt, by rw [e]; decide⟩
    have hyes : asksE l p[k] = true → ∀ c ∈ p.take (k + 1), asksE l c = true := fun e c hc => by
     rw [List.take_succ_eq_append_getElem hlt] at hc
     rcases List.mem_append.1 hc with hc | hc
     · exact hall.out c hc
     · rw [List.mem_singleton.1 hc]; exact e
    have hpk := (hp0.ext hx).at hlt
    obtain ⟨Bp, op, sa, sc, rfl, g0, g1, g2, g3, g4, g5, g6, hgs⟩ := hpk
    generalize p[k] = c at *
    have HNO := Lib.hid hno
    have HYES := Lib.hid hyes
    clear hno hyes
    go_upto_block 2 with fail
    go_cut [6] from 13 to 33 (fun v6 wx => ∃ j : Nat, j ≤ l.length ∧ v6 = .int .i64 j ∧ Hid (∀ x ∈ l.take j, x.1 ≠ c.name) ∧ Hid (∀ h : j < l.length, l[j].1 = c.name) ∧ Ext wr wx)
    case first =>
     go_wp2_with fail
     go_loopw [6] (fun i wx => ∃ j : Nat, j ≤ l.length ∧ i = .int .i64 j ∧ Hid (∀ x ∈ l.take j, x.1 ≠ c.name) ∧ Ext wr wx) (fun i _ => l.length - (intOf i).toNat)
     case atStart => exact ⟨0, Nat.zero_le _, rfl, (by show ∀ x ∈ l.take 0, _; simp), Ext.refl _⟩
     case round =>
      rename_i wy _
      obtain ⟨j, hj, rfl, hbef, hy⟩ := hrel
      have e1 := (hx.trans hy).cell hE1
      by_cases hjl : j < l.length
      · have hI2 : decide ((j : Int) < (l.length : Int)) = true := decide_eq_true (by omega)
        obtain ⟨Ba, oa, rfl, f0, f1, f2, f3, f4⟩ := (hl0.ext (hx.trans hy)).at hjl
        have g0 := hy.cell g0
        by_cases hn : l[j].1 = c.name
        · have hd : (l[j].1 == c.name) = true := beq_iff_eq.2 hn
          have hd2 : (l[j].1 != c.name) = false := by rw [bne, hd]; rfl
          have hat : Hid (∀ h : j < l.length, l[j].1 = c.name) := fun _ => hn
          generalize l[j].1 = nm at *
          clear hn
          go_upto_region 5 with fail
          go_quiet (fail)
          go_wp2_with fail
          go_meet
          exact ⟨j, hj, rfl, hbef, hat, hy.drewN _⟩
        · have hd : (l[j].1 == c.name) = false := beq_eq_false_iff_ne.2 hn
          have hd2 : (l[j].1 != c.name) = true := by rw [bne, hd]; rfl
          have hnx : Hid (∀ x ∈ l.take (j + 1), x.1 ≠ c.name) := fun x hx => by
           rw [List.take_succ_eq_append_getElem hjl] at hx
           rcases List.mem_append.1 hx with hx | hx
           · exact hbef.out x hx
           · rw [List.mem_singleton.1 hx]; exact hn
          generalize l[j].1 = nm at *
          clear hn
          go_upto_region 5 with fail
          go_quiet (fail)
          go_wp2_with fail
          go_roundw
          case rel => exact ⟨j + 1, hjl, by go_num, hnx, hy.drewN _⟩
          case measure => simp [intOf]; omega
      · obtain rfl : j = l.length := by omega
        have hI2 : decide ((l.length : Int) < (l.length : Int)) = false := decide_eq_false (by omega)
        go_upto_region 5 with fail
        go_quiet (fail)
        go_wp2_with fail
        go_meet
        exact ⟨l.length, hj, rfl, hbef, fun h => absurd h (Nat.lt_irrefl _), hy.drewN _⟩
    case rest =>
     obtain ⟨j, hj, rfl, hbef, hat, hy⟩ := hcut
     have e1 := (hx.trans hy).cell hE1
     by_cases hjl : j < l.length
     · have hI2 : ((j : Int) == (l.length : Int)) = false := beq_eq_false_iff_ne.2 (by omega)
       obtain ⟨Ba, oa, rfl, f0, f1, f2, f3, f4⟩ := (hl0.ext (hx.trans hy)).at hjl
       have g0 := hy.cell g0
       have g1 := hy.cell g1
       have g2 := hy.cell g2
       have g3 := hy.cell g3
       have g4 := hy.cell g4
       have g5 := hy.cell g5
       have g6 := hy.cell g6
       have hgs := hgs.ext hy
       have hask : Hid (asksE l c = holdsC c l[j].2) := asks_some hjl hbef.out (hat.out hjl)
       generalize l[j] = a at *
       generalize hH : holdsC c a.2 = H at *
       have HH := Lib.hid hH
       clear hH
       go_upto_region 7 with fail
       refine wp_region_facts [Fact.eq (.int .i64 j),
        Fact.eq (.pointer (some ⟨w.heap.size, 1, none⟩)),
        Fact.eq (.slice (some ⟨Ba, oa, none⟩) l.length ca),
        Fact.eq (.int .i64 l.length),
        Fact.eq (.bool false),
        Fact.eq (.bool false),
        Fact.eq (.slice (some ⟨Bp, op, none⟩) p.length cp),
        Fact.eq (.int .i64 k),
        Fact.eq (.pointer (some ⟨Bp, op + k * 7, none⟩)),
        Fact.eq (.agg #[.string (strOf c.name), .int .i64 c.op, .int .i64 c.v.k, .int .i64 c.v.n, .string (strOf c.v.s), .bool c.v.b, .slice sa c.set.length sc]),
        Fact.eq (.pointer (some ⟨w.heap.size, 1, none⟩)),
        Fact.eq (.slice (some ⟨Ba, oa, none⟩) l.length ca),
        Fact.eq (.int .i64 j),
        Fact.eq (.pointer (some ⟨Ba, oa + j * 5, none⟩)),
        Fact.eq (.pointer (some ⟨Ba, oa + j * 5 + 1, none⟩)),
        Fact.eq (.agg #[.int .i64 a.2.k, .int .i64 a.2.n, .string (strOf a.2.s), .bool a.2.b]),
        Fact.eq (.bool H),
        Fact.eq (.bool (!H)),
        Fact.eq (.bool (!H))]
        [[], [], [(1, 35)], [(2, 36)], [(0, 34), (3, 37)], [(4, 38)], [(5, 39)], [(5, 39)], [(6, 40), (7, 41), (5, 39)], [(8, 42), (5, 39)], [(5, 39)], [(10, 44), (5, 39)], [(5, 39)], [(11, 45), (12, 46), (5, 39)], [(13, 47), (5, 39)], [(14, 48), (5, 39)], [(9, 43), (15, 49), (5, 39)], [(16, 50), (5, 39)], [(5, 39), (17, 51)]]
        [(0, 34), (1, 35), (2, 36), (3, 37), (4, 38), (5, 39), (6, 40), (7, 41), (8, 42), (9, 43), (10, 44), (11, 45), (12, 46), (13, 47), (14, 48), (15, 49), (16, 50), (17, 51), (18, 52)] (by kernel_rfl) (by kernel_rfl) ?_ ?_
       · refine ⟨?_, ?_, ?_, ?_, ?_, ?_, ?_, ?_, ?_, ?_, ?_, ?_, ?_, ?_, ?_, ?_, ?_, ?_, ?_, trivial⟩
         · intro w1 hx1; change wpList _ _ _ _ _ _; exact ob_move rfl rfl rfl rfl rfl
         · intro w1 hx1; change wpList _ _ _ _ _ _; go_wp2_with fail; exact ⟨rfl, Ext.refl _, rfl, rfl⟩
         · rintro w1 hx1 _ rfl; change wpList _ _ _ _ _ _; have m := hx1.cell e1; go_wp2_with fail; exact ⟨rfl, Ext.refl _, rfl, rfl⟩
         · rintro w1 hx1 _ rfl; change wpList _ _ _ _ _ _; go_wp2_with fail; exact ⟨rfl, Ext.refl _, rfl, rfl⟩
         · rintro w1 hx1 _ rfl _ rfl; change wpList _ _ _ _ _ _; go_wp2_with fail; exact ⟨rfl, Ext.refl _, rfl, rfl⟩
         · rintro w1 hx1 _ rfl; change wpList _ _ _ _ _ _; exact ob_move rfl rfl rfl rfl rfl
         · rintro w1 hx1 _ rfl; change wpList _ _ _ _ _ _; exact ob_move rfl rfl rfl rfl rfl
         · rintro w1 hx1 _ rfl; change wpList _ _ _ _ _ _; exact ob_move rfl rfl rfl rfl rfl
         · rintro w1 hx1 _ rfl _ rfl _ rfl; change wpList _ _ _ _ _ _; go_wp2_with fail; exact ⟨rfl, Ext.refl _, rfl, rfl⟩
         · rintro w1 hx1 _ rfl _ rfl; change wpList _ _ _ _ _ _; have m0 := hx1.cell g0; have m1 := hx1.cell g1; have m2 := hx1.cell g2; have m3 := hx1.cell g3; have m4 := hx1.cell g4; have m5 := hx1.cell g5; have m6 := hx1.cell g6; go_wp2_with fail; exact ⟨rfl, Ext.refl _, rfl, rfl⟩
         · rintro w1 hx1 _ rfl; change wpList _ _ _ _ _ _; go_wp2_with fail; exact ⟨rfl, Ext.refl _, rfl, rfl⟩
         · rintro w1 hx1 _ rfl _ rfl; change wpList _ _ _ _ _ _; have m := hx1.cell e1; go_wp2_with fail; exact ⟨rfl, Ext.refl _, rfl, rfl⟩
         · rintro w1 hx1 _ rfl; change wpList _ _ _ _ _ _; exact ob_move rfl rfl rfl rfl rfl
         · rintro w1 hx1 _ rfl _ rfl _ rfl; change wpList _ _ _ _ _ _; go_wp2_with fail; exact ⟨rfl, Ext.refl _, rfl, rfl⟩
         · rintro w1 hx1 _ rfl _ rfl; change wpList _ _ _ _ _ _; go_wp2_with fail; exact ⟨rfl, Ext.refl _, rfl, rfl⟩
         · rintro w1 hx1 _ rfl _ rfl; change wpList _ _ _ _ _ _; have m1 := hx1.cell f1; have m2 := hx1.cell f2; have m3 := hx1.cell f3; have m4 := hx1.cell f4; go_wp2_with fail; exact ⟨rfl, Ext.refl _, rfl, rfl⟩
         · rintro w1 hx1 _ rfl _ rfl _ rfl; change wpList _ _ _ _ _ _; go_wp2_with fail; refine (rholds_any w1 c sa sc (hgs.ext hx1) a.2).mono ?_; rw [HH.out]; rintro e w2 ⟨rfl, hx2⟩; go_wp2_with fail; exact ⟨rfl, hx2, rfl, rfl⟩
         · rintro w1 hx1 _ rfl _ rfl; change wpList _ _ _ _ _ _; go_wp2_with fail; exact ⟨rfl, Ext.refl _, rfl, rfl⟩
         · rintro w1 hx1 _ rfl _ rfl; change wpList _ _ _ _ _ _; exact ob_pick rfl rfl rfl rfl rfl rfl
       · rintro w1 hx1 _ rfl _ rfl _ rfl _ rfl _ rfl _ rfl _ rfl _ rfl _ rfl _ rfl _ rfl _ rfl _ rfl _ rfl _ rfl _ rfl _ rfl _ rfl _ rfl; refine depsThen_nil ?_; dsimp only; simp only [Act.put, List.setIfInBounds_toArray, List.set_cons_zero, List.set_cons_succ]
         cases H
         · go_wp2_with fail
           go_ret
           exact ⟨by rw [HNO.out hask.out]; rfl, hx0.trans (hx.trans (hy.trans hx1))⟩
         · go_wp2_with fail
           go_roundw
           case rel => exact ⟨k + 1, hlt, by go_num, HYES.out hask.out, hx.trans (hy.trans hx1)⟩
           case measure => simp [intOf]; omega
     · obtain rfl : j = l.length := by omega
       have hI2 : ((l.length : Int) == (l.length : Int)) = true := beq_self_eq_true _
       have hask : Hid (asksE l c = false) := asks_none hbef.out
       go_upto_region 7 with fail
       go_quiet (fail)
       go_wp2_with fail
       go_ret
       exact ⟨by rw [HNO.out hask.out]; rfl, hx0.trans (hx.trans (hy.drewN _))⟩
  · obtain rfl : k = p.length := by omega
    have hI : decide ((p.length : Int) < (p.length : Int)) = false := decide_eq_false (by omega)
    have hres : Hid (matchP p l = true) := by
     show _ = _
     unfold matchP
     exact List.all_eq_true.2 fun x hx => hall.out x (by rw [List.take_length]; exact hx)
    go_wp2_with fail
    go_ret
    exact ⟨by rw [hres.out]; rfl, hx0.trans hx⟩
end Go.Proofs.YtaklnpjpndkccaaGreat
namespace Go.Proofs.YtaklnpjpndkccaaGreat
open Go.RowKit Go.Sort
theorem attr_atJ {w : World} {a : Option Addr} {n c : Nat} {l : List (List UInt8 × V)} (h : AttrR w (.slice a n c) l) {k : Nat} (hk : k < l.length) :
 ∃ B o, a = some ⟨B, o, none⟩ ∧ w.cell? ⟨B, o + k * 5, none⟩ = some (.string (strOf l[k].1)) ∧ w.cell? ⟨B, o + k * 5 + 1, none⟩ = some (.int .i64 l[k].2.k) ∧ w.cell? ⟨B, o + k * 5 + 2, none⟩ = some (.int .i64 l[k].2.n) ∧ w.cell? ⟨B, o + k * 5 + 3, none⟩ = some (.string (strOf l[k].2.s)) ∧ w.cell? ⟨B, o + k * 5 + 4, none⟩ = some (.bool l[k].2.b) := by
 have h' : Row w 5 (.slice a n c) l.length (l.flatMap aC) := h
 obtain ⟨B, o, rfl⟩ := Row.base h' (by omega) (by decide)
 have g := fun j hj => flat_get aC 5 aC_len l k hk j hj
 have g0 := Row.cellAt h' (g 0 (by decide)) (by omega)
 have g1 := Row.cellAt h' (g 1 (by decide)) (by omega)
 have g2 := Row.cellAt h' (g 2 (by decide)) (by omega)
 have g3 := Row.cellAt h' (g 3 (by decide)) (by omega)
 have g4 := Row.cellAt h' (g 4 (by decide)) (by omega)
 rw [Nat.add_zero] at g0
 rw [← Nat.add_assoc] at g1 g2 g3 g4
 exact ⟨B, o, rfl, g0, g1, g2, g3, g4⟩
set_option maxRecDepth 100000 in
set_option maxHeartbeats 4000000 in
theorem equalAttr_any (w : World) (va vb : Value) (l : List (List UInt8 × V)) (ha : AttrR w va l) (hb : AttrR w vb l) :
 Calls Tryz.prog 73 #[va, vb] w fun e w' => e = .returned (.bool true) ∧ Ext w w' := by
 obtain ⟨aa, ca, rfl, h1, h2⟩ := Row.shape (show Row w 5 va l.length (l.flatMap aC) from ha)
 obtain ⟨ab, cb, rfl, _, _⟩ := Row.shape (show Row w 5 vb l.length (l.flatMap aC) from hb)
 have HA := Lib.hid ha
 have HB := Lib.hid hb
 have hl63 : l.length ≤ 9223372036854775807 := by unfold maxLen at h2; omega
 clear ha hb
 obtain ⟨n, hn⟩ : ∃ n, n = l.length := ⟨_, rfl⟩
 have HN := Lib.hid hn
 rw [← hn] at HA HB hl63 ⊢
 clear hn
 go_enter Tryz.func73, Tryz.ntmps73
 go_wp2_with fail
 go_loopw [13] (fun iv wr => ∃ i : Nat, iv = .int .i64 i ∧ i ≤ n ∧ Hid (Ext w wr)) (fun iv _ => n - (intOf iv).toNat)
 case atStart => exact ⟨0, rfl, Nat.zero_le _, Ext.refl _⟩
 case round =>
  obtain ⟨i, rfl, hi, hX⟩ := hrel
  by_cases h : i < n
  · have hI : decide ((i : Int) < (n : Int)) = true := decide_eq_true (by omega)
    have hil : i < l.length := by have := HN.out; omega
    obtain ⟨B, o, rfl, a0, a1, a2, a3, a4⟩ := attr_atJ (AttrR.ext HA.out hX.out) hil
    obtain ⟨B2, o2, rfl, b0, b1, b2, b3, b4⟩ := attr_atJ (AttrR.ext HB.out hX.out) hil
    generalize strOf l[i].1 = s1 at *
    generalize l[i].2.k = k1 at *
    generalize l[i].2.n = n1 at *
    generalize strOf l[i].2.s = s2 at *
    generalize l[i].2.b = t1 at *
    go_upto_region 6 with fail
    refine wp_region_facts [Fact.eq (.slice (some ⟨B, o, none⟩) n ca),
     Fact.eq (.int .i64 i),
     Fact.eq (.pointer (some ⟨B, o + i * 5, none⟩)),
     Fact.eq (.agg #[.string s1, .int .i64 k1, .int .i64 n1, .string s2, .bool t1]),
     Fact.eq (.slice (some ⟨B2, o2, none⟩) n cb),
     Fact.eq (.int .i64 i),
     Fact.eq (.pointer (some ⟨B2, o2 + i * 5, none⟩)),
     Fact.eq (.agg #[.string s1, .int .i64 k1, .int .i64 n1, .string s2, .bool t1]),
     Fact.eq (.bool false)]
     [[], [], [(0, 16), (1, 17)], [(2, 18)], [], [], [(4, 20), (5, 21)], [(6, 22)], [(3, 19), (7, 23)]]
     [(0, 16), (1, 17), (2, 18), (3, 19), (4, 20), (5, 21), (6, 22), (7, 23), (8, 24)] (by kernel_rfl) (by kernel_rfl) ?_ ?_
    · refine ⟨?_, ?_, ?_, ?_, ?_, ?_, ?_, ?_, ?_, trivial⟩
      · intro w1 hx1; change wpList _ _ _ _ _ _; exact ob_move rfl rfl rfl rfl rfl
      · intro w1 hx1; change wpList _ _ _ _ _ _; exact ob_move rfl rfl rfl rfl rfl
      · rintro w1 hx1 _ rfl _ rfl; change wpList _ _ _ _ _ _; go_wp2_with fail; exact ⟨rfl, Ext.refl _, rfl, rfl⟩
      · rintro w1 hx1 _ rfl; change wpList _ _ _ _ _ _; have m0 := hx1.cell a0; have m1 := hx1.cell a1; have m2 := hx1.cell a2; have m3 := hx1.cell a3; have m4 := hx1.cell a4; go_wp2_with fail; exact ⟨rfl, Ext.refl _, rfl, rfl⟩
      · intro w1 hx1; change wpList _ _ _ _ _ _; exact ob_move rfl rfl rfl rfl rfl
      · intro w1 hx1; change wpList _ _ _ _ _ _; exact ob_move rfl rfl rfl rfl rfl
      · rintro w1 hx1 _ rfl _ rfl; change wpList _ _ _ _ _ _; go_wp2_with fail; exact ⟨rfl, Ext.refl _, rfl, rfl⟩
      · rintro w1 hx1 _ rfl; change wpList _ _ _ _ _ _; have m0 := hx1.cell b0; have m1 := hx1.cell b1; have m2 := hx1.cell b2; have m3 := hx1.cell b3; have m4 := hx1.cell b4; go_wp2_with fail; exact ⟨rfl, Ext.refl _, rfl, rfl⟩
      · rintro w1 hx1 _ rfl _ rfl; change wpList _ _ _ _ _ _; go_wp2_with fail; exact ⟨rfl, Ext.refl _, rfl, rfl⟩
    · rintro w1 hx1 _ rfl _ rfl _ rfl _ rfl _ rfl _ rfl _ rfl _ rfl _ rfl; refine depsThen_nil ?_; dsimp only; simp only [Act.put, List.setIfInBounds_toArray, List.set_cons_zero, List.set_cons_succ]
      go_wp2_with fail
      go_roundw
      case rel => exact ⟨i + 1, by rw [Int.natCast_add]; rfl, by omega, hX.out.trans hx1⟩
      case measure => simp [intOf]; omega
  · have hI : decide ((i : Int) < (n : Int)) = false := decide_eq_false (by omega)
    go_wp2_with fail
    go_ret
    exact ⟨rfl, hX.out⟩
set_option maxRecDepth 100000 in
set_option maxHeartbeats 4000000 in
theorem evSame_any (w : World) (key : ByteArray) (va vb : Value) (l : List (List UInt8 × V)) (ha : AttrR w va l) (hb : AttrR w vb l) :
 Calls Tryz.prog 44 #[.agg #[.string key, va], .agg #[.string key, vb]] w fun e w' => e = .returned (.bool true) ∧ Ext w w' := by
 obtain ⟨hx, k1, k2⟩ := boxes2 w (.cells #[.string key, va] 47) (.cells #[.string key, vb] 47)
 have HX := Lib.hid hx
 have C := Lib.hid (equalAttr_any _ va vb l (AttrR.ext ha hx) (AttrR.ext hb hx))
 have a0 := cell_of_row _ _ 0 _ _ _ k1
 have a1 := cell_of_row _ _ 1 _ _ _ k1
 have b0 := cell_of_row _ _ 0 _ _ _ k2
 have b1 := cell_of_row _ _ 1 _ _ _ k2
 obtain ⟨aa, ca, rfl, _, _⟩ := Row.shape (show Row w 5 va l.length (l.flatMap aC) from ha)
 obtain ⟨ab, cb, rfl, _, _⟩ := Row.shape (show Row w 5 vb l.length (l.flatMap aC) from hb)
 clear ha hb hx k1 k2
 go_enter Tryz.func44, Tryz.ntmps44
 go_wp2_with (go_at_call 73; (with_reducible refine C.out.mono ?_); rintro e w5 ⟨rfl, hx5⟩)
 go_ret
 exact ⟨rfl, HX.out.trans hx5⟩
set_option maxHeartbeats 4000000 in
theorem rbegins_any (w : World) (d : DM) : Calls Tryz.prog 46 #[.agg #[.int .u64 d.n, .int .u64 d.t, .string (strOf d.key), .slice d.ha d.av.length d.hc, .int .u64 d.f, .int .u64 d.g]] w fun e w' => e = .returned (.int .u64 (d.pd.beg : Nat)) ∧ Ext w w' := by
 obtain ⟨hx, hb⟩ := boxes1 w (.cells #[.int .u64 d.n, .int .u64 d.t, .string (strOf d.key), .slice d.ha d.av.length d.hc, .int .u64 d.f, .int .u64 d.g] 104)
 have b0 := cell_of_row _ _ 0 _ _ _ hb
 have b4 := cell_of_row _ _ 4 _ _ _ hb
 have HX := Lib.hid hx
 clear hx hb
 by_cases h : d.n = 0
 · have hd : ((d.n : Int) != 0) = false := by rw [h]; rfl
   have hd' : (d.n != 0) = false := by rw [h]; rfl
   have he : d.pd.beg = d.f := if_neg (by show ¬ 0 < d.n; omega)
   rw [he]
   clear he h
   go_enter Tryz.func46, Tryz.ntmps46
   go_wp2_with fail
   go_ret
   exact ⟨rfl, HX.out⟩
 · have hd : ((d.n : Int) != 0) = true := by simp; omega
   have hd' : (d.n != 0) = true := by simp; omega
   have he : d.pd.beg = d.n := if_pos (by show 0 < d.n; omega)
   rw [he]
   clear he h
   go_enter Tryz.func46, Tryz.ntmps46
   go_wp2_with fail
   go_ret
   exact ⟨rfl, HX.out⟩
set_option maxHeartbeats 4000000 in
theorem rnumber_any (w : World) (d : DM) : Calls Tryz.prog 45 #[.agg #[.int .u64 d.n, .int .u64 d.t, .string (strOf d.key), .slice d.ha d.av.length d.hc, .int .u64 d.f, .int .u64 d.g]] w fun e w' => e = .returned (.int .u64 (d.pd.num : Nat)) ∧ Ext w w' := by
 obtain ⟨hx, hb⟩ := boxes1 w (.cells #[.int .u64 d.n, .int .u64 d.t, .string (strOf d.key), .slice d.ha d.av.length d.hc, .int .u64 d.f, .int .u64 d.g] 104)
 have b0 := cell_of_row _ _ 0 _ _ _ hb
 have b5 := cell_of_row _ _ 5 _ _ _ hb
 have HX := Lib.hid hx
 clear hx hb
 have he0 : d.pd.num = max d.n d.g := rfl
 by_cases h : d.g < d.n
 · have hd : decide ((d.n : Int) > (d.g : Int)) = true := decide_eq_true (by omega)
   have hd' : decide (d.g < d.n) = true := decide_eq_true h
   have he : d.pd.num = d.n := by rw [he0]; omega
   rw [he]
   clear he h he0
   go_enter Tryz.func45, Tryz.ntmps45
   go_wp2_with fail
   go_ret
   exact ⟨rfl, HX.out⟩
 · have hd : decide ((d.n : Int) > (d.g : Int)) = false := decide_eq_false (by omega)
   have hd' : decide (d.g < d.n) = false := decide_eq_false h
   have he : d.pd.num = d.g := by rw [he0]; omega
   rw [he]
   clear he h he0
   go_enter Tryz.func45, Tryz.ntmps45
   go_wp2_with fail
   go_ret
   exact ⟨rfl, HX.out⟩
end Go.Proofs.YtaklnpjpndkccaaGreat
namespace Go.Proofs.YtaklnpjpndkccaaGreat
open Go.RowKit Go.Sort
set_option maxRecDepth 100000 in
set_option maxHeartbeats 4000000 in
theorem rmay_any (w : World) (d : DM) : Calls Tryz.prog 56 #[.agg #[.int .u64 d.n, .int .u64 d.t, .string (strOf d.key), .slice d.ha d.av.length d.hc, .int .u64 d.f, .int .u64 d.g]] w fun e w' => e = .returned (.bool (mayD d.pd)) ∧ Ext w w' := by
 obtain ⟨hx, hb⟩ := boxes1 w (.cells #[.int .u64 d.n, .int .u64 d.t, .string (strOf d.key), .slice d.ha d.av.length d.hc, .int .u64 d.f, .int .u64 d.g] 104)
 have HB := Lib.hid hb
 have HX := Lib.hid hx
 have CB := Lib.hid fun W => rbegins_any W d
 have CN := Lib.hid fun W => rnumber_any W d
 obtain ⟨F, hF⟩ : ∃ F, F = mayD d.pd := ⟨_, rfl⟩
 rw [← hF]
 have HF : Hid (F = (decide (1 ≤ d.pd.beg) && (decide (d.pd.beg ≤ d.pd.num) && decide (d.pd.num ≤ 1099511627776)))) := hF
 clear hx hb hF
 generalize d.pd.beg = b at *
 generalize d.pd.num = m at *
 by_cases h1 : 1 ≤ b
 · have i1 : decide ((b : Int) ≥ 1) = true := decide_eq_true (by omega)
   have j1 : decide (1 ≤ b) = true := decide_eq_true h1
   by_cases h2 : b ≤ m
   · have i2 : decide ((m : Int) ≥ (b : Int)) = true := decide_eq_true (by omega)
     have j2 : decide (b ≤ m) = true := decide_eq_true h2
     by_cases h3 : m ≤ 1099511627776
     · have i3 : decide ((m : Int) ≤ 1099511627776) = true := decide_eq_true (by omega)
       have j3 : decide (m ≤ 1099511627776) = true := decide_eq_true h3
       have HM : Hid (F = true) := by show _ = _; rw [HF.out, j1, j2, j3]; rfl
       clear h1 h2 h3
       go_enter Tryz.func56, Tryz.ntmps56
       go_upto_region 1 with fail
       refine wp_region_facts [Fact.eq (.agg #[.int .u64 d.n, .int .u64 d.t, .string (strOf d.key), .slice d.ha d.av.length d.hc, .int .u64 d.f, .int .u64 d.g]),
        Fact.eq (.int .u64 (b : Nat)),
        Fact.eq (.bool true),
        Fact.eq (.bool true),
        Fact.eq (.agg #[.int .u64 d.n, .int .u64 d.t, .string (strOf d.key), .slice d.ha d.av.length d.hc, .int .u64 d.f, .int .u64 d.g]),
        Fact.eq (.int .u64 (m : Nat)),
        Fact.eq (.agg #[.int .u64 d.n, .int .u64 d.t, .string (strOf d.key), .slice d.ha d.av.length d.hc, .int .u64 d.f, .int .u64 d.g]),
        Fact.eq (.int .u64 (b : Nat)),
        Fact.eq (.bool true),
        Fact.eq (.bool true),
        Fact.eq (.bool true),
        Fact.eq (.agg #[.int .u64 d.n, .int .u64 d.t, .string (strOf d.key), .slice d.ha d.av.length d.hc, .int .u64 d.f, .int .u64 d.g]),
        Fact.eq (.int .u64 (m : Nat)),
        Fact.eq (.bool true),
        Fact.eq (.bool true),
        Fact.eq (.bool true)]
        [[], [(0, 3)], [(1, 4)], [(2, 5)], [(3, 6)], [(4, 7), (3, 6)], [(3, 6)], [(6, 9), (3, 6)], [(5, 8), (7, 10), (3, 6)], [(3, 6), (8, 11)], [(9, 12)], [(10, 13)], [(11, 14), (10, 13)], [(12, 15), (10, 13)], [(10, 13), (13, 16)], [(14, 17)]]
        [(0, 3), (1, 4), (2, 5), (3, 6), (4, 7), (5, 8), (6, 9), (7, 10), (8, 11), (9, 12), (10, 13), (11, 14), (12, 15), (13, 16), (14, 17), (15, 2)] (by kernel_rfl) (by kernel_rfl) ?_ ?_
       · refine ⟨?_, ?_, ?_, ?_, ?_, ?_, ?_, ?_, ?_, ?_, ?_, ?_, ?_, ?_, ?_, ?_, trivial⟩
         · intro w1 hx1; change wpList _ _ _ _ _ _; have m0 := cell_of_row _ _ 0 _ _ _ (block_later HB.out hx1); have m1 := cell_of_row _ _ 1 _ _ _ (block_later HB.out hx1); have m2 := cell_of_row _ _ 2 _ _ _ (block_later HB.out hx1); have m3 := cell_of_row _ _ 3 _ _ _ (block_later HB.out hx1); have m4 := cell_of_row _ _ 4 _ _ _ (block_later HB.out hx1); have m5 := cell_of_row _ _ 5 _ _ _ (block_later HB.out hx1); go_wp2_with fail; exact ⟨rfl, Ext.refl _, rfl, rfl⟩
         · rintro w1 hx1 _ rfl; change wpList _ _ _ _ _ _; go_wp2_with fail; refine (CB.out _).mono ?_; rintro e w2 ⟨rfl, hx2⟩; go_wp2_with fail; exact ⟨rfl, hx2, rfl, rfl⟩
         · rintro w1 hx1 _ rfl; change wpList _ _ _ _ _ _; go_wp2_with fail; exact ⟨rfl, Ext.refl _, rfl, rfl⟩
         · rintro w1 hx1 _ rfl; change wpList _ _ _ _ _ _; exact ob_move rfl rfl rfl rfl rfl
         · rintro w1 hx1 _ rfl; change wpList _ _ _ _ _ _; have m0 := cell_of_row _ _ 0 _ _ _ (block_later HB.out hx1); have m1 := cell_of_row _ _ 1 _ _ _ (block_later HB.out hx1); have m2 := cell_of_row _ _ 2 _ _ _ (block_later HB.out hx1); have m3 := cell_of_row _ _ 3 _ _ _ (block_later HB.out hx1); have m4 := cell_of_row _ _ 4 _ _ _ (block_later HB.out hx1); have m5 := cell_of_row _ _ 5 _ _ _ (block_later HB.out hx1); go_wp2_with fail; exact ⟨rfl, Ext.refl _, rfl, rfl⟩
         · rintro w1 hx1 _ rfl _ rfl; change wpList _ _ _ _ _ _; go_wp2_with fail; refine (CN.out _).mono ?_; rintro e w2 ⟨rfl, hx2⟩; go_wp2_with fail; exact ⟨rfl, hx2, rfl, rfl⟩
         · rintro w1 hx1 _ rfl; change wpList _ _ _ _ _ _; have m0 := cell_of_row _ _ 0 _ _ _ (block_later HB.out hx1); have m1 := cell_of_row _ _ 1 _ _ _ (block_later HB.out hx1); have m2 := cell_of_row _ _ 2 _ _ _ (block_later HB.out hx1); have m3 := cell_of_row _ _ 3 _ _ _ (block_later HB.out hx1); have m4 := cell_of_row _ _ 4 _ _ _ (block_later HB.out hx1); have m5 := cell_of_row _ _ 5 _ _ _ (block_later HB.out hx1); go_wp2_with fail; exact ⟨rfl, Ext.refl _, rfl, rfl⟩
         · rintro w1 hx1 _ rfl _ rfl; change wpList _ _ _ _ _ _; go_wp2_with fail; refine (CB.out _).mono ?_; rintro e w2 ⟨rfl, hx2⟩; go_wp2_with fail; exact ⟨rfl, hx2, rfl, rfl⟩
         · rintro w1 hx1 _ rfl _ rfl _ rfl; change wpList _ _ _ _ _ _; go_wp2_with fail; exact ⟨rfl, Ext.refl _, rfl, rfl⟩
         · rintro w1 hx1 _ rfl _ rfl; change wpList _ _ _ _ _ _; exact ob_pick rfl rfl rfl rfl rfl rfl
         · rintro w1 hx1 _ rfl; change wpList _ _ _ _ _ _; exact ob_move rfl rfl rfl rfl rfl
         · rintro w1 hx1 _ rfl; change wpList _ _ _ _ _ _; have m0 := cell_of_row _ _ 0 _ _ _ (block_later HB.out hx1); have m1 := cell_of_row _ _ 1 _ _ _ (block_later HB.out hx1); have m2 := cell_of_row _ _ 2 _ _ _ (block_later HB.out hx1); have m3 := cell_of_row _ _ 3 _ _ _ (block_later HB.out hx1); have m4 := cell_of_row _ _ 4 _ _ _ (block_later HB.out hx1); have m5 := cell_of_row _ _ 5 _ _ _ (block_later HB.out hx1); go_wp2_with fail; exact ⟨rfl, Ext.refl _, rfl, rfl⟩
         · rintro w1 hx1 _ rfl _ rfl; change wpList _ _ _ _ _ _; go_wp2_with fail; refine (CN.out _).mono ?_; rintro e w2 ⟨rfl, hx2⟩; go_wp2_with fail; exact ⟨rfl, hx2, rfl, rfl⟩
         · rintro w1 hx1 _ rfl _ rfl; change wpList _ _ _ _ _ _; go_wp2_with fail; exact ⟨rfl, Ext.refl _, rfl, rfl⟩
         · rintro w1 hx1 _ rfl _ rfl; change wpList _ _ _ _ _ _; exact ob_pick rfl rfl rfl rfl rfl rfl
         · rintro w1 hx1 _ rfl; change wpList _ _ _ _ _ _; exact ob_assign rfl rfl rfl rfl rfl
       · rintro w1 hx1 _ rfl _ rfl _ rfl _ rfl _ rfl _ rfl _ rfl _ rfl _ rfl _ rfl _ rfl _ rfl _ rfl _ rfl _ rfl _ rfl; refine depsThen_nil ?_; dsimp only; simp only [Act.put, List.setIfInBounds_toArray, List.set_cons_zero, List.set_cons_succ]
         go_wp2_with fail
         go_ret
         exact ⟨by rw [HM.out]; rfl, HX.out.trans hx1⟩
     · have i3 : decide ((m : Int) ≤ 1099511627776) = false := decide_eq_false (by omega)
       have j3 : decide (m ≤ 1099511627776) = false := decide_eq_false h3
       have HM : Hid (F = false) := by show _ = _; rw [HF.out, j1, j2, j3]; rfl
       clear h1 h2 h3
       go_enter Tryz.func56, Tryz.ntmps56
       go_upto_region 1 with fail
       refine wp_region_facts [Fact.eq (.agg #[.int .u64 d.n, .int .u64 d.t, .string (strOf d.key), .slice d.ha d.av.length d.hc, .int .u64 d.f, .int .u64 d.g]),
        Fact.eq (.int .u64 (b : Nat)),
        Fact.eq (.bool true),
        Fact.eq (.bool true),
        Fact.eq (.agg #[.int .u64 d.n, .int .u64 d.t, .string (strOf d.key), .slice d.ha d.av.length d.hc, .int .u64 d.f, .int .u64 d.g]),
        Fact.eq (.int .u64 (m : Nat)),
        Fact.eq (.agg #[.int .u64 d.n, .int .u64 d.t, .string (strOf d.key), .slice d.ha d.av.length d.hc, .int .u64 d.f, .int .u64 d.g]),
        Fact.eq (.int .u64 (b : Nat)),
        Fact.eq (.bool true),
        Fact.eq (.bool true),
        Fact.eq (.bool true),
        Fact.eq (.agg #[.int .u64 d.n, .int .u64 d.t, .string (strOf d.key), .slice d.ha d.av.length d.hc, .int .u64 d.f, .int .u64 d.g]),
        Fact.eq (.int .u64 (m : Nat)),
        Fact.eq (.bool false),
        Fact.eq (.bool false),
        Fact.eq (.bool false)]
        [[], [(0, 3)], [(1, 4)], [(2, 5)], [(3, 6)], [(4, 7), (3, 6)], [(3, 6)], [(6, 9), (3, 6)], [(5, 8), (7, 10), (3, 6)], [(3, 6), (8, 11)], [(9, 12)], [(10, 13)], [(11, 14), (10, 13)], [(12, 15), (10, 13)], [(10, 13), (13, 16)], [(14, 17)]]
        [(0, 3), (1, 4), (2, 5), (3, 6), (4, 7), (5, 8), (6, 9), (7, 10), (8, 11), (9, 12), (10, 13), (11, 14), (12, 15), (13, 16), (14, 17), (15, 2)] (by kernel_rfl) (by kernel_rfl) ?_ ?_
       · refine ⟨?_, ?_, ?_, ?_, ?_, ?_, ?_, ?_, ?_, ?_, ?_, ?_, ?_, ?_, ?_, ?_, trivial⟩
         · intro w1 hx1; change wpList _ _ _ _ _ _; have m0 := cell_of_row _ _ 0 _ _ _ (block_later HB.out hx1); have m1 := cell_of_row _ _ 1 _ _ _ (block_later HB.out hx1); have m2 := cell_of_row _ _ 2 _ _ _ (block_later HB.out hx1); have m3 := cell_of_row _ _ 3 _ _ _ (block_later HB.out hx1); have m4 := cell_of_row _ _ 4 _ _ _ (block_later HB.out hx1); have m5 := cell_of_row _ _ 5 _ _ _ (block_later HB.out hx1); go_wp2_with fail; exact ⟨rfl, Ext.refl _, rfl, rfl⟩
         · rintro w1 hx1 _ rfl; change wpList _ _ _ _ _ _; go_wp2_with fail; refine (CB.out _).mono ?_; rintro e w2 ⟨rfl, hx2⟩; go_wp2_with fail; exact ⟨rfl, hx2, rfl, rfl⟩
         · rintro w1 hx1 _ rfl; change wpList _ _ _ _ _ _; go_wp2_with fail; exact ⟨rfl, Ext.refl _, rfl, rfl⟩
         · rintro w1 hx1 _ rfl; change wpList _ _ _ _ _ _; exact ob_move rfl rfl rfl rfl rfl
         · rintro w1 hx1 _ rfl; change wpList _ _ _ _ _ _; have m0 := cell_of_row _ _ 0 _ _ _ (block_later HB.out hx1); have m1 := cell_of_row _ _ 1 _ _ _ (block_later HB.out hx1); have m2 := cell_of_row _ _ 2 _ _ _ (block_later HB.out hx1); have m3 := cell_of_row _ _ 3 _ _ _ (block_later HB.out hx1); have m4 := cell_of_row _ _ 4 _ _ _ (block_later HB.out hx1); have m5 := cell_of_row _ _ 5 _ _ _ (block_later HB.out hx1); go_wp2_with fail; exact ⟨rfl, Ext.refl _, rfl, rfl⟩
         · rintro w1 hx1 _ rfl _ rfl; change wpList _ _ _ _ _ _; go_wp2_with fail; refine (CN.out _).mono ?_; rintro e w2 ⟨rfl, hx2⟩; go_wp2_with fail; exact ⟨rfl, hx2, rfl, rfl⟩
         · rintro w1 hx1 _ rfl; change wpList _ _ _ _ _ _; have m0 := cell_of_row _ _ 0 _ _ _ (block_later HB.out hx1); have m1 := cell_of_row _ _ 1 _ _ _ (block_later HB.out hx1); have m2 := cell_of_row _ _ 2 _ _ _ (block_later HB.out hx1); have m3 := cell_of_row _ _ 3 _ _ _ (block_later HB.out hx1); have m4 := cell_of_row _ _ 4 _ _ _ (block_later HB.out hx1); have m5 := cell_of_row _ _ 5 _ _ _ (block_later HB.out hx1); go_wp2_with fail; exact ⟨rfl, Ext.refl _, rfl, rfl⟩
         · rintro w1 hx1 _ rfl _ rfl; change wpList _ _ _ _ _ _; go_wp2_with fail; refine (CB.out _).mono ?_; rintro e w2 ⟨rfl, hx2⟩; go_wp2_with fail; exact ⟨rfl, hx2, rfl, rfl⟩
         · rintro w1 hx1 _ rfl _ rfl _ rfl; change wpList _ _ _ _ _ _; go_wp2_with fail; exact ⟨rfl, Ext.refl _, rfl, rfl⟩
         · rintro w1 hx1 _ rfl _ rfl; change wpList _ _ _ _ _ _; exact ob_pick rfl rfl rfl rfl rfl rfl
         · rintro w1 hx1 _ rfl; change wpList _ _ _ _ _ _; exact ob_move rfl rfl rfl rfl rfl
         · rintro w1 hx1 _ rfl; change wpList _ _ _ _ _ _; have m0 := cell_of_row _ _ 0 _ _ _ (block_later HB.out hx1); have m1 := cell_of_row _ _ 1 _ _ _ (block_later HB.out hx1); have m2 := cell_of_row _ _ 2 _ _ _ (block_later HB.out hx1); have m3 := cell_of_row _ _ 3 _ _ _ (block_later HB.out hx1); have m4 := cell_of_row _ _ 4 _ _ _ (block_later HB.out hx1); have m5 := cell_of_row _ _ 5 _ _ _ (block_later HB.out hx1); go_wp2_with fail; exact ⟨rfl, Ext.refl _, rfl, rfl⟩
         · rintro w1 hx1 _ rfl _ rfl; change wpList _ _ _ _ _ _; go_wp2_with fail; refine (CN.out _).mono ?_; rintro e w2 ⟨rfl, hx2⟩; go_wp2_with fail; exact ⟨rfl, hx2, rfl, rfl⟩
         · rintro w1 hx1 _ rfl _ rfl; change wpList _ _ _ _ _ _; go_wp2_with fail; exact ⟨rfl, Ext.refl _, rfl, rfl⟩
         · rintro w1 hx1 _ rfl _ rfl; change wpList _ _ _ _ _ _; exact ob_pick rfl rfl rfl rfl rfl rfl
         · rintro w1 hx1 _ rfl; change wpList _ _ _ _ _ _; exact ob_assign rfl rfl rfl rfl rfl
       · rintro w1 hx1 _ rfl _ rfl _ rfl _ rfl _ rfl _ rfl _ rfl _ rfl _ rfl _ rfl _ rfl _ rfl _ rfl _ rfl _ rfl _ rfl; refine depsThen_nil ?_; dsimp only; simp only [Act.put, List.setIfInBounds_toArray, List.set_cons_zero, List.set_cons_succ]
         go_wp2_with fail
         go_ret
         exact ⟨by rw [HM.out]; rfl, HX.out.trans hx1⟩
   · have i2 : decide ((m : Int) ≥ (b : Int)) = false := decide_eq_false (by omega)
     have j2 : decide (b ≤ m) = false := decide_eq_false h2
     have HM : Hid (F = false) := by show _ = _; rw [HF.out, j1, j2]; rfl
     clear h1 h2
     go_enter Tryz.func56, Tryz.ntmps56
     go_upto_region 1 with fail
     refine wp_region_facts [Fact.eq (.agg #[.int .u64 d.n, .int .u64 d.t, .string (strOf d.key), .slice d.ha d.av.length d.hc, .int .u64 d.f, .int .u64 d.g]),
      Fact.eq (.int .u64 (b : Nat)),
      Fact.eq (.bool true),
      Fact.eq (.bool true),
      Fact.eq (.agg #[.int .u64 d.n, .int .u64 d.t, .string (strOf d.key), .slice d.ha d.av.length d.hc, .int .u64 d.f, .int .u64 d.g]),
      Fact.eq (.int .u64 (m : Nat)),
      Fact.eq (.agg #[.int .u64 d.n, .int .u64 d.t, .string (strOf d.key), .slice d.ha d.av.length d.hc, .int .u64 d.f, .int .u64 d.g]),
      Fact.eq (.int .u64 (b : Nat)),
      Fact.eq (.bool false),
      Fact.eq (.bool false),
      Fact.eq (.bool false),
      Fact.eq undef,
      Fact.eq undef,
      Fact.eq undef,
      Fact.eq (.bool false),
      Fact.eq (.bool false)]
      [[], [(0, 3)], [(1, 4)], [(2, 5)], [(3, 6)], [(4, 7), (3, 6)], [(3, 6)], [(6, 9), (3, 6)], [(5, 8), (7, 10), (3, 6)], [(3, 6), (8, 11)], [(9, 12)], [(10, 13)], [(11, 14), (10, 13)], [(12, 15), (10, 13)], [(10, 13), (13, 16)], [(14, 17)]]
      [(0, 3), (1, 4), (2, 5), (3, 6), (4, 7), (5, 8), (6, 9), (7, 10), (8, 11), (9, 12), (10, 13), (11, 14), (12, 15), (13, 16), (14, 17), (15, 2)] (by kernel_rfl) (by kernel_rfl) ?_ ?_
     · refine ⟨?_, ?_, ?_, ?_, ?_, ?_, ?_, ?_, ?_, ?_, ?_, ?_, ?_, ?_, ?_, ?_, trivial⟩
       · intro w1 hx1; change wpList _ _ _ _ _ _; have m0 := cell_of_row _ _ 0 _ _ _ (block_later HB.out hx1); have m1 := cell_of_row _ _ 1 _ _ _ (block_later HB.out hx1); have m2 := cell_of_row _ _ 2 _ _ _ (block_later HB.out hx1); have m3 := cell_of_row _ _ 3 _ _ _ (block_later HB.out hx1); have m4 := cell_of_row _ _ 4 _ _ _ (block_later HB.out hx1); have m5 := cell_of_row _ _ 5 _ _ _ (block_later HB.out hx1); go_wp2_with fail; exact ⟨rfl, Ext.refl _, rfl, rfl⟩
       · rintro w1 hx1 _ rfl; change wpList _ _ _ _ _ _; go_wp2_with fail; refine (CB.out _).mono ?_; rintro e w2 ⟨rfl, hx2⟩; go_wp2_with fail; exact ⟨rfl, hx2, rfl, rfl⟩
       · rintro w1 hx1 _ rfl; change wpList _ _ _ _ _ _; go_wp2_with fail; exact ⟨rfl, Ext.refl _, rfl, rfl⟩
       · rintro w1 hx1 _ rfl; change wpList _ _ _ _ _ _; exact ob_move rfl rfl rfl rfl rfl
       · rintro w1 hx1 _ rfl; change wpList _ _ _ _ _ _; have m0 := cell_of_row _ _ 0 _ _ _ (block_later HB.out hx1); have m1 := cell_of_row _ _ 1 _ _ _ (block_later HB.out hx1); have m2 := cell_of_row _ _ 2 _ _ _ (block_later HB.out hx1); have m3 := cell_of_row _ _ 3 _ _ _ (block_later HB.out hx1); have m4 := cell_of_row _ _ 4 _ _ _ (block_later HB.out hx1); have m5 := cell_of_row _ _ 5 _ _ _ (block_later HB.out hx1); go_wp2_with fail; exact ⟨rfl, Ext.refl _, rfl, rfl⟩
       · rintro w1 hx1 _ rfl _ rfl; change wpList _ _ _ _ _ _; go_wp2_with fail; refine (CN.out _).mono ?_; rintro e w2 ⟨rfl, hx2⟩; go_wp2_with fail; exact ⟨rfl, hx2, rfl, rfl⟩
       · rintro w1 hx1 _ rfl; change wpList _ _ _ _ _ _; have m0 := cell_of_row _ _ 0 _ _ _ (block_later HB.out hx1); have m1 := cell_of_row _ _ 1 _ _ _ (block_later HB.out hx1); have m2 := cell_of_row _ _ 2 _ _ _ (block_later HB.out hx1); have m3 := cell_of_row _ _ 3 _ _ _ (block_later HB.out hx1); have m4 := cell_of_row _ _ 4 _ _ _ (block_later HB.out hx1); have m5 := cell_of_row _ _ 5 _ _ _ (block_later HB.out hx1); go_wp2_with fail; exact ⟨rfl, Ext.refl _, rfl, rfl⟩
       · rintro w1 hx1 _ rfl _ rfl; change wpList _ _ _ _ _ _; go_wp2_with fail; refine (CB.out _).mono ?_; rintro e w2 ⟨rfl, hx2⟩; go_wp2_with fail; exact ⟨rfl, hx2, rfl, rfl⟩
       · rintro w1 hx1 _ rfl _ rfl _ rfl; change wpList _ _ _ _ _ _; go_wp2_with fail; exact ⟨rfl, Ext.refl _, rfl, rfl⟩
       · rintro w1 hx1 _ rfl _ rfl; change wpList _ _ _ _ _ _; exact ob_pick rfl rfl rfl rfl rfl rfl
       · rintro w1 hx1 _ rfl; change wpList _ _ _ _ _ _; exact ob_move rfl rfl rfl rfl rfl
       · rintro w1 hx1 _ rfl; change wpList _ _ _ _ _ _; exact ob_skip rfl rfl rfl rfl
       · rintro w1 hx1 _ rfl _ rfl; change wpList _ _ _ _ _ _; exact ob_skip rfl rfl rfl rfl
       · rintro w1 hx1 _ rfl _ rfl; change wpList _ _ _ _ _ _; exact ob_skip rfl rfl rfl rfl
       · rintro w1 hx1 _ rfl _ rfl; change wpList _ _ _ _ _ _; exact ob_pick rfl rfl rfl rfl rfl rfl
       · rintro w1 hx1 _ rfl; change wpList _ _ _ _ _ _; exact ob_assign rfl rfl rfl rfl rfl
     · rintro w1 hx1 _ rfl _ rfl _ rfl _ rfl _ rfl _ rfl _ rfl _ rfl _ rfl _ rfl _ rfl _ rfl _ rfl _ rfl _ rfl _ rfl; refine depsThen_nil ?_; dsimp only; simp only [Act.put, List.setIfInBounds_toArray, List.set_cons_zero, List.set_cons_succ]
       go_wp2_with fail
       go_ret
       exact ⟨by rw [HM.out]; rfl, HX.out.trans hx1⟩
 · have i1 : decide ((b : Int) ≥ 1) = false := decide_eq_false (by omega)
   have j1 : decide (1 ≤ b) = false := decide_eq_false h1
   have HM : Hid (F = false) := by show _ = _; rw [HF.out, j1]; rfl
   clear h1
   go_enter Tryz.func56, Tryz.ntmps56
   go_upto_region 1 with fail
   refine wp_region_facts [Fact.eq (.agg #[.int .u64 d.n, .int .u64 d.t, .string (strOf d.key), .slice d.ha d.av.length d.hc, .int .u64 d.f, .int .u64 d.g]),
    Fact.eq (.int .u64 (b : Nat)),
    Fact.eq (.bool false),
    Fact.eq (.bool false),
    Fact.eq undef,
    Fact.eq undef,
    Fact.eq undef,
    Fact.eq undef,
    Fact.eq undef,
    Fact.eq (.bool false),
    Fact.eq (.bool false),
    Fact.eq undef,
    Fact.eq undef,
    Fact.eq undef,
    Fact.eq (.bool false),
    Fact.eq (.bool false)]
    [[], [(0, 3)], [(1, 4)], [(2, 5)], [(3, 6)], [(4, 7), (3, 6)], [(3, 6)], [(6, 9), (3, 6)], [(5, 8), (7, 10), (3, 6)], [(3, 6), (8, 11)], [(9, 12)], [(10, 13)], [(11, 14), (10, 13)], [(12, 15), (10, 13)], [(10, 13), (13, 16)], [(14, 17)]]
    [(0, 3), (1, 4), (2, 5), (3, 6), (4, 7), (5, 8), (6, 9), (7, 10), (8, 11), (9, 12), (10, 13), (11, 14), (12, 15), (13, 16), (14, 17), (15, 2)] (by kernel_rfl) (by kernel_rfl) ?_ ?_
   · refine ⟨?_, ?_, ?_, ?_, ?_, ?_, ?_, ?_, ?_, ?_, ?_, ?_, ?_, ?_, ?_, ?_, trivial⟩
     · intro w1 hx1; change wpList _ _ _ _ _ _; have m0 := cell_of_row _ _ 0 _ _ _ (block_later HB.out hx1); have m1 := cell_of_row _ _ 1 _ _ _ (block_later HB.out hx1); have m2 := cell_of_row _ _ 2 _ _ _ (block_later HB.out hx1); have m3 := cell_of_row _ _ 3 _ _ _ (block_later HB.out hx1); have m4 := cell_of_row _ _ 4 _ _ _ (block_later HB.out hx1); have m5 := cell_of_row _ _ 5 _ _ _ (block_later HB.out hx1); go_wp2_with fail; exact ⟨rfl, Ext.refl _, rfl, rfl⟩
     · rintro w1 hx1 _ rfl; change wpList _ _ _ _ _ _; go_wp2_with fail; refine (CB.out _).mono ?_; rintro e w2 ⟨rfl, hx2⟩; go_wp2_with fail; exact ⟨rfl, hx2, rfl, rfl⟩
     · rintro w1 hx1 _ rfl; change wpList _ _ _ _ _ _; go_wp2_with fail; exact ⟨rfl, Ext.refl _, rfl, rfl⟩
     · rintro w1 hx1 _ rfl; change wpList _ _ _ _ _ _; exact ob_move rfl rfl rfl rfl rfl
     · rintro w1 hx1 _ rfl; change wpList _ _ _ _ _ _; exact ob_skip rfl rfl rfl rfl
     · rintro w1 hx1 _ rfl _ rfl; change wpList _ _ _ _ _ _; exact ob_skip rfl rfl rfl rfl
     · rintro w1 hx1 _ rfl; change wpList _ _ _ _ _ _; exact ob_skip rfl rfl rfl rfl
     · rintro w1 hx1 _ rfl _ rfl; change wpList _ _ _ _ _ _; exact ob_skip rfl rfl rfl rfl
     · rintro w1 hx1 _ rfl _ rfl _ rfl; change wpList _ _ _ _ _ _; exact ob_skip rfl rfl rfl rfl
     · rintro w1 hx1 _ rfl _ rfl; change wpList _ _ _ _ _ _; exact ob_pick rfl rfl rfl rfl rfl rfl
     · rintro w1 hx1 _ rfl; change wpList _ _ _ _ _ _; exact ob_move rfl rfl rfl rfl rfl
     · rintro w1 hx1 _ rfl; change wpList _ _ _ _ _ _; exact ob_skip rfl rfl rfl rfl
     · rintro w1 hx1 _ rfl _ rfl; change wpList _ _ _ _ _ _; exact ob_skip rfl rfl rfl rfl
     · rintro w1 hx1 _ rfl _ rfl; change wpList _ _ _ _ _ _; exact ob_skip rfl rfl rfl rfl
     · rintro w1 hx1 _ rfl _ rfl; change wpList _ _ _ _ _ _; exact ob_pick rfl rfl rfl rfl rfl rfl
     · rintro w1 hx1 _ rfl; change wpList _ _ _ _ _ _; exact ob_assign rfl rfl rfl rfl rfl
   · rintro w1 hx1 _ rfl _ rfl _ rfl _ rfl _ rfl _ rfl _ rfl _ rfl _ rfl _ rfl _ rfl _ rfl _ rfl _ rfl _ rfl _ rfl; refine depsThen_nil ?_; dsimp only; simp only [Act.put, List.setIfInBounds_toArray, List.set_cons_zero, List.set_cons_succ]
     go_wp2_with fail
     go_ret
     exact ⟨by rw [HM.out]; rfl, HX.out.trans hx1⟩
def layM (l : List DM) (d : DM) : List DM := l.take (layAt (l.map DM.pd) d.pd.beg) ++ d :: l.drop (layAt (l.map DM.pd) d.pd.beg)
theorem layM_pd (l : List DM) (d : DM) : (layM l d).map DM.pd = layD (l.map DM.pd) d.pd := by
 unfold layM layD
 rw [List.map_append, List.map_cons, List.map_take, List.map_drop]
theorem layM_len (l : List DM) (d : DM) : (layM l d).length = l.length + 1 := by
 have := congrArg List.length (layM_pd l d)
 rw [List.length_map, layD_len, List.length_map] at this
 exact this
theorem layM_mem {l : List DM} {d x : DM} (h : x ∈ layM l d) : x = d ∨ x ∈ l := by
 unfold layM at h
 rcases List.mem_append.1 h with h | h
 · exact .inr (List.mem_of_mem_take h)
 · rcases List.mem_cons.1 h with h | h
   · exact .inl h
   · exact .inr (List.mem_of_mem_drop h)
theorem infoRd : (Tryz.prog.info? 104).map (fun i => (i.zero, i.size, i.bytes)) = some (some (.agg #[.int .u64 0, .int .u64 0, .string ⟨#[]⟩, .slice none 0 0, .int .u64 0, .int .u64 0]), 6, 72) := by kernel_rfl
theorem dCut {ops : Array Oper} {Q : Exit → Act → World → Prop} {a : Act} {w : World} {rest : List Oper} {o : Oper}
 (x : Operand) (lo hi : Option Operand) (us : List DM) (n i j : Nat)
 (ho : o.op = .slice 75 x lo hi none)
 (hw : Region.wanted o (yielded ops a.tmps) = true) (hx : Row w 6 (a.eval x) n (us.flatMap dmC))
 (hlo : BoundIs a lo 0 i) (hhi : BoundIs a hi n j) (hij : i ≤ j) (hj : j ≤ n)
 (h : ∀ v, Row w 6 v (j - i) (((us.take j).drop i).flatMap dmC) → wpList Tryz.prog ops Q rest (a.put o.dst v) w) : wpList Tryz.prog ops Q (o :: rest) a w := by
 refine wpList_cut 75 104 x lo hi 6 n i j _ ho Tryz.underlying75 (by kernel_rfl) hw hx hlo hhi hij hj fun v hv => h v ?_
 rw [flat_take dmC 6 dmC_len, flat_drop dmC 6 dmC_len] at hv
 exact hv
set_option maxRecDepth 100000 in
set_option maxHeartbeats 8000000 in
theorem lay_any (w : World) (v : Value) (l : List DM) (hl : Row w 6 v l.length (l.flatMap dmC)) (hlen : l.length ≤ 200) (d : DM) :
 Calls Tryz.prog 55 #[v, .agg #[.int .u64 d.n, .int .u64 d.t, .string (strOf d.key), .slice d.ha d.av.length d.hc, .int .u64 d.f, .int .u64 d.g]] w fun e w' => ∃ v', e = .returned v' ∧ w'.ownsRow w.heap.size 104 6 v' (l.length + 1) ((layM l d).flatMap dmC) ∧ Ext w w' := by
 obtain ⟨la, lc, rfl, hlc, hmx⟩ := Row.shape hl
 obtain ⟨hx, hb⟩ := boxes1 w (.cells #[.int .u64 d.n, .int .u64 d.t, .string (strOf d.key), .slice d.ha d.av.length d.hc, .int .u64 d.f, .int .u64 d.g] 104)
 have HB := Lib.hid hb
 have HX := Lib.hid hx
 have HL := Lib.hid (hl.ext hx)
 have CB := Lib.hid fun W => rbegins_any W d
 obtain ⟨A, hA⟩ : ∃ A, A = layAt (l.map DM.pd) d.pd.beg := ⟨_, rfl⟩
 have hAl : A ≤ l.length := by rw [hA]; have := layAt_le (l.map DM.pd) d.pd.beg; rwa [List.length_map] at this
 have HLOW : Hid (∀ i (h : i < l.length), i < A → l[i].pd.beg ≤ d.pd.beg) := fun i h hi => by
  have := layAt_low (l := l.map DM.pd) (b := d.pd.beg) (i := i) (by rw [← hA]; exact hi)
  rwa [List.getElem_map] at this
 have HHI : Hid (∀ h : A < l.length, d.pd.beg < l[A].pd.beg) := fun h => by
  have := layAt_hi (l := l.map DM.pd) (b := d.pd.beg) (by rw [← hA, List.length_map]; exact h)
  simp only [← hA, List.getElem_map] at this
  exact this
 have HLM : Hid (layM l d = l.take A ++ d :: l.drop A) := by show _ = _; unfold layM; rw [← hA]
 obtain ⟨n, hn⟩ : ∃ n, n = l.length := ⟨_, rfl⟩
 have HN := Lib.hid hn
 rw [← hn] at hlen hlc hAl HL ⊢
 clear hl hx hb hA hn
 generalize d.pd.beg = bd at *
 go_enter Tryz.func55, Tryz.ntmps55
 go_upto_block 0 with fail
 generalize hwb : w.alloc (.cells #[.int .u64 d.n, .int .u64 d.t, .string (strOf d.key), .slice d.ha d.av.length d.hc, .int .u64 d.f, .int .u64 d.g] 104) = wb at *
 clear hwb
 go_cut [5] from 7 to 22 (fun v5 wx => v5 = .int .i64 (A : Nat) ∧ Ext wb wx)
 case first =>
  go_wp2_with fail
  go_loopw [5] (fun iv wr => ∃ j : Nat, iv = .int .i64 j ∧ j ≤ A ∧ Hid (Ext wb wr)) (fun iv _ => A - (intOf iv).toNat)
  case atStart => exact ⟨0, rfl, Nat.zero_le _, Ext.refl _⟩
  case round =>
   obtain ⟨j, rfl, hj, hxq⟩ := hrel
   by_cases hjn : j < n
   · have hJ : decide ((j : Int) < (n : Int)) = true := decide_eq_true (by omega)
     have hjl : j < l.length := by have := HN.out; omega
     have hro : Row wr 6 (.slice la l.length lc) l.length (l.flatMap dmC) := by have := HL.out.ext hxq.out; rw [HN.out] at this; exact this
     obtain ⟨B, o, rfl, c0, c1, c2, c3, c4, c5⟩ := hro.atD hjl
     have CJ := Lib.hid fun W => rbegins_any W l[j]
     have hlow : j < A → l[j].pd.beg ≤ bd := HLOW.out j hjl
     have hhi : j = A → bd < l[j].pd.beg := fun e => by subst e; exact HHI.out hjl
     generalize l[j].pd.beg = bj at *
     obtain ⟨y, hy⟩ : ∃ y, y = l[j] := ⟨_, rfl⟩
     rw [← hy] at c0 c1 c2 c3 c4 c5 CJ
     clear hro hy
     by_cases hjA : j < A
     · have hle := hlow hjA
       have g1 : decide ((bj : Int) ≤ (bd : Int)) = true := decide_eq_true (by omega)
       have g1' : decide (bj ≤ bd) = true := decide_eq_true hle
       clear hlow hhi hle
       go_upto_region 2 with fail
       refine wp_region_facts [Fact.eq (.int .i64 j),
        Fact.eq (.slice (some ⟨B, o, none⟩) n lc),
        Fact.eq (.int .i64 n),
        Fact.eq (.bool true),
        Fact.eq (.bool true),
        Fact.eq (.slice (some ⟨B, o, none⟩) n lc),
        Fact.eq (.int .i64 j),
        Fact.eq (.pointer (some ⟨B, o + j * 6, none⟩)),
        Fact.eq (.agg #[.int .u64 y.n, .int .u64 y.t, .string (strOf y.key), .slice y.ha y.av.length y.hc, .int .u64 y.f, .int .u64 y.g]),
        Fact.eq (.int .u64 (bj : Nat)),
        Fact.eq (.agg #[.int .u64 d.n, .int .u64 d.t, .string (strOf d.key), .slice d.ha d.av.length d.hc, .int .u64 d.f, .int .u64 d.g]),
        Fact.eq (.int .u64 (bd : Nat)),
        Fact.eq (.bool true),
        Fact.eq (.bool true)]
        [[], [], [(1, 8)], [(0, 7), (2, 9)], [(3, 10)], [(4, 11)], [(4, 11)], [(5, 12), (6, 13), (4, 11)], [(7, 14), (4, 11)], [(8, 15), (4, 11)], [(4, 11)], [(10, 17), (4, 11)], [(9, 16), (11, 18), (4, 11)], [(4, 11), (12, 19)]]
        [(0, 7), (1, 8), (2, 9), (3, 10), (4, 11), (5, 12), (6, 13), (7, 14), (8, 15), (9, 16), (10, 17), (11, 18), (12, 19), (13, 20)] (by kernel_rfl) (by kernel_rfl) ?_ ?_
       · refine ⟨?_, ?_, ?_, ?_, ?_, ?_, ?_, ?_, ?_, ?_, ?_, ?_, ?_, ?_, trivial⟩
         · intro w1 hx1; change wpList _ _ _ _ _ _; exact ob_move rfl rfl rfl rfl rfl
         · intro w1 hx1; change wpList _ _ _ _ _ _; exact ob_move rfl rfl rfl rfl rfl
         · rintro w1 hx1 _ rfl; change wpList _ _ _ _ _ _; go_wp2_with fail; exact ⟨rfl, Ext.refl _, rfl, rfl⟩
         · rintro w1 hx1 _ rfl _ rfl; change wpList _ _ _ _ _ _; go_wp2_with fail; exact ⟨rfl, Ext.refl _, rfl, rfl⟩
         · rintro w1 hx1 _ rfl; change wpList _ _ _ _ _ _; exact ob_move rfl rfl rfl rfl rfl
         · rintro w1 hx1 _ rfl; change wpList _ _ _ _ _ _; exact ob_move rfl rfl rfl rfl rfl
         · rintro w1 hx1 _ rfl; change wpList _ _ _ _ _ _; exact ob_move rfl rfl rfl rfl rfl
         · rintro w1 hx1 _ rfl _ rfl _ rfl; change wpList _ _ _ _ _ _; go_wp2_with fail; exact ⟨rfl, Ext.refl _, rfl, rfl⟩
         · rintro w1 hx1 _ rfl _ rfl; change wpList _ _ _ _ _ _; have m0 := hx1.cell c0; have m1 := hx1.cell c1; have m2 := hx1.cell c2; have m3 := hx1.cell c3; have m4 := hx1.cell c4; have m5 := hx1.cell c5; go_wp2_with fail; exact ⟨rfl, Ext.refl _, rfl, rfl⟩
         · rintro w1 hx1 _ rfl _ rfl; change wpList _ _ _ _ _ _; go_wp2_with fail; refine (CJ.out _).mono ?_; rintro e w2 ⟨rfl, hx2⟩; go_wp2_with fail; exact ⟨rfl, hx2, rfl, rfl⟩
         · rintro w1 hx1 _ rfl; change wpList _ _ _ _ _ _; have m0 := cell_of_row _ _ 0 _ _ _ (block_later HB.out (hxq.out.trans hx1)); have m1 := cell_of_row _ _ 1 _ _ _ (block_later HB.out (hxq.out.trans hx1)); have m2 := cell_of_row _ _ 2 _ _ _ (block_later HB.out (hxq.out.trans hx1)); have m3 := cell_of_row _ _ 3 _ _ _ (block_later HB.out (hxq.out.trans hx1)); have m4 := cell_of_row _ _ 4 _ _ _ (block_later HB.out (hxq.out.trans hx1)); have m5 := cell_of_row _ _ 5 _ _ _ (block_later HB.out (hxq.out.trans hx1)); go_wp2_with fail; exact ⟨rfl, Ext.refl _, rfl, rfl⟩
         · rintro w1 hx1 _ rfl _ rfl; change wpList _ _ _ _ _ _; go_wp2_with fail; refine (CB.out _).mono ?_; rintro e w2 ⟨rfl, hx2⟩; go_wp2_with fail; exact ⟨rfl, hx2, rfl, rfl⟩
         · rintro w1 hx1 _ rfl _ rfl _ rfl; change wpList _ _ _ _ _ _; go_wp2_with fail; exact ⟨rfl, Ext.refl _, rfl, rfl⟩
         · rintro w1 hx1 _ rfl _ rfl; change wpList _ _ _ _ _ _; exact ob_pick rfl rfl rfl rfl rfl rfl
       · rintro w1 hx1 _ rfl _ rfl _ rfl _ rfl _ rfl _ rfl _ rfl _ rfl _ rfl _ rfl _ rfl _ rfl _ rfl _ rfl; refine depsThen_nil ?_; dsimp only; simp only [Act.put, List.setIfInBounds_toArray, List.set_cons_zero, List.set_cons_succ]
         go_wp2_with fail
         go_roundw
         case rel => exact ⟨j + 1, by rw [Int.natCast_add]; rfl, by omega, hxq.out.trans hx1⟩
         case measure => simp [intOf]; omega
     · have hlt := hhi (by omega)
       have g1 : decide ((bj : Int) ≤ (bd : Int)) = false := decide_eq_false (by omega)
       have g1' : decide (bj ≤ bd) = false := decide_eq_false (by omega)
       have hjA2 : j = A := by omega
       clear hlow hhi hlt
       subst hjA2
       go_upto_region 2 with fail
       refine wp_region_facts [Fact.eq (.int .i64 j),
        Fact.eq (.slice (some ⟨B, o, none⟩) n lc),
        Fact.eq (.int .i64 n),
        Fact.eq (.bool true),
        Fact.eq (.bool true),
        Fact.eq (.slice (some ⟨B, o, none⟩) n lc),
        Fact.eq (.int .i64 j),
        Fact.eq (.pointer (some ⟨B, o + j * 6, none⟩)),
        Fact.eq (.agg #[.int .u64 y.n, .int .u64 y.t, .string (strOf y.key), .slice y.ha y.av.length y.hc, .int .u64 y.f, .int .u64 y.g]),
        Fact.eq (.int .u64 (bj : Nat)),
        Fact.eq (.agg #[.int .u64 d.n, .int .u64 d.t, .string (strOf d.key), .slice d.ha d.av.length d.hc, .int .u64 d.f, .int .u64 d.g]),
        Fact.eq (.int .u64 (bd : Nat)),
        Fact.eq (.bool false),
        Fact.eq (.bool false)]
        [[], [], [(1, 8)], [(0, 7), (2, 9)], [(3, 10)], [(4, 11)], [(4, 11)], [(5, 12), (6, 13), (4, 11)], [(7, 14), (4, 11)], [(8, 15), (4, 11)], [(4, 11)], [(10, 17), (4, 11)], [(9, 16), (11, 18), (4, 11)], [(4, 11), (12, 19)]]
        [(0, 7), (1, 8), (2, 9), (3, 10), (4, 11), (5, 12), (6, 13), (7, 14), (8, 15), (9, 16), (10, 17), (11, 18), (12, 19), (13, 20)] (by kernel_rfl) (by kernel_rfl) ?_ ?_
       · refine ⟨?_, ?_, ?_, ?_, ?_, ?_, ?_, ?_, ?_, ?_, ?_, ?_, ?_, ?_, trivial⟩
         · intro w1 hx1; change wpList _ _ _ _ _ _; exact ob_move rfl rfl rfl rfl rfl
         · intro w1 hx1; change wpList _ _ _ _ _ _; exact ob_move rfl rfl rfl rfl rfl
         · rintro w1 hx1 _ rfl; change wpList _ _ _ _ _ _; go_wp2_with fail; exact ⟨rfl, Ext.refl _, rfl, rfl⟩
         · rintro w1 hx1 _ rfl _ rfl; change wpList _ _ _ _ _ _; go_wp2_with fail; exact ⟨rfl, Ext.refl _, rfl, rfl⟩
         · rintro w1 hx1 _ rfl; change wpList _ _ _ _ _ _; exact ob_move rfl rfl rfl rfl rfl
         · rintro w1 hx1 _ rfl; change wpList _ _ _ _ _ _; exact ob_move rfl rfl rfl rfl rfl
         · rintro w1 hx1 _ rfl; change wpList _ _ _ _ _ _; exact ob_move rfl rfl rfl rfl rfl
         · rintro w1 hx1 _ rfl _ rfl _ rfl; change wpList _ _ _ _ _ _; go_wp2_with fail; exact ⟨rfl, Ext.refl _, rfl, rfl⟩
         · rintro w1 hx1 _ rfl _ rfl; change wpList _ _ _ _ _ _; have m0 := hx1.cell c0; have m1 := hx1.cell c1; have m2 := hx1.cell c2; have m3 := hx1.cell c3; have m4 := hx1.cell c4; have m5 := hx1.cell c5; go_wp2_with fail; exact ⟨rfl, Ext.refl _, rfl, rfl⟩
         · rintro w1 hx1 _ rfl _ rfl; change wpList _ _ _ _ _ _; go_wp2_with fail; refine (CJ.out _).mono ?_; rintro e w2 ⟨rfl, hx2⟩; go_wp2_with fail; exact ⟨rfl, hx2, rfl, rfl⟩
         · rintro w1 hx1 _ rfl; change wpList _ _ _ _ _ _; have m0 := cell_of_row _ _ 0 _ _ _ (block_later HB.out (hxq.out.trans hx1)); have m1 := cell_of_row _ _ 1 _ _ _ (block_later HB.out (hxq.out.trans hx1)); have m2 := cell_of_row _ _ 2 _ _ _ (block_later HB.out (hxq.out.trans hx1)); have m3 := cell_of_row _ _ 3 _ _ _ (block_later HB.out (hxq.out.trans hx1)); have m4 := cell_of_row _ _ 4 _ _ _ (block_later HB.out (hxq.out.trans hx1)); have m5 := cell_of_row _ _ 5 _ _ _ (block_later HB.out (hxq.out.trans hx1)); go_wp2_with fail; exact ⟨rfl, Ext.refl _, rfl, rfl⟩
         · rintro w1 hx1 _ rfl _ rfl; change wpList _ _ _ _ _ _; go_wp2_with fail; refine (CB.out _).mono ?_; rintro e w2 ⟨rfl, hx2⟩; go_wp2_with fail; exact ⟨rfl, hx2, rfl, rfl⟩
         · rintro w1 hx1 _ rfl _ rfl _ rfl; change wpList _ _ _ _ _ _; go_wp2_with fail; exact ⟨rfl, Ext.refl _, rfl, rfl⟩
         · rintro w1 hx1 _ rfl _ rfl; change wpList _ _ _ _ _ _; exact ob_pick rfl rfl rfl rfl rfl rfl
       · rintro w1 hx1 _ rfl _ rfl _ rfl _ rfl _ rfl _ rfl _ rfl _ rfl _ rfl _ rfl _ rfl _ rfl _ rfl _ rfl; refine depsThen_nil ?_; dsimp only; simp only [Act.put, List.setIfInBounds_toArray, List.set_cons_zero, List.set_cons_succ]
         go_wp2_with fail
         go_meet
         exact ⟨rfl, hxq.out.trans hx1⟩
   · have hJ : decide ((j : Int) < (n : Int)) = false := decide_eq_false (by omega)
     have hjA2 : j = A := by omega
     subst hjA2
     go_upto_region 2 with fail
     refine wp_region_facts [Fact.eq (.int .i64 j),
      Fact.eq (.slice la n lc),
      Fact.eq (.int .i64 n),
      Fact.eq (.bool false),
      Fact.eq (.bool false),
      Fact.eq undef,
      Fact.eq undef,
      Fact.eq undef,
      Fact.eq undef,
      Fact.eq undef,
      Fact.eq undef,
      Fact.eq undef,
      Fact.eq undef,
      Fact.eq (.bool false)]
      [[], [], [(1, 8)], [(0, 7), (2, 9)], [(3, 10)], [(4, 11)], [(4, 11)], [(5, 12), (6, 13), (4, 11)], [(7, 14), (4, 11)], [(8, 15), (4, 11)], [(4, 11)], [(10, 17), (4, 11)], [(9, 16), (11, 18), (4, 11)], [(4, 11), (12, 19)]]
      [(0, 7), (1, 8), (2, 9), (3, 10), (4, 11), (5, 12), (6, 13), (7, 14), (8, 15), (9, 16), (10, 17), (11, 18), (12, 19), (13, 20)] (by kernel_rfl) (by kernel_rfl) ?_ ?_
     · refine ⟨?_, ?_, ?_, ?_, ?_, ?_, ?_, ?_, ?_, ?_, ?_, ?_, ?_, ?_, trivial⟩
       · intro w1 hx1; change wpList _ _ _ _ _ _; exact ob_move rfl rfl rfl rfl rfl
       · intro w1 hx1; change wpList _ _ _ _ _ _; exact ob_move rfl rfl rfl rfl rfl
       · rintro w1 hx1 _ rfl; change wpList _ _ _ _ _ _; go_wp2_with fail; exact ⟨rfl, Ext.refl _, rfl, rfl⟩
       · rintro w1 hx1 _ rfl _ rfl; change wpList _ _ _ _ _ _; go_wp2_with fail; exact ⟨rfl, Ext.refl _, rfl, rfl⟩
       · rintro w1 hx1 _ rfl; change wpList _ _ _ _ _ _; exact ob_move rfl rfl rfl rfl rfl
       · rintro w1 hx1 _ rfl; change wpList _ _ _ _ _ _; exact ob_skip rfl rfl rfl rfl
       · rintro w1 hx1 _ rfl; change wpList _ _ _ _ _ _; exact ob_skip rfl rfl rfl rfl
       · rintro w1 hx1 _ rfl _ rfl _ rfl; change wpList _ _ _ _ _ _; exact ob_skip rfl rfl rfl rfl
       · rintro w1 hx1 _ rfl _ rfl; change wpList _ _ _ _ _ _; exact ob_skip rfl rfl rfl rfl
       · rintro w1 hx1 _ rfl _ rfl; change wpList _ _ _ _ _ _; exact ob_skip rfl rfl rfl rfl
       · rintro w1 hx1 _ rfl; change wpList _ _ _ _ _ _; exact ob_skip rfl rfl rfl rfl
       · rintro w1 hx1 _ rfl _ rfl; change wpList _ _ _ _ _ _; exact ob_skip rfl rfl rfl rfl
       · rintro w1 hx1 _ rfl _ rfl _ rfl; change wpList _ _ _ _ _ _; exact ob_skip rfl rfl rfl rfl
       · rintro w1 hx1 _ rfl _ rfl; change wpList _ _ _ _ _ _; exact ob_pick rfl rfl rfl rfl rfl rfl
     · rintro w1 hx1 _ rfl _ rfl _ rfl _ rfl _ rfl _ rfl _ rfl _ rfl _ rfl _ rfl _ rfl _ rfl _ rfl _ rfl; refine depsThen_nil ?_; dsimp only; simp only [Act.put, List.setIfInBounds_toArray, List.set_cons_zero, List.set_cons_succ]
       go_wp2_with fail
       go_meet
       exact ⟨rfl, hxq.out.trans hx1⟩
 case rest =>
  obtain ⟨rfl, hxc⟩ := hcut
  have HXC := Lib.hid hxc
  have HBC := Lib.hid (block_later HB.out hxc)
  have HLC := Lib.hid (HL.out.ext hxc)
  clear hxc HL HB
  go_upto_region 6 with (first
   | (refine dCut (.tmp 24) none (some (.tmp 25)) l n 0 A rfl rfl HLC.out rfl ⟨_, _, rfl, by omega, by omega⟩ (Nat.zero_le _) (by omega) ?_; intro v26 h26; rw [List.drop_zero, Nat.sub_zero] at h26; obtain ⟨a26, c26, rfl, _, _⟩ := Row.shape h26; have H26 := Lib.hid h26; clear h26)
   | (at_builtin; refine wpList_append_row 75 104 (.tmp 23) (.tmp 26) rfl wc.heap.size _ 6 72 Tryz.underlying75 infoRd rfl (by decide) rfl (.slice none 0 0) 0 [] rfl (own_none _ _ _ _) A ((l.take A).flatMap dmC) H26.out (flat_one dmC_one _) (by omega) (by unfold maxLen; omega) (Nat.le_refl _) ?_; intro v27 w9 hown9 hg9; have HO9 := Lib.hid hown9; have HX9 := Lib.hid ((Ext.refl wc).grown_none (v := .slice none 0 0) hg9 (fun q hq => by cases hq)); clear hown9 hg9))
  have hown9 : w9.ownsRow wc.heap.size 104 6 v27 A ((l.take A).flatMap dmC) := by have h := HO9.out; rw [Nat.zero_add, List.nil_append] at h; exact h
  obtain ⟨a27, c27, rfl, _, _⟩ := own_shape hown9
  have hbx := block_later HBC.out HX9.out
  have t0 := cell_of_row _ _ 0 _ _ _ hbx
  have t1 := cell_of_row _ _ 1 _ _ _ hbx
  have t2 := cell_of_row _ _ 2 _ _ _ hbx
  have t3 := cell_of_row _ _ 3 _ _ _ hbx
  have t4 := cell_of_row _ _ 4 _ _ _ hbx
  have t5 := cell_of_row _ _ 5 _ _ _ hbx
  have hxb : Ext w9 (w9.alloc (.cells #[.int .u64 d.n, .int .u64 d.t, .string (strOf d.key), .slice d.ha d.av.length d.hc, .int .u64 d.f, .int .u64 d.g] 104)) := (Ext.refl w9).alloc _
  have HROW : Hid (Row (w9.alloc (.cells (dmC d).toArray 104)) 6 (.slice (some ⟨w9.heap.size, 0, none⟩) 1 1) 1 (dmC d)) := Row.of_own (World.ownsRow_lit (base := w9.heap.size) (e := 104) (size := 6) w9 (dmC d).toArray 1 (Nat.le_refl _) (by decide) rfl)
  have HO10 := Lib.hid (own_ext hown9 hxb)
  have HX10 := Lib.hid (HX9.out.trans hxb)
  have hb10 : wc.heap.size ≤ (w9.alloc (.cells #[.int .u64 d.n, .int .u64 d.t, .string (strOf d.key), .slice d.ha d.av.length d.hc, .int .u64 d.f, .int .u64 d.g] 104)).heap.size := HX10.out.size
  clear hown9 HO9 HX9 hxb H26 hbx
  go_upto_region 7 with (at_builtin; refine wpList_append_row 75 104 (.tmp 28) (.tmp 30) rfl wc.heap.size _ 6 72 Tryz.underlying75 infoRd rfl (by decide) rfl _ A ((l.take A).flatMap dmC) rfl HO10.out 1 (dmC d) HROW.out (dmC_one d) (by omega) (by unfold maxLen; omega) hb10 ?_; intro v31 w11 hown11 hg11; have HO11 := Lib.hid hown11; have HG11 := Lib.hid hg11; clear hown11 hg11)
  obtain ⟨a31, c31, rfl, _, _⟩ := own_shape HO11.out
  have HX11 := Lib.hid (HX10.out.grown_none HG11.out (own_base HO10.out))
  have HLc : Hid (Row w11 6 (.slice la n lc) n (l.flatMap dmC)) := HLC.out.ext HX11.out
  have hb11 : wc.heap.size ≤ w11.heap.size := HX11.out.size
  clear HO10 HROW HX10 HG11 t0 t1 t2 t3 t4 t5 HLC
  go_wp2_with (first
   | (refine dCut (.tmp 33) (some (.tmp 34)) none l n A n rfl rfl HLc.out ⟨_, _, rfl, by omega, by omega⟩ rfl (by omega) (Nat.le_refl _) ?_; intro v35 h35; obtain ⟨a35, c35, rfl, _, _⟩ := Row.shape h35; have H35 := Lib.hid h35; clear h35)
   | (at_builtin; refine wpList_append_row 75 104 (.tmp 32) (.tmp 35) rfl wc.heap.size _ 6 72 Tryz.underlying75 infoRd rfl (by decide) rfl _ (A + 1) ((l.take A).flatMap dmC ++ dmC d) rfl HO11.out (n - A) (((l.take n).drop A).flatMap dmC) H35.out (flat_one dmC_one _) (by omega) (by unfold maxLen; omega) hb11 ?_; intro v36 w12 hown12 hg12; have HO12 := Lib.hid hown12; have HX12 := Lib.hid (HX11.out.grown_none hg12 (own_base HO11.out)); clear hown12 hg12))
  obtain ⟨a36, c36, rfl, _, _⟩ := own_shape HO12.out
  go_ret
  refine ⟨.slice a36 (A + 1 + (n - A)) c36, rfl, ?_, (HX.out.trans HXC.out).trans HX12.out⟩
  have h := own_low HO12.out (b2 := w.heap.size) (HX.out.trans HXC.out).size
  have e1 : l.take n = l := List.take_of_length_le (by rw [HN.out]; exact Nat.le_refl _)
  rw [e1] at h
  have e2 : n + 1 = A + 1 + (n - A) := by omega
  have e3 : (layM l d).flatMap dmC = (l.take A).flatMap dmC ++ dmC d ++ (l.drop A).flatMap dmC := by rw [HLM.out, List.flatMap_append, List.flatMap_cons, List.append_assoc]
  rw [e2, e3]
  exact h
end Go.Proofs.YtaklnpjpndkccaaGreat
namespace Go.Proofs.YtaklnpjpndkccaaGreat
open Go.RowKit
set_option maxRecDepth 100000 in
set_option maxHeartbeats 8000000 in
theorem rwhole_any (w : World) (a b : V) :
 Calls Tryz.prog 108 #[.agg #[.int .i64 a.k, .int .i64 a.n, .string (strOf a.s), .bool a.b], .agg #[.int .i64 b.k, .int .i64 b.n, .string (strOf b.s), .bool b.b]] w fun e w' => e = .returned (.int .i64 (wholeV a b)) ∧ Grew w w' := by
 obtain ⟨hx0, hb1, hb2⟩ := boxes2 w (.cells #[.int .i64 a.k, .int .i64 a.n, .string (strOf a.s), .bool a.b] 80) (.cells #[.int .i64 b.k, .int .i64 b.n, .string (strOf b.s), .bool b.b] 80)
 have hg0 : Grew w ((w.alloc (.cells #[.int .i64 a.k, .int .i64 a.n, .string (strOf a.s), .bool a.b] 80)).alloc (.cells #[.int .i64 b.k, .int .i64 b.n, .string (strOf b.s), .bool b.b] 80)) := ((Grew.refl w).alloc _).alloc _
 have h1 : ∀ W, Calls Tryz.prog 107 #[.agg #[.int .i64 a.k, .int .i64 a.n, .string (strOf a.s), .bool a.b], .agg #[.int .i64 b.k, .int .i64 b.n, .string (strOf b.s), .bool b.b]] W fun e w' => e = .returned (.int .i64 (cmpV a b)) ∧ Grew W w' := fun W => rcompare_any W a.k a.n b.k b.n a.s b.s a.b b.b
 have h2 : ∀ W, Calls Tryz.prog 107 #[.agg #[.int .i64 1, .int .i64 a.n, .string ⟨#[]⟩, .bool false], .agg #[.int .i64 1, .int .i64 b.n, .string ⟨#[]⟩, .bool false]] W fun e w' => e = .returned (.int .i64 (Lib.compareInt a.n b.n)) ∧ Grew W w' := fun W => rcompare_any W 1 a.n 1 b.n [] [] false false
 have h3 : ∀ W, Calls Tryz.prog 107 #[.agg #[.int .i64 2, .int .i64 0, .string (strOf a.s), .bool false], .agg #[.int .i64 2, .int .i64 0, .string (strOf b.s), .bool false]] W fun e w' => e = .returned (.int .i64 (Lib.compareBytes a.s b.s)) ∧ Grew W w' := fun W => rcompare_any W 2 0 2 0 a.s b.s false false
 have h4 : ∀ W, Calls Tryz.prog 107 #[.agg #[.int .i64 3, .int .i64 0, .string ⟨#[]⟩, .bool a.b], .agg #[.int .i64 3, .int .i64 0, .string ⟨#[]⟩, .bool b.b]] W fun e w' => e = .returned (.int .i64 (cmpB a.b b.b)) ∧ Grew W w' := fun W => rcompare_any W 3 0 3 0 [] [] a.b b.b
 have H1 := Lib.hid h1
 have H2 := Lib.hid h2
 have H3 := Lib.hid h3
 have H4 := Lib.hid h4
 have HB1 := Lib.hid hb1
 have HB2 := Lib.hid hb2
 have HG0 := Lib.hid hg0
 have a0 := cell_of_row _ _ 0 _ _ _ hb1
 have a1 := cell_of_row _ _ 1 _ _ _ hb1
 have a2 := cell_of_row _ _ 2 _ _ _ hb1
 have a3 := cell_of_row _ _ 3 _ _ _ hb1
 have b0 := cell_of_row _ _ 0 _ _ _ hb2
 have b1 := cell_of_row _ _ 1 _ _ _ hb2
 have b2 := cell_of_row _ _ 2 _ _ _ hb2
 have b3 := cell_of_row _ _ 3 _ _ _ hb2
 clear h1 h2 h3 h4 hx0 hb1 hb2 hg0
 have hw : wholeV a b = if cmpV a b = 0 then (if Lib.compareInt a.n b.n = 0 then (if Lib.compareBytes a.s b.s = 0 then cmpB a.b b.b else Lib.compareBytes a.s b.s) else Lib.compareInt a.n b.n) else cmpV a b := rfl
 rw [hw]
 clear hw
 generalize cmpV a b = r1 at *
 generalize Lib.compareInt a.n b.n = r2 at *
 generalize Lib.compareBytes a.s b.s = r3 at *
 generalize cmpB a.b b.b = r4 at *
 by_cases z1 : r1 = 0
 · subst z1
   by_cases z2 : r2 = 0
   · subst z2
     by_cases z3 : r3 = 0
     · subst z3
       rw [if_pos rfl, if_pos rfl, if_pos rfl]
       go_enter Tryz.func108, Tryz.ntmps108
       go_upto_region 1 with fail
       generalize (w.alloc (.cells #[.int .i64 a.k, .int .i64 a.n, .string (strOf a.s), .bool a.b] 80)).alloc (.cells #[.int .i64 b.k, .int .i64 b.n, .string (strOf b.s), .bool b.b] 80) = w0 at *
       have HX0 : Hid (Grew w0 w0) := Grew.refl w0
       go_upto_region 2 with (go_at_call 107; (with_reducible refine (H1.out _).mono ?_); rintro e w1 ⟨rfl, hx⟩; have HX1 := Lib.hid (HX0.out.trans hx); clear hx)
       have a1' := HX1.out.1.cell a1
       have b1' := HX1.out.1.cell b1
       go_upto_region 5 with (go_at_call 107; (with_reducible refine (H2.out _).mono ?_); rintro e w2 ⟨rfl, hx⟩; have HX2 := Lib.hid (HX1.out.trans hx); clear hx)
       have a2' := HX2.out.1.cell a2
       have b2' := HX2.out.1.cell b2
       go_upto_region 8 with (go_at_call 107; (with_reducible refine (H3.out _).mono ?_); rintro e w3 ⟨rfl, hx⟩; have HX3 := Lib.hid (HX2.out.trans hx); clear hx)
       have a3' := HX3.out.1.cell a3
       have b3' := HX3.out.1.cell b3
       go_wp2_with (go_at_call 107; (with_reducible refine (H4.out _).mono ?_); rintro e w4 ⟨rfl, hx⟩; have HX4 := Lib.hid (HX3.out.trans hx); clear hx)
       go_ret
       exact ⟨rfl, HG0.out.trans HX4.out⟩
     · have d3 := beq_int_ne z3
       have d3' : (r3 != 0) = true := by simp [z3]
       rw [if_pos rfl, if_pos rfl, if_neg z3]
       clear z3
       go_enter Tryz.func108, Tryz.ntmps108
       go_upto_region 1 with fail
       generalize (w.alloc (.cells #[.int .i64 a.k, .int .i64 a.n, .string (strOf a.s), .bool a.b] 80)).alloc (.cells #[.int .i64 b.k, .int .i64 b.n, .string (strOf b.s), .bool b.b] 80) = w0 at *
       have HX0 : Hid (Grew w0 w0) := Grew.refl w0
       go_upto_region 2 with (go_at_call 107; (with_reducible refine (H1.out _).mono ?_); rintro e w1 ⟨rfl, hx⟩; have HX1 := Lib.hid (HX0.out.trans hx); clear hx)
       have a1' := HX1.out.1.cell a1
       have b1' := HX1.out.1.cell b1
       go_upto_region 5 with (go_at_call 107; (with_reducible refine (H2.out _).mono ?_); rintro e w2 ⟨rfl, hx⟩; have HX2 := Lib.hid (HX1.out.trans hx); clear hx)
       have a2' := HX2.out.1.cell a2
       have b2' := HX2.out.1.cell b2
       go_wp2_with (go_at_call 107; (with_reducible refine (H3.out _).mono ?_); rintro e w3 ⟨rfl, hx⟩; have HX3 := Lib.hid (HX2.out.trans hx); clear hx)
       go_ret
       exact ⟨rfl, HG0.out.trans HX3.out⟩
   · have d2 := beq_int_ne z2
     have d2' : (r2 != 0) = true := by simp [z2]
     rw [if_pos rfl, if_neg z2]
     clear z2
     go_enter Tryz.func108, Tryz.ntmps108
     go_upto_region 1 with fail
     generalize (w.alloc (.cells #[.int .i64 a.k, .int .i64 a.n, .string (strOf a.s), .bool a.b] 80)).alloc (.cells #[.int .i64 b.k, .int .i64 b.n, .string (strOf b.s), .bool b.b] 80) = w0 at *
     have HX0 : Hid (Grew w0 w0) := Grew.refl w0
     go_upto_region 2 with (go_at_call 107; (with_reducible refine (H1.out _).mono ?_); rintro e w1 ⟨rfl, hx⟩; have HX1 := Lib.hid (HX0.out.trans hx); clear hx)
     have a1' := HX1.out.1.cell a1
     have b1' := HX1.out.1.cell b1
     go_wp2_with (go_at_call 107; (with_reducible refine (H2.out _).mono ?_); rintro e w2 ⟨rfl, hx⟩; have HX2 := Lib.hid (HX1.out.trans hx); clear hx)
     go_ret
     exact ⟨rfl, HG0.out.trans HX2.out⟩
 · have d1 := beq_int_ne z1
   have d1' : (r1 != 0) = true := by simp [z1]
   rw [if_neg z1]
   clear z1
   go_enter Tryz.func108, Tryz.ntmps108
   go_upto_region 1 with fail
   generalize (w.alloc (.cells #[.int .i64 a.k, .int .i64 a.n, .string (strOf a.s), .bool a.b] 80)).alloc (.cells #[.int .i64 b.k, .int .i64 b.n, .string (strOf b.s), .bool b.b] 80) = w0 at *
   have HX0 : Hid (Grew w0 w0) := Grew.refl w0
   go_wp2_with (go_at_call 107; (with_reducible refine (H1.out _).mono ?_); rintro e w1 ⟨rfl, hx⟩; have HX1 := Lib.hid (HX0.out.trans hx); clear hx)
   go_ret
   exact ⟨rfl, HG0.out.trans HX1.out⟩
end Go.Proofs.YtaklnpjpndkccaaGreat
namespace Go.Proofs.YtaklnpjpndkccaaGreat
open Go.RowKit
theorem cmpI_cases (x y : Int) : (Lib.compareInt x y = -1 ∧ decide (x < y) = true ∧ (x == y) = false) ∨ (x = y ∧ Lib.compareInt x y = 0) ∨ (Lib.compareInt x y = 1 ∧ decide (x < y) = false ∧ (x == y) = false) := by
 unfold Lib.compareInt
 by_cases h1 : x < y
 · exact .inl ⟨by rw [if_pos h1], decide_eq_true h1, beq_eq_false_iff_ne.2 (by omega)⟩
 · by_cases h2 : x > y
   · exact .inr (.inr ⟨by rw [if_neg h1, if_pos h2], decide_eq_false h1, beq_eq_false_iff_ne.2 (by omega)⟩)
   · exact .inr (.inl ⟨by omega, by rw [if_neg h1, if_neg h2]⟩)
set_option maxRecDepth 100000 in
set_option maxHeartbeats 16000000 in
theorem rorder_any (w : World) (a b : C) (sa : Option Addr) (ca : Nat) (sb : Option Addr) (cb : Nat) (ha : SetR w (.slice sa a.set.length ca) a.set) (hb : SetR w (.slice sb b.set.length cb) b.set) :
 Calls Tryz.prog 72 #[.agg #[.string (strOf a.name), .int .i64 a.op, .int .i64 a.v.k, .int .i64 a.v.n, .string (strOf a.v.s), .bool a.v.b, .slice sa a.set.length ca], .agg #[.string (strOf b.name), .int .i64 b.op, .int .i64 b.v.k, .int .i64 b.v.n, .string (strOf b.v.s), .bool b.v.b, .slice sb b.set.length cb]] w fun e w' => e = .returned (.int .i64 (orderC a b)) ∧ Ext w w' := by
 obtain ⟨hx0, hb1, hb2⟩ := boxes2 w (.cells #[.string (strOf a.name), .int .i64 a.op, .int .i64 a.v.k, .int .i64 a.v.n, .string (strOf a.v.s), .bool a.v.b, .slice sa a.set.length ca] 94) (.cells #[.string (strOf b.name), .int .i64 b.op, .int .i64 b.v.k, .int .i64 b.v.n, .string (strOf b.v.s), .bool b.v.b, .slice sb b.set.length cb] 94)
 have hres : orderC a b = if Lib.compareBytes a.name b.name = 0 then (if Lib.compareInt a.op b.op = 0 then (if wholeV a.v b.v = 0 then cmpL wholeV a.set b.set else wholeV a.v b.v) else Lib.compareInt a.op b.op) else Lib.compareBytes a.name b.name := rfl
 rw [hres]
 clear hres
 obtain ⟨hc1, hm1⟩ : a.set.length ≤ ca ∧ ca ≤ maxLen := by obtain ⟨a', c', e, h1, h2⟩ := Row.shape ha; cases e; exact ⟨h1, h2⟩
 obtain ⟨hc2, hm2⟩ : b.set.length ≤ cb ∧ cb ≤ maxLen := by obtain ⟨a', c', e, h1, h2⟩ := Row.shape hb; cases e; exact ⟨h1, h2⟩
 unfold maxLen at hm1 hm2
 have HA := Lib.hid (SetR.ext ha hx0)
 have HB := Lib.hid (SetR.ext hb hx0)
 have HX0 := Lib.hid hx0
 have HWH : Hid (∀ W, Calls Tryz.prog 108 #[.agg #[.int .i64 a.v.k, .int .i64 a.v.n, .string (strOf a.v.s), .bool a.v.b], .agg #[.int .i64 b.v.k, .int .i64 b.v.n, .string (strOf b.v.s), .bool b.v.b]] W fun e w' => e = .returned (.int .i64 (wholeV a.v b.v)) ∧ Grew W w') := fun W => rwhole_any W a.v b.v
 have a0 := cell_of_row _ _ 0 _ _ _ hb1
 have a1 := cell_of_row _ _ 1 _ _ _ hb1
 have a2 := cell_of_row _ _ 2 _ _ _ hb1
 have a3 := cell_of_row _ _ 3 _ _ _ hb1
 have a4 := cell_of_row _ _ 4 _ _ _ hb1
 have a5 := cell_of_row _ _ 5 _ _ _ hb1
 have a6 := cell_of_row _ _ 6 _ _ _ hb1
 have b0 := cell_of_row _ _ 0 _ _ _ hb2
 have b1 := cell_of_row _ _ 1 _ _ _ hb2
 have b2 := cell_of_row _ _ 2 _ _ _ hb2
 have b3 := cell_of_row _ _ 3 _ _ _ hb2
 have b4 := cell_of_row _ _ 4 _ _ _ hb2
 have b5 := cell_of_row _ _ 5 _ _ _ hb2
 have b6 := cell_of_row _ _ 6 _ _ _ hb2
 clear ha hb hx0 hb1 hb2
 rcases bytes_cases a.name b.name with ⟨e1, e2, e3⟩ | ⟨e1, e2, e3⟩ | ⟨e1, e2, e3⟩
 · rw [e1, if_neg (by decide)]
   have e4 : (a.name != b.name) = true := by rw [bne, e3]; rfl
   go_enter Tryz.func72, Tryz.ntmps72
   go_upto_region 1 with fail
   generalize (w.alloc (.cells #[.string (strOf a.name), .int .i64 a.op, .int .i64 a.v.k, .int .i64 a.v.n, .string (strOf a.v.s), .bool a.v.b, .slice sa a.set.length ca] 94)).alloc (.cells #[.string (strOf b.name), .int .i64 b.op, .int .i64 b.v.k, .int .i64 b.v.n, .string (strOf b.v.s), .bool b.v.b, .slice sb b.set.length cb] 94) = w0 at *
   go_wp2_with fail
   go_ret
   exact ⟨rfl, HX0.out⟩
 · rw [e2, if_pos rfl]
   have e4 : (a.name == b.name) = true := by rw [e1]; exact beq_self_eq_true _
   have e5 : (a.name != b.name) = false := by rw [bne, e4]; rfl
   clear e1 e2 e3
   rcases cmpI_cases a.op b.op with ⟨g1, g2, g3⟩ | ⟨g1, g2⟩ | ⟨g1, g2, g3⟩
   · rw [g1, if_neg (by decide)]
     have g4 : (a.op != b.op) = true := by rw [bne, g3]; rfl
     go_enter Tryz.func72, Tryz.ntmps72
     go_upto_region 1 with fail
     generalize (w.alloc (.cells #[.string (strOf a.name), .int .i64 a.op, .int .i64 a.v.k, .int .i64 a.v.n, .string (strOf a.v.s), .bool a.v.b, .slice sa a.set.length ca] 94)).alloc (.cells #[.string (strOf b.name), .int .i64 b.op, .int .i64 b.v.k, .int .i64 b.v.n, .string (strOf b.v.s), .bool b.v.b, .slice sb b.set.length cb] 94) = w0 at *
     go_wp2_with fail
     go_ret
     exact ⟨rfl, HX0.out⟩
   · rw [g2, if_pos rfl]
     have g3 : (a.op == b.op) = true := by rw [g1]; exact beq_self_eq_true _
     have g4 : (a.op != b.op) = false := by rw [bne, g3]; rfl
     clear g1 g2
     generalize wholeV a.v b.v = r3 at *
     by_cases z3 : r3 = 0
     · subst z3
       rw [if_pos rfl]
       generalize hn1 : a.set.length = n1 at *
       generalize hn2 : b.set.length = n2 at *
       have HN1 := Lib.hid hn1
       have HN2 := Lib.hid hn2
       clear hn1 hn2
       go_enter Tryz.func72, Tryz.ntmps72
       go_upto_region 1 with fail
       generalize (w.alloc (.cells #[.string (strOf a.name), .int .i64 a.op, .int .i64 a.v.k, .int .i64 a.v.n, .string (strOf a.v.s), .bool a.v.b, .slice sa n1 ca] 94)).alloc (.cells #[.string (strOf b.name), .int .i64 b.op, .int .i64 b.v.k, .int .i64 b.v.n, .string (strOf b.v.s), .bool b.v.b, .slice sb n2 cb] 94) = w0 at *
       go_upto_region 12 with (go_at_call 108; (with_reducible refine (HWH.out _).mono ?_); rintro e w1 ⟨rfl, hx⟩; have HX1 := Lib.hid hx.1; clear hx)
       go_wp2_with fail
       go_loopw [6] (fun i wr => ∃ k : Nat, k ≤ n1 ∧ k ≤ n2 ∧ i = .int .i64 k ∧ Hid (cmpL wholeV (a.set.drop k) (b.set.drop k) = cmpL wholeV a.set b.set) ∧ Hid (Ext w0 wr)) (fun i _ => n1 - (intOf i).toNat)
       case atStart => exact ⟨0, Nat.zero_le _, Nat.zero_le _, rfl, rfl, HX1.out⟩
       case round =>
        clear HX1
        obtain ⟨k, hk, hkm, rfl, hcm, hx⟩ := hrel
        have q6 := hx.out.cell a6
        have p6 := hx.out.cell b6
        by_cases hlt : k < n1
        · have k1 : k < a.set.length := by rw [HN1.out]; exact hlt
          have hI : decide ((k : Int) < (n1 : Int)) = true := decide_eq_true (by omega)
          have hkN : (k : Int) < (n1 : Int) := by omega
          by_cases hlm : k < n2
          · have k2 : k < b.set.length := by rw [HN2.out]; exact hlm
            have hI2 : decide ((k : Int) < (n2 : Int)) = true := decide_eq_true (by omega)
            have hkM : (k : Int) < (n2 : Int) := by omega
            obtain ⟨B1, o1, rfl, f0, f1, f2, f3⟩ := SetR.at (SetR.ext HA.out hx.out) k1
            obtain ⟨B2, o2, rfl, g0, g1, g2, g3⟩ := SetR.at (SetR.ext HB.out hx.out) k2
            have hcall := fun W => rwhole_any W a.set[k] b.set[k]
            have hst : wholeV a.set[k] b.set[k] = 0 → cmpL wholeV (a.set.drop (k + 1)) (b.set.drop (k + 1)) = cmpL wholeV a.set b.set := fun h => by rw [← cmpL_step k1 k2 h, hcm.out]
            have hsp : wholeV a.set[k] b.set[k] ≠ 0 → cmpL wholeV a.set b.set = wholeV a.set[k] b.set[k] := fun h => by rw [← hcm.out, cmpL_stop k1 k2 h]
            have HCALL := Lib.hid hcall
            have HST := Lib.hid hst
            have HSP := Lib.hid hsp
            clear hcall hst hsp
            generalize a.set[k] = x at *
            generalize b.set[k] = y at *
            go_upto_region 15 with fail
            refine wp_region_facts [Fact.eq (.pointer (some ⟨w.heap.size, 6, none⟩)),
             Fact.eq (.slice (some ⟨B1, o1, none⟩) n1 ca),
             Fact.eq (.int .i64 k),
             Fact.eq (.pointer (some ⟨B1, o1 + k * 4, none⟩)),
             Fact.eq (.agg #[.int .i64 x.k, .int .i64 x.n, .string (strOf x.s), .bool x.b]),
             Fact.eq (.pointer (some ⟨w.heap.size + 1, 6, none⟩)),
             Fact.eq (.slice (some ⟨B2, o2, none⟩) n2 cb),
             Fact.eq (.int .i64 k),
             Fact.eq (.pointer (some ⟨B2, o2 + k * 4, none⟩)),
             Fact.eq (.agg #[.int .i64 y.k, .int .i64 y.n, .string (strOf y.s), .bool y.b]),
             Fact.eq (.int .i64 (wholeV x y)),
             Fact.eq (.int .i64 (wholeV x y))]
             [[], [(0, 49)], [], [(1, 50), (2, 51)], [(3, 52)], [], [(5, 54)], [], [(6, 55), (7, 56)], [(8, 57)], [(4, 53), (9, 58)], [(10, 59)]]
             [(0, 49), (1, 50), (2, 51), (3, 52), (4, 53), (5, 54), (6, 55), (7, 56), (8, 57), (9, 58), (10, 59), (11, 5)] (by kernel_rfl) (by kernel_rfl) ?_ ?_
            · refine ⟨?_, ?_, ?_, ?_, ?_, ?_, ?_, ?_, ?_, ?_, ?_, ?_, trivial⟩
              · intro w1 hx1; change wpList _ _ _ _ _ _; go_wp2_with fail; exact ⟨rfl, Ext.refl _, rfl, rfl⟩
              · rintro w1 hx1 _ rfl; change wpList _ _ _ _ _ _; have m := hx1.cell q6; go_wp2_with fail; exact ⟨rfl, Ext.refl _, rfl, rfl⟩
              · intro w1 hx1; change wpList _ _ _ _ _ _; exact ob_move rfl rfl rfl rfl rfl
              · rintro w1 hx1 _ rfl _ rfl; change wpList _ _ _ _ _ _; go_wp2_with fail; exact ⟨rfl, Ext.refl _, rfl, rfl⟩
              · rintro w1 hx1 _ rfl; change wpList _ _ _ _ _ _; have m0 := hx1.cell f0; have m1 := hx1.cell f1; have m2 := hx1.cell f2; have m3 := hx1.cell f3; go_wp2_with fail; exact ⟨rfl, Ext.refl _, rfl, rfl⟩
              · intro w1 hx1; change wpList _ _ _ _ _ _; go_wp2_with fail; exact ⟨rfl, Ext.refl _, rfl, rfl⟩
              · rintro w1 hx1 _ rfl; change wpList _ _ _ _ _ _; have m := hx1.cell p6; go_wp2_with fail; exact ⟨rfl, Ext.refl _, rfl, rfl⟩
              · intro w1 hx1; change wpList _ _ _ _ _ _; exact ob_move rfl rfl rfl rfl rfl
              · rintro w1 hx1 _ rfl _ rfl; change wpList _ _ _ _ _ _; go_wp2_with fail; exact ⟨rfl, Ext.refl _, rfl, rfl⟩
              · rintro w1 hx1 _ rfl; change wpList _ _ _ _ _ _; have m0 := hx1.cell g0; have m1 := hx1.cell g1; have m2 := hx1.cell g2; have m3 := hx1.cell g3; go_wp2_with fail; exact ⟨rfl, Ext.refl _, rfl, rfl⟩
              · rintro w1 hx1 _ rfl _ rfl; change wpList _ _ _ _ _ _; go_wp2_with fail; (with_reducible refine (HCALL.out _).mono ?_); rintro e w2 ⟨rfl, hx2⟩; go_wp2_with fail; exact ⟨rfl, hx2.1, rfl, rfl⟩
              · rintro w1 hx1 _ rfl; change wpList _ _ _ _ _ _; exact ob_assign rfl rfl rfl rfl rfl
            · rintro w1 hx1 _ rfl _ rfl _ rfl _ rfl _ rfl _ rfl _ rfl _ rfl _ rfl _ rfl _ rfl _ rfl; refine depsThen_nil ?_; dsimp only; simp only [Act.put, List.setIfInBounds_toArray, List.set_cons_zero, List.set_cons_succ]
              have HX2 := Lib.hid (hx.out.trans hx1)
              clear q6 p6 f0 f1 f2 f3 g0 g1 g2 g3 hx1 hx HCALL
              by_cases hz : wholeV x y = 0
              · have hres := Lib.hid (HST.out hz)
                rw [hz]
                clear hz HST HSP
                go_wp2_with fail
                go_roundw
                case rel => exact ⟨k + 1, hlt, hlm, by go_num, hres.out, HX2.out⟩
                case measure => simp [intOf]; omega
              · have hres := Lib.hid (HSP.out hz)
                have hd : (wholeV x y != 0) = true := by simp [hz]
                have hd1 := beq_int_ne hz
                clear HST HSP hz
                generalize wholeV x y = r at *
                go_wp2_with fail
                go_ret
                exact ⟨by rw [hres.out]; rfl, HX0.out.trans HX2.out⟩
          · obtain rfl : k = n2 := by omega
            have hI2 : decide ((k : Int) < (k : Int)) = false := decide_eq_false (by omega)
            have hI3 : decide ((n1 : Int) < (k : Int)) = false := decide_eq_false (by omega)
            have hres : Hid (cmpL wholeV a.set b.set = 1) := by show _ = _; rw [← hcm.out, cmpL_more k1 (by rw [HN2.out]; omega)]
            go_wp2_with fail
            go_ret
            exact ⟨by rw [hres.out]; rfl, HX0.out.trans hx.out⟩
        · obtain rfl : k = n1 := by omega
          have hI : decide ((k : Int) < (k : Int)) = false := decide_eq_false (by omega)
          by_cases hlm : k < n2
          · have hI2 : decide ((k : Int) < (n2 : Int)) = true := decide_eq_true (by omega)
            have hres : Hid (cmpL wholeV a.set b.set = -1) := by show _ = _; rw [← hcm.out, cmpL_less (by rw [HN1.out]; omega) (by rw [HN2.out]; exact hlm)]
            go_wp2_with fail
            go_ret
            exact ⟨by rw [hres.out]; rfl, HX0.out.trans hx.out⟩
          · obtain rfl : k = n2 := by omega
            have hres : Hid (cmpL wholeV a.set b.set = 0) := by show _ = _; rw [← hcm.out, cmpL_same (by rw [HN1.out]; omega) (by rw [HN2.out]; omega)]
            go_wp2_with fail
            go_ret
            exact ⟨by rw [hres.out]; rfl, HX0.out.trans hx.out⟩
     · have d3 := beq_int_ne z3
       have d3' : (r3 != 0) = true := by simp [z3]
       rw [if_neg z3]
       clear z3
       go_enter Tryz.func72, Tryz.ntmps72
       go_upto_region 1 with fail
       generalize (w.alloc (.cells #[.string (strOf a.name), .int .i64 a.op, .int .i64 a.v.k, .int .i64 a.v.n, .string (strOf a.v.s), .bool a.v.b, .slice sa a.set.length ca] 94)).alloc (.cells #[.string (strOf b.name), .int .i64 b.op, .int .i64 b.v.k, .int .i64 b.v.n, .string (strOf b.v.s), .bool b.v.b, .slice sb b.set.length cb] 94) = w0 at *
       go_wp2_with (go_at_call 108; (with_reducible refine (HWH.out _).mono ?_); rintro e w1 ⟨rfl, hx⟩; have HX1 := Lib.hid hx.1; clear hx)
       go_ret
       exact ⟨rfl, HX0.out.trans HX1.out⟩
   · rw [g1, if_neg (by decide)]
     have g4 : (a.op != b.op) = true := by rw [bne, g3]; rfl
     go_enter Tryz.func72, Tryz.ntmps72
     go_upto_region 1 with fail
     generalize (w.alloc (.cells #[.string (strOf a.name), .int .i64 a.op, .int .i64 a.v.k, .int .i64 a.v.n, .string (strOf a.v.s), .bool a.v.b, .slice sa a.set.length ca] 94)).alloc (.cells #[.string (strOf b.name), .int .i64 b.op, .int .i64 b.v.k, .int .i64 b.v.n, .string (strOf b.v.s), .bool b.v.b, .slice sb b.set.length cb] 94) = w0 at *
     go_wp2_with fail
     go_ret
     exact ⟨rfl, HX0.out⟩
 · rw [e1, if_neg (by decide)]
   have e4 : (a.name != b.name) = true := by rw [bne, e3]; rfl
   go_enter Tryz.func72, Tryz.ntmps72
   go_upto_region 1 with fail
   generalize (w.alloc (.cells #[.string (strOf a.name), .int .i64 a.op, .int .i64 a.v.k, .int .i64 a.v.n, .string (strOf a.v.s), .bool a.v.b, .slice sa a.set.length ca] 94)).alloc (.cells #[.string (strOf b.name), .int .i64 b.op, .int .i64 b.v.k, .int .i64 b.v.n, .string (strOf b.v.s), .bool b.v.b, .slice sb b.set.length cb] 94) = w0 at *
   go_wp2_with fail
   go_ret
   exact ⟨rfl, HX0.out⟩
end Go.Proofs.YtaklnpjpndkccaaGreat
