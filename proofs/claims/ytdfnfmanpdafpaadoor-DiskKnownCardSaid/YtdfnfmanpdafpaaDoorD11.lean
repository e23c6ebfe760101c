/- Disk: files come and go in memory; the power's cells; questions of a disk, asked. -/
import Derived.Test.YtdfnfmanpdafpaaDoorD10
namespace Go.Proofs.YtdfnfmanpdafpaaDoor
open Go.RowKit Go.MapKept

theorem eG_del (gs : List FG) (n : List UInt8) [DecidableEq Value] : (gs.map eG).filter (fun p => !decide (p.1 = Value.string (strOf n))) = (ndel FG.nm gs n).map eG := by
  unfold ndel
  rw [List.filter_map]
  congr 1
  refine List.filter_congr fun x _ => ?_
  simp only [Function.comp, eG]
  congr 1
  exact decide_eq_decide.2 ⟨fun e => strV_inj e, fun e => by rw [e]⟩
/-- The map behind a store under a name. -/
theorem map_put {w : World} {bm : Nat} {gs : List FG} {E E' : List (Value × Value)} (hE : MapE w bm .string E) (hp : E.Perm (gs.map eG)) {n : List UInt8} {v : Value}
    (h : ((∀ p ∈ E, p.1 ≠ Value.string (strOf n)) ∧ E' = E ++ [(.string (strOf n), v)]) ∨ ∃ (j : Nat) (u : Value), E[j]? = some (.string (strOf n), u) ∧ E' = E.set j (.string (strOf n), v)) :
    E'.Perm ((.string (strOf n), v) :: (ndel FG.nm gs n).map eG) := by
  classical
  refine (entries_put hE.keys.2 h).trans (List.Perm.cons _ ?_)
  rw [← eG_del gs n]
  exact hp.filter _
theorem map_del {w : World} {bm : Nat} {gs : List FG} {E E' : List (Value × Value)} (hE : MapE w bm .string E) (hp : E.Perm (gs.map eG)) {n : List UInt8}
    (h : ((∀ p ∈ E, p.1 ≠ Value.string (strOf n)) ∧ E' = E) ∨ ∃ (j : Nat) (u : Value), E[j]? = some (.string (strOf n), u) ∧ E' = E.eraseIdx j) :
    E'.Perm ((ndel FG.nm gs n).map eG) := by
  classical
  rw [entries_del hE.keys.2 h, ← eG_del gs n]
  exact hp.filter _
theorem nput_perm {gs : List FG} (g : FG) : (nput FG.nm gs g).Perm (g :: ndel FG.nm gs g.nm) := nins_perm g _
theorem foot_moves {b bm : Nat} {gs gs' : List FG} {w w' : World} (ht : Turns [bm] w w') (h : ∀ g ∈ gs', ∀ k ∈ ftG g, k ∈ foot b bm gs ∨ w.heap.size ≤ k) : Moves (foot b bm gs) (foot b bm gs') w w' := by
  refine ⟨ht.wide fun i hi => mem_foot.2 (.inr (.inl (by simpa using hi))), fun k hk => ?_⟩
  rcases mem_foot.1 hk with h1 | h1 | ⟨x, hx, h1⟩
  · exact .inl (mem_foot.2 (.inl h1))
  · exact .inl (mem_foot.2 (.inr (.inl h1)))
  · exact h x hx k h1
theorem turns_but {w w' : World} {bm : Nat} (h : But bm w w') : Turns [bm] w w' := ⟨h.os, h.tape, h.output, Nat.le_of_eq h.size.symm, fun k _ hn => h.block k (by simpa using hn)⟩
/-- A new file. -/
theorem DkR.put {w w' : World} {b bm : Nat} {gs : List FG} {q fz : Int} {off : Bool} (h : DkR w b bm gs q fz off) {g : FG} (hnew : ∀ k ∈ ftG g, w.heap.size ≤ k) (ht : Turns [bm] w w') (hf : FileR w' g)
    {E : List (Value × Value)} (hE : MapE w' bm .string E) (hp : E.Perm (eG g :: (ndel FG.nm gs g.nm).map eG)) : DkR w' b bm (nput FG.nm gs g) q fz off ∧ Moves (foot b bm gs) (foot b bm (nput FG.nm gs g)) w w' := by
  obtain ⟨E0, hE0, hp0⟩ := h.map
  refine ⟨⟨ht.at h.box (by simpa using box_no_map h.box hE0), ⟨E, hE, hp.trans ((nput_perm g).map eG).symm⟩, nput_up h.up, fun x hx => ?_, ?_⟩, foot_moves ht fun x hx k hk => ?_⟩
  · rcases nput_mem.1 hx with rfl | ⟨hx, _⟩
    · exact hf
    · exact (h.files x hx).turn ht fun k hk e => (h.files x hx).no_map hE0 (by simp at e; rwa [← e])
  · refine ((nput_perm g).pairwise_iff (fun {_ _} => Ap.symm)).2 (List.pairwise_cons.2 ⟨fun x hx k hk hkx => ?_, List.Pairwise.filter _ h.apart⟩)
    have h1 := hnew k hk
    have h2 := (h.files x (ndel_mem.1 hx).1).lt k hkx
    omega
  · rcases nput_mem.1 hx with rfl | ⟨hx, _⟩
    · exact .inr (hnew k hk)
    · exact .inl (foot_file hx hk)
/-- A file is taken away. -/
theorem DkR.del {w w' : World} {b bm : Nat} {gs : List FG} {q fz : Int} {off : Bool} (h : DkR w b bm gs q fz off) {n : List UInt8} (ht : Turns [bm] w w')
    {E : List (Value × Value)} (hE : MapE w' bm .string E) (hp : E.Perm ((ndel FG.nm gs n).map eG)) : DkR w' b bm (ndel FG.nm gs n) q fz off ∧ Moves (foot b bm gs) (foot b bm (ndel FG.nm gs n)) w w' := by
  obtain ⟨E0, hE0, hp0⟩ := h.map
  refine ⟨⟨ht.at h.box (by simpa using box_no_map h.box hE0), ⟨E, hE, hp⟩, ndel_up h.up, fun x hx => ?_, List.Pairwise.filter _ h.apart⟩, foot_moves ht fun x hx k hk => .inl (foot_file (ndel_mem.1 hx).1 hk)⟩
  have hx := (ndel_mem.1 hx).1
  exact (h.files x hx).turn ht fun k hk e => (h.files x hx).no_map hE0 (by simp at e; rwa [← e])
/-- A file gets another name. -/
theorem DkR.rename {w w' : World} {b bm : Nat} {gs : List FG} {q fz : Int} {off : Bool} (h : DkR w b bm gs q fz off) {g : FG} (hg : g ∈ gs) {n : List UInt8} (hne : g.nm ≠ n) (ht : Turns [bm] w w')
    {E : List (Value × Value)} (hE : MapE w' bm .string E) (hp : E.Perm ((ndel FG.nm (nput FG.nm gs { g with nm := n }) g.nm).map eG)) : DkR w' b bm (ndel FG.nm (nput FG.nm gs { g with nm := n }) g.nm) q fz off ∧ Moves (foot b bm gs) (foot b bm (ndel FG.nm (nput FG.nm gs { g with nm := n }) g.nm)) w w' := by
  obtain ⟨E0, hE0, hp0⟩ := h.map
  have key : ∀ x ∈ ndel FG.nm (nput FG.nm gs { g with nm := n }) g.nm, x = { g with nm := n } ∨ (x ∈ gs ∧ x.nm ≠ g.nm) := fun x hx => by
    obtain ⟨h1, h2⟩ := ndel_mem.1 hx
    rcases nput_mem.1 h1 with h1 | ⟨h1, _⟩
    · exact .inl h1
    · exact .inr ⟨h1, h2⟩
  refine ⟨⟨ht.at h.box (by simpa using box_no_map h.box hE0), ⟨E, hE, hp⟩, ndel_up (nput_up h.up), fun x hx => ?_, ?_⟩, foot_moves ht fun x hx k hk => .inl ?_⟩
  · have hold : ∀ y ∈ gs, FileR w' y := fun y hy => (h.files y hy).turn ht fun k hk e => (h.files y hy).no_map hE0 (by simp at e; rwa [← e])
    rcases key x hx with rfl | ⟨hx, _⟩
    · exact ⟨(hold g hg).cell, (hold g hg).row⟩
    · exact hold x hx
  · unfold ndel
    have hp1 : (nput FG.nm gs { g with nm := n }).Perm ({ g with nm := n } :: ndel FG.nm gs n) := nput_perm _
    refine ((hp1.filter _).pairwise_iff (fun {_ _} => Ap.symm)).2 ?_
    rw [List.filter_cons_of_pos (by simp; exact fun e => hne e.symm)]
    refine List.pairwise_cons.2 ⟨fun x hx => ?_, List.Pairwise.filter _ (List.Pairwise.filter _ h.apart)⟩
    obtain ⟨h1, h2⟩ := List.mem_filter.1 hx
    have h3 := (ndel_mem.1 h1).1
    have h4 : x.nm ≠ g.nm := by simpa using h2
    exact pair_mem (fun _ _ => Ap.symm) h.apart g hg x h3 (fun e => h4 (by rw [e]))
  · rcases key x hx with rfl | ⟨hx, _⟩
    · exact foot_file hg hk
    · exact foot_file hx hk

/-! The power's cells. -/
theorem DkB.cells {w : World} {b : Nat} {m : Value} {q fz : Int} {off : Bool} (h : DkB w b m q fz off) (i : Nat) (v : Value) (m' : Value) (q' fz' : Int) (off' : Bool)
    (e : (#[m, .int .i64 q, .int .i64 fz, .bool off] : Array Value).setIfInBounds i v = #[m', .int .i64 q', .int .i64 fz', .bool off']) : DkB (w.setCell ⟨b, i, none⟩ v) b m' q' fz' off' := by
  unfold DkB at h ⊢
  show (w.heap.modify b _)[b]? = _
  rw [Array.getElem?_modify, if_pos rfl, h]
  simp only [Option.map_some, Option.some.injEq]
  rw [← e]
  rfl
theorem turns_cell (w : World) (b i : Nat) (v : Value) : Turns [b] w (w.setCell ⟨b, i, none⟩ v) :=
  ⟨rfl, rfl, rfl, by rw [World.size_setCell]; exact Nat.le_refl _, fun k _ hn => setCell_farD _ _ _ _ (by simpa using hn)⟩
theorem DkR.box' {w w' : World} {b bm : Nat} {gs : List FG} {q fz q' fz' : Int} {off off' : Bool} (h : DkR w b bm gs q fz off) (ht : Turns [b] w w') (hb : DkB w' b (.map (some bm)) q' fz' off') : DkR w' b bm gs q' fz' off' := by
  obtain ⟨E0, hE0, hp0⟩ := h.map
  exact ⟨hb, ⟨E0, hE0.turnD ht (by simpa using Ne.symm (box_no_map h.box hE0)), hp0⟩, h.up, fun x hx => (h.files x hx).turn ht fun k hk e => (h.files x hx).no_box h.box (by simp at e; rwa [← e]), h.apart⟩

/-! The answers, told plainly. -/
theorem askd_fs (S : DS) (l : List Int) : (askdS S l id).fs = S.fs := by unfold askdS burnS; split <;> (try split) <;> (try split) <;> (try split) <;> rfl
theorem askd_no {S : DS} {l : List Int} (h : askdE S l ≠ 0) (act : List Fl → List Fl) : askdS S l act = askdS S l id := by
  unfold askdE at h
  unfold askdS
  split
  · rename_i h1
    rw [if_pos h1] at h
    rw [if_neg h, if_neg h]
  · rfl
theorem askd_yes {S : DS} {l : List Int} (h : askdE S l = 0) (act : List Fl → List Fl) : firstE l = 0 ∧ askdS S l act = { askdS S l id with fs := act S.fs } := by
  unfold askdE at h
  split at h
  · rename_i h1
    refine ⟨h1, ?_⟩
    unfold askdS
    rw [if_pos h1, if_pos h, if_pos h1, if_pos h]
  · rename_i h1; exact absurd h h1
theorem firstE_zero : ∀ {l : List Int}, firstE l = 0 → ∀ e ∈ l, e = 0
  | [], _, _, h => by cases h
  | x :: l, h, e, he => by
    unfold firstE at h
    split at h
    · rename_i h0
      rcases List.mem_cons.1 he with rfl | he
      · exact h0
      · exact firstE_zero h e he
    · rename_i h0; exact absurd h h0
theorem errB_zero {b : Bool} {e : Int} (he : e ≠ 0) (h : errB b e = 0) : b = false := by
  cases b
  · rfl
  · exact absurd h he
/-- Questions that only read, the power's as the last one, of a disk. -/
theorem firstq_dk (w0 : World) (ra b bm : Nat) (gs : List FG) (S : DS) (l : List (Value × Int)) (hra : w0.heap[ra]? = some (.cells (l.map (fun x => x.1) ++ [Value.func (Fn.func 39) #[.pointer (some ⟨b, 0, none⟩)] #[]]).toArray 61 (0, 0))) (hl : l.length ≤ 4) (hq : QsOk w0 l)
    (hd : DkR w0 b bm gs S.q S.fz S.off) (f0 : -1 ≤ S.fz) (f1 : S.fz < 9223372036854775808) :
    Calls Tryd.prog 33 #[.slice (some ⟨ra, 0, none⟩) (l.length + 1) (l.length + 1)] w0 fun e w' => e = .returned (.int .i64 (askdE S (l.map (·.2)))) ∧
      DkR w' b bm gs (askdS S (l.map (·.2)) id).q (askdS S (l.map (·.2)) id).fz (askdS S (l.map (·.2)) id).off ∧ Turns [b] w0 w' := by
  have hn : b ≠ ra := by
    rintro rfl
    have := Eq.trans (Eq.symm hd.box) hra
    injection this with this
    injection this with _ ht
    exact absurd ht (by decide)
  refine (firstq_burns w0 ra b l hra hl hq _ S.q S.fz S.off hd.box hn f0 f1).mono ?_
  rintro e w' ⟨w1, hx, h⟩
  have hd1 := hd.ext hx
  have ht1 : Turns [b] w0 w1 := Turns.of_ext hx
  have ht2 : ∀ {w2 : World}, Turns [b] w1 w2 → Turns [b] w0 w2 := fun h => ht1.trans h fun i hi => .inl hi
  rcases h with ⟨h1, rfl, rfl⟩ | ⟨h1, h2, rfl, rfl⟩ | ⟨h1, h2, rfl, rfl⟩ | ⟨h1, h2, rfl, rfl⟩
  · refine ⟨by unfold askdE; rw [if_neg h1], ?_, ht1⟩
    unfold askdS; rw [if_neg h1]; exact hd1
  · have hb8 : burnE S = 8 := by unfold burnE; rw [if_pos h2]
    refine ⟨by unfold askdE; rw [if_pos h1, hb8], ?_, ?_⟩
    · unfold askdS; rw [if_pos h1, if_neg (by rw [hb8]; decide)]
      unfold burnS; rw [if_pos h2]
      have k1 := hd1.box.cells 3 (.bool true) (.map (some bm)) S.q S.fz true rfl
      have k2 := k1.cells 2 (.int .i64 (-1)) (.map (some bm)) S.q (-1) true rfl
      exact hd1.box' ((turns_cell w1 b 3 _).trans (turns_cell _ b 2 _) fun i hi => .inl hi) k2
    · exact ht2 ((turns_cell w1 b 3 _).trans (turns_cell _ b 2 _) fun i hi => .inl hi)
  · have hb0 : burnE S = 0 := by unfold burnE; rw [if_neg (by omega)]
    refine ⟨by unfold askdE; rw [if_pos h1, hb0], ?_, ht1⟩
    unfold askdS; rw [if_pos h1, if_pos hb0]
    unfold burnS; rw [if_neg (by omega), if_neg (by omega)]; exact hd1
  · have hb0 : burnE S = 0 := by unfold burnE; rw [if_neg (by omega)]
    refine ⟨by unfold askdE; rw [if_pos h1, hb0], ?_, ht2 (turns_cell w1 b 2 _)⟩
    unfold askdS; rw [if_pos h1, if_pos hb0]
    unfold burnS; rw [if_neg (by omega), if_pos h2]
    exact hd1.box' (turns_cell w1 b 2 _) (hd1.box.cells 2 (.int .i64 (S.fz - 1)) (.map (some bm)) S.q (S.fz - 1) S.off rfl)

/-! Each question. -/
theorem enter30 : ∀ args w, (callFunc 30 args).run Tryd.prog w = .ok (.enter 30 args) w := enters_of Tryd.func30 (by kernel_rfl) rfl
theorem answersQ {w0 : World} {b bm : Nat} {gs : List FG} {q fz : Int} {off : Bool} (hd : DkR w0 b bm gs q fz off) : QOk w0 (.func (.func 30) #[.pointer (some ⟨b, 0, none⟩)] #[]) (if off then 8 else 0) := by
  refine ⟨30, _, _, rfl, enter30, fun w hx => (answers_any w b bm q fz off (block_later hd.box hx)).mono ?_⟩
  rintro e w' ⟨rfl, rfl⟩
  exact ⟨by unfold ansN; rfl, Ext.refl _⟩
theorem wrongQ {w0 : World} {b1 b2 : Nat} {i : Bool} {c : Int} (h1 : w0.heap[b1]? = some (.cells #[.bool i] 4 (0, 0))) (h2 : w0.heap[b2]? = some (.cells #[.int .i64 c] 26 (0, 0))) : QOk w0 (wqV b1 b2) (errB i c) := by
  refine ⟨47, _, _, rfl, enters_of Tryd.func47 (by kernel_rfl) rfl, fun w hx => (wrongq_err w b1 b2 i c (block_later h1 hx) (block_later h2 hx)).mono ?_⟩
  rintro e w' ⟨rfl, rfl⟩
  exact ⟨rfl, Ext.refl _⟩
theorem therQ {w0 : World} {b1 b2 b bm : Nat} {gs : List FG} {q fz : Int} {off : Bool} {n : List UInt8} (h1 : SBox w0 b1 n) (h2 : PBox w0 b2 b) (hd : DkR w0 b bm gs q fz off) : QOk w0 (tqV b1 b2) (thereG gs n) :=
  ⟨46, _, _, rfl, enters_of Tryd.func46 (by kernel_rfl) rfl, fun w hx => therq_any w b1 b2 b bm gs q fz off n (h1.ext hx) (h2.ext hx) (hd.ext hx)⟩
theorem create1Q {w0 : World} {b1 b2 b bm : Nat} {gs : List FG} {q fz : Int} {off : Bool} {n : List UInt8} (h1 : SBox w0 b1 n) (h2 : PBox w0 b2 b) (hd : DkR w0 b bm gs q fz off) : QOk w0 (.func (.func 37) #[] #[.pointer (some ⟨b2, 0, none⟩), .pointer (some ⟨b1, 0, none⟩)]) (errB (nget FG.nm gs n).isSome 9) :=
  ⟨37, _, _, rfl, enters_of Tryd.func37 (by kernel_rfl) rfl, fun w hx => create1_any w b1 b2 b bm gs q fz off n (h1.ext hx) (h2.ext hx) (hd.ext hx)⟩
theorem create2Q {w0 : World} {b2 b bm : Nat} {gs : List FG} {q fz : Int} {off : Bool} (h2 : PBox w0 b2 b) (hd : DkR w0 b bm gs q fz off) : QOk w0 (.func (.func 38) #[] #[.pointer (some ⟨b2, 0, none⟩)]) (errB (decide (512 ≤ gs.length)) 7) :=
  ⟨38, _, _, rfl, enters_of Tryd.func38 (by kernel_rfl) rfl, fun w hx => create2_any w b2 b bm gs q fz off (h2.ext hx) (hd.ext hx)⟩
theorem append1Q {w0 : World} {bb b2 b bm : Nat} {gs : List FG} {q fz : Int} (h2 : PBox w0 b2 b) (hd : DkR w0 b bm gs q fz false) (hw : ∀ g ∈ gs, g.nm.length ≤ 32) (hl : gs.length ≤ 1000000) (hu : usedG gs ≤ 1000000000) (hq0 : 0 ≤ q) (hq1 : q ≤ 1000000000) {a : Option Addr} {m c : Nat} (h1 : w0.heap[bb]? = some (.cells #[.slice a m c] 24 (0, 0))) :
    QOk w0 (.func (.func 41) #[] #[.pointer (some ⟨bb, 0, none⟩), .pointer (some ⟨b2, 0, none⟩)]) (errB (decide (q - (usedG gs : Nat) < (m : Int))) 7) :=
  ⟨41, _, _, rfl, enters_of Tryd.func41 (by kernel_rfl) rfl, fun w hx => append1_any w bb b2 b bm gs q fz (h2.ext hx) (hd.ext hx) hw hl hu hq0 hq1 a m c (block_later h1 hx)⟩
theorem trunc1Q {w0 : World} {bz b1 b2 b bm : Nat} {gs : List FG} {q fz : Int} {off : Bool} {n : List UInt8} {g : FG} (hg : nget FG.nm gs n = some g) {z : Int} (h0 : w0.heap[bz]? = some (.cells #[.int .i64 z] 3 (0, 0))) (h1 : SBox w0 b1 n) (h2 : PBox w0 b2 b) (hd : DkR w0 b bm gs q fz off) :
    QOk w0 (.func (.func 40) #[] #[.pointer (some ⟨bz, 0, none⟩), .pointer (some ⟨b2, 0, none⟩), .pointer (some ⟨b1, 0, none⟩)]) (errB (decide ((g.b.length : Int) < z)) 1) :=
  ⟨40, _, _, rfl, enters_of Tryd.func40 (by kernel_rfl) rfl, fun w hx => trunc1_any w bz b1 b2 b bm gs q fz off n g hg z (block_later h0 hx) (h1.ext hx) (h2.ext hx) (hd.ext hx)⟩
end Go.Proofs.YtdfnfmanpdafpaaDoor
