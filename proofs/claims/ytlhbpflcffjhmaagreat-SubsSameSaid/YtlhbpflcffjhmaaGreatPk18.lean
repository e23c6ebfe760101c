/- A law's argument of acts (pneumaticlaw24), opened.
Subs (24), plainly: two tables to which the same is told. No program is in sight.
Subs (24), plainly: a table to which the same that is there in the end is told at once. No program is in sight.
Subs (24): tables of the links 0, 1, 2; the law's array of advertisements; an act in a box.
Subs (24): the law's array is stored into: tables stay.
Subs (24): SubsSame: what loops 2 and 4 keep. -/
import Derived.Test.YtlhbpflcffjhmaaGreatPk2
import Derived.Test.YtlhbpflcffjhmaaGreatPk16
namespace Go.Proofs.YtlhbpflcffjhmaaGreat
open Go.RowKit Go.ChangeShapes Go.WideShapes Go.Deep

structure SA where
  what : Int
  link : Int
  h : Value
  p : List C
  g : Value
  us : List PP
def saC (x : SA) : List Value := [.int .i64 x.what, .int .i64 x.link, x.h, x.g]
theorem saC_len (x : SA) : (saC x).length = 4 := rfl
/-- A row of acts. -/
structure SActsR (w : World) (v : Value) (us : List SA) : Prop where
  row : Row w 4 v us.length (us.flatMap saC)
  hs : ∀ x ∈ us, PredR w x.h x.p
  gs : ∀ x ∈ us, PredsR w x.g x.us
structure okSA (x : SA) : Prop where
  link : (Lit.int .i64 x.link).wf = true
  p : ∀ c ∈ x.p, okC c
  us : ∀ y ∈ x.us, ∀ c ∈ y.p, okC c
theorem SActsR.ext {w w' : World} {v : Value} {us : List SA} (h : SActsR w v us) (hx : Ext w w') : SActsR w' v us := ⟨h.row.ext hx, fun x hm => (h.hs x hm).ext hx, fun x hm => (h.gs x hm).ext hx⟩
theorem SActsR.at {w : World} {a : Option Addr} {n cap : Nat} {us : List SA} (h : SActsR w (.slice a n cap) us) {k : Nat} (hk : k < us.length) :
    ∃ B o, a = some ⟨B, o, none⟩ ∧ w.cell? ⟨B, o + k * 4, none⟩ = some (.int .i64 us[k].what) ∧ w.cell? ⟨B, o + k * 4 + 1, none⟩ = some (.int .i64 us[k].link) ∧ w.cell? ⟨B, o + k * 4 + 2, none⟩ = some us[k].h ∧ w.cell? ⟨B, o + k * 4 + 3, none⟩ = some us[k].g := by
  obtain ⟨B, o, rfl⟩ := Row.base h.row (by omega) (by decide)
  have q := fun j u hj (e : (saC us[k])[j]? = some u) => Row.cellAt h.row ((flat_get saC 4 saC_len us k hk j hj).trans e) (by omega)
  exact ⟨B, o, rfl, q 0 _ (by decide) rfl, by have := q 1 _ (by decide) rfl; rwa [← Nat.add_assoc] at this, by have := q 2 _ (by decide) rfl; rwa [← Nat.add_assoc] at this, by have := q 3 _ (by decide) rfl; rwa [← Nat.add_assoc] at this⟩
section
variable {H : Type} {enc : TypeId × Value → H} {W : World} {base : Nat} {held : Bool}
set_option maxRecDepth 100000 in
theorem open_sact {fuel : Nat} {cs : List Value} {x : DataW H × List MemPlace} (h : DataW.trod enc Tryz.prog W base (fun _ => true) held fuel 40 cs = some x) : ∃ v : SA, cs = saC v ∧ PredR W v.h v.p ∧ PredsR W v.g v.us ∧ okSA v := by
  obtain ⟨xs, n, _, ex, hl, hx, hf⟩ := DataW.trod_struct Tryz.underlying40 h
  have hC : Tryz.prog.cellsOf 40 = 4 := by kernel_rfl
  rw [hC] at hl
  match cs, hl with
  | [c0, c1, c2, c3], _ =>
    match xs, hx with
    | [y0, y1, y2, y3], _ =>
      have q3 : Tryz.prog.cellsOf 3 = 1 := by kernel_rfl
      have qp : Tryz.prog.cellsOf 25 = 1 := by kernel_rfl
      have qe : Tryz.prog.cellsOf 22 = 1 := by kernel_rfl
      have h0 := hf 0 _ rfl
      have h1 := hf 1 _ rfl
      have h2 := hf 2 _ rfl
      have h3 := hf 3 _ rfl
      simp only [q3, qp, qe, List.getElem_toArray, List.getElem_cons_zero, List.getElem_cons_succ, List.getElem?_cons_zero, List.getElem?_cons_succ, List.drop_zero, List.drop_succ_cons, List.take_succ_cons, List.take_zero] at h0 h1 h2 h3
      obtain ⟨k0, e0, _, w0⟩ := DataW.trod_int Tryz.underlying3 h0
      obtain ⟨k1, e1, _, w1⟩ := DataW.trod_int Tryz.underlying3 h1
      obtain ⟨p, hp, hk⟩ := open_pred h2
      obtain ⟨us, hu, hku⟩ := open_preds h3
      simp only [List.cons.injEq, and_true] at e0 e1
      subst e0; subst e1
      exact ⟨⟨k0, k1, c2, p, c3, us⟩, rfl, hp, hu, ⟨w1, hk, hku⟩⟩
set_option maxRecDepth 100000 in
theorem open_sacts {fuel : Nat} {h : Value} {x : DataW H × List MemPlace} (ht : DataW.trod enc Tryz.prog W base (fun _ => true) held fuel 32 [h] = some x) : ∃ us : List SA, SActsR W h us ∧ ∀ y ∈ us, okSA y := by
  rcases open_slice Tryz.underlying32 ht with ⟨e, _⟩ | ⟨a, len, cap, m, n, D, Pl, e, _, hl, hm, hmm, _, hi⟩
  · simp only [List.cons.injEq, and_true] at e
    subst e
    exact ⟨[], ⟨Row.nil W 4, (fun _ h => (by cases h)), (fun _ h => (by cases h))⟩, (fun _ h => (by cases h))⟩
  · simp only [List.cons.injEq, and_true] at e
    subst e
    simp only [if_true] at hmm
    subst hmm
    have hC : Tryz.prog.cellsOf 40 = 4 := by kernel_rfl
    rw [hC] at hi
    obtain ⟨l, hln, hp⟩ := list_of (p := fun i (v : SA) => W.cells? base (a.add (i * 4)) 4 = some (saC v) ∧ PredR W v.h v.p ∧ PredsR W v.g v.us ∧ okSA v) m fun i hi' => by
      obtain ⟨cs, h1, h2⟩ := hi i hi'
      obtain ⟨v, rfl, hv⟩ := open_sact h2
      exact ⟨v, h1, hv⟩
    have hr := row_of_cells saC 4 saC_len (by decide) hl hm l hln fun i hi => (hp i hi).1
    have e : (l.take len).length = len := by rw [List.length_take]; omega
    have hall : ∀ y ∈ l.take len, PredR W y.h y.p ∧ PredsR W y.g y.us ∧ okSA y := fun y hy => by
      obtain ⟨i, hi, rfl⟩ := List.getElem_of_mem (List.mem_of_mem_take hy)
      exact (hp i hi).2
    exact ⟨l.take len, ⟨by rw [e]; exact hr, fun y hy => (hall y hy).1, fun y hy => (hall y hy).2.1⟩, fun y hy => (hall y hy).2.2⟩
set_option maxRecDepth 100000 in
theorem arg_sacts {b0 : Nat} {v : Value} {d : DataW H} {p : List MemPlace} (hv : Value.okWide Tryz.prog W .any b0 32 v) (h : DataW.Trod enc Tryz.prog W base (fun _ => true) held 32 v d p) : ∃ us : List SA, SActsR W v us ∧ ∀ y ∈ us, okSA y := by
  obtain ⟨a, len, cap, rfl⟩ := okWide_slice Tryz.underlying32 hv
  obtain ⟨fuel, hf⟩ := h
  exact open_sacts hf
end
end Go.Proofs.YtlhbpflcffjhmaaGreat

namespace Go.Proofs.YtlhbpflcffjhmaaGreat

theorem setL_names (S : TbS) (n : Int) {g : LkS → LkS} (hn : ∀ x, (g x).n = x.n) : (setL S n g).ls.map LkS.n = S.ls.map LkS.n := by
  show (S.ls.map _).map LkS.n = _
  rw [List.map_map]
  refine List.map_congr_left fun x _ => ?_
  simp only [Function.comp]
  split
  · exact hn x
  · rfl
theorem lkF_of {S : TbS} (h : (S.ls.map LkS.n).Nodup) {x : LkS} (hx : x ∈ S.ls) : lkF S x.n = some x := by
  cases hl : lkF S x.n with
  | none => exact absurd rfl (lkF_none hl x hx)
  | some y =>
    obtain ⟨hy, e⟩ := lkF_some hl
    have key : ∀ {l : List LkS}, (l.map LkS.n).Nodup → x ∈ l → y ∈ l → y.n = x.n → y = x := by
      intro l
      induction l with
      | nil => intro _ hx; cases hx
      | cons z l ih =>
        intro hn hx hy e
        rw [List.map_cons, List.nodup_cons] at hn
        rcases List.mem_cons.1 hx with hx1 | hx <;> rcases List.mem_cons.1 hy with hy1 | hy
        · rw [hx1, hy1]
        · exact absurd (List.mem_map.2 ⟨y, hy, by rw [e, hx1]⟩) hn.1
        · exact absurd (List.mem_map.2 ⟨x, hx, by rw [← e, hy1]⟩) hn.1
        · exact ih hn.2 hx hy e
    rw [key h hx hy e]
theorem laid_len (l : List (List C)) (p : List C) : (laidF l p).length = l.length + 1 := by rw [(laid_perm l p).length_eq, List.length_cons]
theorem cut_len (l : List (List C)) (p : List C) : (cutF l p).length ≤ l.length := (cut_sub l p).length_le
theorem learnG_n (p : List C) (x : LkS) : (learnG p x).n = x.n := by unfold learnG; split <;> rfl
theorem forgetG_n (p : List C) (x : LkS) : (forgetG p x).n = x.n := by unfold forgetG; split <;> rfl
theorem setL_mem {S : TbS} {n : Int} {g : LkS → LkS} {y : LkS} (h : y ∈ (setL S n g).ls) : ∃ x ∈ S.ls, y = x ∨ (x.n = n ∧ y = g x) := by
  obtain ⟨x, hx, rfl⟩ := List.mem_map.1 h
  refine ⟨x, hx, ?_⟩
  split
  · rename_i e; exact .inr ⟨e, rfl⟩
  · exact .inl rfl

/-- How much a table of the links 0, 1, 2 holds after k calls. -/
structure MuchT (k : Nat) (S : TbS) : Prop where
  own : S.own.length ≤ k
  came : ∀ x ∈ S.ls, x.came.length ≤ k
  ads : ∀ x ∈ S.ls, x.ads.length ≤ 30
  sent : ∀ x ∈ S.ls, x.sent.length ≤ 10 * k
  names : (S.ls.map LkS.n).Perm [0, 1, 2]
section
variable {k : Nat} {S : TbS}
theorem MuchT.len (h : MuchT k S) : S.ls.length = 3 := by have := h.names.length_eq; rwa [List.length_map] at this
theorem MuchT.nodup (h : MuchT k S) : (S.ls.map LkS.n).Nodup := h.names.nodup_iff.2 (by decide)
theorem MuchT.more (h : MuchT k S) : MuchT (k + 1) S := ⟨Nat.le_succ_of_le h.own, fun x hx => Nat.le_succ_of_le (h.came x hx), h.ads, fun x hx => by have := h.sent x hx; omega, h.names⟩
theorem MuchT.has (h : MuchT k S) {n : Int} (hn : n ∈ ([0, 1, 2] : List Int)) : ∃ x, lkF S n = some x := by
  obtain ⟨x, hx, rfl⟩ := List.mem_map.1 (h.names.mem_iff.2 hn)
  exact ⟨x, lkF_of h.nodup hx⟩
theorem MuchT.set (h : MuchT k S) (n : Int) {g : LkS → LkS} (hn : ∀ x, (g x).n = x.n) (hg : ∀ x ∈ S.ls, (g x).came.length ≤ k + 1 ∧ (g x).ads.length ≤ 30 ∧ (g x).sent.length ≤ 10 * (k + 1)) : MuchT (k + 1) (setL S n g) := by
  refine ⟨Nat.le_succ_of_le h.own, fun y hy => ?_, fun y hy => ?_, fun y hy => ?_, by rw [setL_names S n hn]; exact h.names⟩
  all_goals
    obtain ⟨x, hx, rfl | ⟨_, rfl⟩⟩ := setL_mem hy
  · exact h.more.came _ hx
  · exact (hg x hx).1
  · exact h.more.ads _ hx
  · exact (hg x hx).2.1
  · exact h.more.sent _ hx
  · exact (hg x hx).2.2
theorem MuchT.ownS (h : MuchT k S) (p : List C) : MuchT (k + 1) (ownTS S p) := by
  unfold ownTS
  split
  · exact ⟨by show (laidF S.own _).length ≤ _; rw [laid_len]; exact Nat.succ_le_succ h.own, h.more.came, h.ads, h.more.sent, h.names⟩
  · exact h.more
theorem MuchT.disS (h : MuchT k S) (p : List C) : MuchT (k + 1) (disTS S p) := by
  unfold disTS
  split
  · exact ⟨Nat.le_trans (cut_len _ _) h.more.own, h.more.came, h.ads, h.more.sent, h.names⟩
  · exact h.more
theorem MuchT.learnS (h : MuchT k S) (n : Int) (p : List C) : MuchT (k + 1) (learnTS S n p) := by
  unfold learnTS
  split
  · refine h.set n (learnG_n _) fun x hx => ?_
    unfold learnG
    split
    · exact ⟨h.more.came x hx, h.ads x hx, h.more.sent x hx⟩
    · exact ⟨by show (laidF x.came _).length ≤ _; rw [laid_len]; exact Nat.succ_le_succ (h.came x hx), h.ads x hx, h.more.sent x hx⟩
  · exact h.more
theorem MuchT.forgetS (h : MuchT k S) (n : Int) (p : List C) : MuchT (k + 1) (forgetTS S n p) := by
  unfold forgetTS
  split
  · refine h.set n (forgetG_n _) fun x hx => ?_
    unfold forgetG
    split
    · exact ⟨Nat.le_trans (cut_len _ _) (h.more.came x hx), h.ads x hx, h.more.sent x hx⟩
    · exact ⟨h.more.came x hx, h.ads x hx, h.more.sent x hx⟩
  · exact h.more
theorem MuchT.adsS (h : MuchT k S) (n : Int) (l : List (List C)) (hl : l.length ≤ 30) : MuchT (k + 1) (adsTS S n l) := by
  unfold adsTS
  split
  · refine h.set n (fun _ => rfl) fun x hx => ⟨h.more.came x hx, ?_, h.more.sent x hx⟩
    refine Nat.le_trans (sortU_len _) ?_
    rw [List.length_map]; exact hl
  · exact h.more
theorem MuchT.resetS (h : MuchT k S) (n : Int) : MuchT (k + 1) (resetTS S n) := h.set n (fun _ => rfl) fun _ _ => ⟨Nat.zero_le _, Nat.zero_le _, Nat.zero_le _⟩
theorem flat_le {l : List LkS} {k : Nat} (h : ∀ x ∈ l, x.came.length ≤ k) : (l.flatMap LkS.came).length ≤ l.length * k := by
  induction l with
  | nil => simp
  | cons x l ih =>
    rw [List.flatMap_cons, List.length_append, List.length_cons, Nat.succ_mul]
    have h1 := ih fun y hy => h y (List.mem_cons_of_mem _ hy)
    have h2 := h x (List.mem_cons_self ..)
    omega
theorem want_len (h : MuchT k S) (x : LkS) : (wantF S x).length ≤ 10 * k := by
  unfold wantF nearF onceF othersF
  refine Nat.le_trans (topsF_sub _).length_le (Nat.le_trans (List.length_filter_le ..) (Nat.le_trans (sortU_len _) ?_))
  rw [List.length_append]
  have h1 := h.own
  have h2 := flat_le (l := S.ls.filter fun y => !decide (y.n = x.n)) (k := k) fun y hy => h.came y (List.mem_filter.1 hy).1
  have h3 : (S.ls.filter fun y => !decide (y.n = x.n)).length ≤ 3 := by rw [← h.len]; exact List.length_filter_le ..
  have h4 : (S.ls.filter fun y => !decide (y.n = x.n)).length * k ≤ 3 * k := Nat.mul_le_mul_right _ h3
  omega
theorem MuchT.chS (h : MuchT k S) (n : Int) : MuchT (k + 1) (chTS S n) := h.set n (fun _ => rfl) fun x hx => ⟨h.more.came x hx, h.ads x hx, by have := want_len h x; show (wantF S x).length ≤ _; omega⟩
theorem came_set {n : Int} {g : LkS → LkS} (hn : ∀ x, (g x).n = x.n) (hg : ∀ x, (g x).came = x.came) (m : Int) : cameF (setL S n g) m = cameF S m := by
  unfold cameF
  rw [lkF_set hn]
  cases lkF S m with
  | none => rfl
  | some x => simp only [Option.map_some]; split <;> simp [hg]
theorem ads_set {n : Int} {g : LkS → LkS} (hn : ∀ x, (g x).n = x.n) (hg : ∀ x, (g x).ads = x.ads) (m : Int) : adsF (setL S n g) m = adsF S m := by
  unfold adsF
  rw [lkF_set hn]
  cases lkF S m with
  | none => rfl
  | some x => simp only [Option.map_some]; split <;> simp [hg]
end
end Go.Proofs.YtlhbpflcffjhmaaGreat

namespace Go.Proofs.YtlhbpflcffjhmaaGreat

def upA (A : Int → List (List C)) (n : Int) (l : List (List C)) : Int → List (List C) := fun m => if m = n then l else A m
def L3 : List Int := [0, 1, 2]
def zL (n : Int) : LkS := ⟨n, [], [], []⟩
/-- After k calls: the table, the other one, the advertisements. -/
structure JS (k : Nat) (S U : TbS) (A : Int → List (List C)) : Prop where
  s : MuchT k S
  u : U.ls = [zL 2, zL 0, zL 1]
  own : U.own = S.own
  ads : ∀ n ∈ L3, (A n).all mayP = true ∧ adsF S n = onceF ((A n).map normP)
section
variable {k : Nat} {S U : TbS} {A : Int → List (List C)}
theorem own_not (S : TbS) {p : List C} (h : mayP p = false) : ownTS S p = S := by unfold ownTS; rw [h]; rfl
theorem JS.ownS (h : JS k S U A) (p : List C) : JS (k + 1) (ownTS S p) (ownTS U p) A := by
  refine ⟨h.s.ownS p, ?_, ?_, fun n hn => ?_⟩
  · unfold ownTS; split
    · exact h.u
    · exact h.u
  · unfold ownTS; split
    · show laidF U.own _ = laidF S.own _
      rw [h.own]
    · exact h.own
  · have e : adsF (ownTS S p) n = adsF S n := by unfold ownTS; split <;> rfl
    rw [e]; exact h.ads n hn
theorem JS.disE (h : JS k S U A) (p : List C) : disTE U p = disTE S p := by unfold disTE; rw [h.own]
theorem dis_not (S : TbS) {p : List C} (h : disTE S p ≠ 0) : disTS S p = S := by
  unfold disTE at h
  unfold disTS
  cases hm : mayP p with
  | false => rfl
  | true =>
    rw [hm] at h
    simp only [if_true] at h
    cases hh : hasF S.own (normP p) with
    | false => rfl
    | true => rw [hh] at h; simp at h
theorem JS.disS (h : JS k S U A) (p : List C) : JS (k + 1) (disTS S p) (disTS U p) A := by
  refine ⟨h.s.disS p, ?_, ?_, fun n hn => ?_⟩
  · unfold disTS; split
    · exact h.u
    · exact h.u
  · unfold disTS
    rw [h.own]
    split
    · rfl
    · exact h.own
  · have e : adsF (disTS S p) n = adsF S n := by unfold disTS; split <;> rfl
    rw [e]; exact h.ads n hn
theorem JS.learnS (h : JS k S U A) (n : Int) (p : List C) : JS (k + 1) (learnTS S n p) U A := by
  refine ⟨h.s.learnS n p, h.u, ?_, fun m hm => ?_⟩
  · rw [h.own]; unfold learnTS; split <;> rfl
  · have e : adsF (learnTS S n p) m = adsF S m := by
      unfold learnTS; split
      · exact ads_set (learnG_n _) (fun x => by unfold learnG; split <;> rfl) m
      · rfl
    rw [e]; exact h.ads m hm
theorem JS.forgetS (h : JS k S U A) (n : Int) (p : List C) : JS (k + 1) (forgetTS S n p) U A := by
  refine ⟨h.s.forgetS n p, h.u, ?_, fun m hm => ?_⟩
  · rw [h.own]; unfold forgetTS; split <;> rfl
  · have e : adsF (forgetTS S n p) m = adsF S m := by
      unfold forgetTS; split
      · exact ads_set (forgetG_n _) (fun x => by unfold forgetG; split <;> rfl) m
      · rfl
    rw [e]; exact h.ads m hm
theorem JS.chS (h : JS k S U A) (n : Int) : JS (k + 1) (chTS S n) U A :=
  ⟨h.s.chS n, h.u, h.own, fun m hm => by
    rw [show adsF (chTS S n) m = adsF S m from ads_set (g := fun x => { x with sent := wantF S x }) (fun _ => rfl) (fun _ => rfl) m]; exact h.ads m hm⟩
theorem ads_at {n : Int} {g : LkS → LkS} (hn : ∀ x, (g x).n = x.n) {x : LkS} (hx : lkF S n = some x) : adsF (setL S n g) n = (g x).ads := by
  unfold adsF
  rw [lkF_set hn, hx]
  simp only [Option.map_some]
  rw [if_pos (lkF_some hx).2]
theorem ads_far {n m : Int} {g : LkS → LkS} (hn : ∀ x, (g x).n = x.n) (h : m ≠ n) : adsF (setL S n g) m = adsF S m := by
  unfold adsF
  rw [lkF_set hn]
  cases hx : lkF S m with
  | none => rfl
  | some x => simp only [Option.map_some]; rw [if_neg (by rw [(lkF_some hx).2]; exact h)]
theorem JS.resetS (h : JS k S U A) {n : Int} (hn : n ∈ L3) : JS (k + 1) (resetTS S n) U (upA A n []) := by
  refine ⟨h.s.resetS n, h.u, h.own, fun m hm => ?_⟩
  unfold upA
  obtain ⟨x, hx⟩ := h.s.has hn
  by_cases e : m = n
  · subst e
    rw [if_pos rfl, show adsF (resetTS S m) m = [] from ads_at (g := fun x => ⟨x.n, [], [], []⟩) (fun _ => rfl) hx]
    exact ⟨rfl, rfl⟩
  · rw [if_neg e, show adsF (resetTS S n) m = adsF S m from ads_far (g := fun x => ⟨x.n, [], [], []⟩) (fun _ => rfl) e]
    exact h.ads m hm
theorem JS.adsE (h : JS k S U A) {n : Int} (hn : n ∈ L3) (l : List (List C)) : adsTE S n l = if l.all mayP then 0 else 30 := by
  obtain ⟨x, hx⟩ := h.s.has hn
  unfold adsTE
  rw [hx]; rfl
theorem JS.adsS (h : JS k S U A) {n : Int} (hn : n ∈ L3) {l : List (List C)} (hl : l.length ≤ 30) (hm : l.all mayP = true) : JS (k + 1) (adsTS S n l) U (upA A n l) := by
  refine ⟨h.s.adsS n l hl, h.u, ?_, fun m hm2 => ?_⟩
  · rw [h.own]; unfold adsTS; split <;> rfl
  · obtain ⟨x, hx⟩ := h.s.has hn
    have e0 : adsTS S n l = setL S n (fun x => { x with ads := onceF (l.map normP) }) := by unfold adsTS; rw [if_pos hm]
    unfold upA
    rw [e0]
    by_cases e : m = n
    · subst e
      rw [if_pos rfl, ads_at (g := fun x => { x with ads := onceF (l.map normP) }) (fun _ => rfl) hx]
      exact ⟨hm, rfl⟩
    · rw [if_neg e, ads_far (g := fun x => { x with ads := onceF (l.map normP) }) (fun _ => rfl) e]
      exact h.ads m hm2
theorem JS.adsN (h : JS k S U A) (n : Int) {l : List (List C)} (hm : l.all mayP = false) : JS (k + 1) (adsTS S n l) U A := by
  have e0 : adsTS S n l = S := by unfold adsTS; rw [hm]; rfl
  rw [e0]
  exact ⟨h.s.more, h.u, h.own, h.ads⟩
theorem JS.more (h : JS k S U A) : JS (k + 1) S U A := ⟨h.s.more, h.u, h.own, h.ads⟩

/-! At once. -/
def tbU (f : Int → LkS) (o : List (List C)) : TbS := ⟨[f 2, f 0, f 1], o⟩
theorem tbU_set {f : Int → LkS} {o : List (List C)} (hf : ∀ m, (f m).n = m) (n : Int) (g : LkS → LkS) : setL (tbU f o) n g = tbU (fun m => if m = n then g (f m) else f m) o := by
  unfold setL tbU
  simp only [List.map_cons, List.map_nil, hf]
theorem JS.tbl (h : JS k S U A) : U = tbU zL S.own := by
  have e : U = ⟨U.ls, U.own⟩ := rfl
  rw [e, h.u, h.own]; rfl
/-- Of the links below n all is told; of link n the first j. -/
def fU (S : TbS) (n : Int) (j : Nat) (m : Int) : LkS := if m < n then ⟨m, cameF S m, adsF S m, []⟩ else if m = n then ⟨m, (cameF S m).take j, [], []⟩ else zL m
theorem fU_n (S : TbS) (n : Int) (j : Nat) (m : Int) : (fU S n j m).n = m := by unfold fU; split <;> (try split) <;> rfl
theorem tbU_congr {f g : Int → LkS} {o : List (List C)} (h : ∀ m, f m = g m) : tbU f o = tbU g o := by unfold tbU; rw [h, h, h]
theorem JS.start (h : JS k S U A) : U = tbU (fU S 0 0) S.own := by
  rw [h.tbl]
  unfold tbU
  have e : ∀ m : Int, 0 ≤ m → fU S 0 0 m = zL m := fun m hm => by
    unfold fU
    rw [if_neg (by omega)]
    split
    · rw [List.take_zero]; rfl
    · rfl
  rw [e 2 (by decide), e 0 (by decide), e 1 (by decide)]
theorem take_laid {X : List (List C)} (hu : Up cmpP X) {j : Nat} (hj : j < X.length) : hasF (X.take j) X[j] = false ∧ laidF (X.take j) X[j] = X.take (j + 1) := by
  have hs : X.take (j + 1) = X.take j ++ [X[j]] := List.take_succ_eq_append_getElem hj
  have hut : Up cmpP (X.take (j + 1)) := List.Pairwise.sublist (List.take_sublist ..) hu
  have hu0 : Up cmpP (X.take j) := List.Pairwise.sublist (List.take_sublist ..) hu
  have hno : hasF (X.take j) X[j] = false := by
    cases hh : hasF (X.take j) X[j] with
    | false => rfl
    | true =>
      have hm := (has_iff hu0.asc _).1 hh
      have := hut.nodup
      rw [hs, List.nodup_append] at this
      exact absurd rfl (this.2.2 _ hm _ (by simp))
  refine ⟨hno, up_unique wo_P _ _ (laid_up hu0 hno) hut fun z => ?_⟩
  rw [laid_mem, hs, List.mem_append, List.mem_singleton, or_comm]
theorem told_learn (ok : OkT S) (n : Int) {j : Nat} (hj : j < (cameF S n).length) : learnTS (tbU (fU S n j) S.own) n (cameF S n)[j] = tbU (fU S n (j + 1)) S.own := by
  have hX : NormL (cameF S n) ∧ Up cmpP (cameF S n) := by
    unfold cameF
    cases hx : lkF S n with
    | none => exact ⟨(fun _ h => by cases h), List.Pairwise.nil⟩
    | some x => exact (ok.ls x (lkF_some hx).1).came
  have hp := hX.1 _ (List.getElem_mem hj)
  unfold learnTS
  rw [if_pos hp.1, hp.2, tbU_set (fU_n S n j)]
  refine tbU_congr fun m => ?_
  obtain ⟨h1, h2⟩ := take_laid hX.2 hj
  by_cases e : m = n
  · subst e
    unfold fU learnG
    simp only [Int.lt_irrefl, if_false, if_true]
    rw [h1]
    simp only [Bool.false_eq_true, if_false]
    rw [h2]
  · rw [if_neg e]
    unfold fU
    rw [if_neg e, if_neg e]
theorem told_ads {A : Int → List (List C)} (n : Int) (ha : (A n).all mayP = true ∧ adsF S n = onceF ((A n).map normP)) : adsTS (tbU (fU S n (cameF S n).length) S.own) n (A n) = tbU (fU S (n + 1) 0) S.own := by
  unfold adsTS
  rw [if_pos ha.1, tbU_set (fU_n S n _)]
  refine tbU_congr fun m => ?_
  by_cases e : m = n
  · subst e
    rw [if_pos rfl]
    unfold fU
    rw [if_neg (Int.lt_irrefl m), if_pos rfl, if_pos (by omega), List.take_of_length_le (Nat.le_refl _), ha.2]
  · rw [if_neg e]
    unfold fU
    rw [if_neg e]
    by_cases h : m < n
    · rw [if_pos h, if_pos (by omega)]
    · rw [if_neg h, if_neg (by omega)]
      by_cases h1 : m = n + 1
      · rw [if_pos h1, List.take_zero]; rfl
      · rw [if_neg h1]

/-- Both hold the same. -/
structure SameT (S U : TbS) : Prop where
  own : S.own = U.own
  ns : (S.ls.map LkS.n).Perm [0, 1, 2]
  nu : (U.ls.map LkS.n).Perm [0, 1, 2]
  came : ∀ m ∈ L3, cameF S m = cameF U m
  ads : ∀ m ∈ L3, adsF S m = adsF U m
theorem SameT.nodS (h : SameT S U) : (S.ls.map LkS.n).Nodup := h.ns.nodup_iff.2 (by decide)
theorem SameT.nodU (h : SameT S U) : (U.ls.map LkS.n).Nodup := h.nu.nodup_iff.2 (by decide)
theorem others_came (hn : (S.ls.map LkS.n).Perm [0, 1, 2]) (n : Int) (p : List C) : p ∈ othersF S n ↔ ∃ m ∈ L3, m ≠ n ∧ p ∈ cameF S m := by
  have hd : (S.ls.map LkS.n).Nodup := hn.nodup_iff.2 (by decide)
  rw [others_mem]
  constructor
  · rintro ⟨x, hx, h1, h2⟩
    refine ⟨x.n, hn.mem_iff.1 (List.mem_map.2 ⟨x, hx, rfl⟩), h1, ?_⟩
    unfold cameF
    rw [lkF_of hd hx]
    exact h2
  · rintro ⟨m, hm, h1, h2⟩
    unfold cameF at h2
    cases hx : lkF S m with
    | none => rw [hx] at h2; cases h2
    | some x =>
      rw [hx] at h2
      obtain ⟨hx1, hx2⟩ := lkF_some hx
      exact ⟨x, hx1, by rw [hx2]; exact h1, h2⟩
theorem SameT.want (h : SameT S U) {n : Int} (hn : n ∈ L3) {x y : LkS} (hx : lkF S n = some x) (hy : lkF U n = some y) : wantF S x = wantF U y := by
  refine want_same (fun p => by rw [h.own]) (fun p => ?_) ?_
  · rw [(lkF_some hx).2, (lkF_some hy).2, others_came h.ns, others_came h.nu]
    constructor
    · rintro ⟨m, h1, h2, h3⟩
      exact ⟨m, h1, h2, by rw [← h.came m h1]; exact h3⟩
    · rintro ⟨m, h1, h2, h3⟩
      exact ⟨m, h1, h2, by rw [h.came m h1]; exact h3⟩
  · have := h.ads n hn
    unfold adsF at this
    rwa [hx, hy] at this
theorem SameT.ch (h : SameT S U) (n : Int) : SameT (chTS S n) (chTS U n) := by
  refine ⟨h.own, ?_, ?_, fun m hm => ?_, fun m hm => ?_⟩
  · unfold chTS; rw [setL_names (g := fun x => { x with sent := wantF S x }) _ _ (fun _ => rfl)]; exact h.ns
  · unfold chTS; rw [setL_names (g := fun x => { x with sent := wantF U x }) _ _ (fun _ => rfl)]; exact h.nu
  · rw [show cameF (chTS S n) m = cameF S m from came_set (g := fun x => { x with sent := wantF S x }) (fun _ => rfl) (fun _ => rfl) m, show cameF (chTS U n) m = cameF U m from came_set (g := fun x => { x with sent := wantF U x }) (fun _ => rfl) (fun _ => rfl) m]
    exact h.came m hm
  · rw [show adsF (chTS S n) m = adsF S m from ads_set (g := fun x => { x with sent := wantF S x }) (fun _ => rfl) (fun _ => rfl) m, show adsF (chTS U n) m = adsF U m from ads_set (g := fun x => { x with sent := wantF U x }) (fun _ => rfl) (fun _ => rfl) m]
    exact h.ads m hm
theorem sent_at {n : Int} {x : LkS} (hx : lkF S n = some x) : sentF (chTS S n) n = wantF S x := by
  unfold sentF chTS
  rw [lkF_set (g := fun x => { x with sent := wantF S x }) (fun _ => rfl), hx]
  simp only [Option.map_some]
  rw [if_pos (lkF_some hx).2]
theorem SameT.sent (h : SameT S U) {n : Int} (hn : n ∈ L3) : sentF (chTS S n) n = sentF (chTS U n) n := by
  obtain ⟨x, hx, ex⟩ := List.mem_map.1 (h.ns.mem_iff.2 hn)
  obtain ⟨y, hy, ey⟩ := List.mem_map.1 (h.nu.mem_iff.2 hn)
  have h1 := lkF_of h.nodS hx
  have h2 := lkF_of h.nodU hy
  rw [ex] at h1
  rw [ey] at h2
  rw [sent_at h1, sent_at h2, h.want hn h1 h2]
theorem sent_near {A : Int → List (List C)} {n : Int} (ha : (A n).all mayP = true ∧ adsF S n = onceF ((A n).map normP)) {p : List C} (hp : p ∈ sentF (chTS S n) n) : ∃ a ∈ A n, overlapsF p a = true := by
  cases hx : lkF S n with
  | none =>
    unfold sentF chTS at hp
    rw [lkF_set (g := fun x => { x with sent := wantF S x }) (fun _ => rfl), hx] at hp
    cases hp
  | some x =>
    rw [sent_at hx] at hp
    obtain ⟨_, a, h1, h2⟩ := want_mem hp
    have hxa : x.ads = onceF ((A n).map normP) := by
      have := ha.2
      unfold adsF at this
      rwa [hx] at this
    rw [hxa] at h1
    obtain ⟨b, hb, rfl⟩ := List.mem_map.1 (sortP_mem.1 h1)
    exact ⟨b, hb, by rw [← overlaps_norm (List.all_eq_true.1 ha.1 b hb)]; exact h2⟩
theorem tbU_lk {m : Int} (hm : m ∈ L3) (f : Int → LkS) (hf : ∀ m, (f m).n = m) (o : List (List C)) : lkF (tbU f o) m = some (f m) := by
  have hd : ((tbU f o).ls.map LkS.n).Nodup := by
    unfold tbU
    simp only [List.map_cons, List.map_nil, hf]
    decide
  have hx : f m ∈ (tbU f o).ls := by
    unfold L3 at hm
    unfold tbU
    simp only [List.mem_cons, List.not_mem_nil, or_false] at hm ⊢
    rcases hm with rfl | rfl | rfl
    · exact .inr (.inl rfl)
    · exact .inr (.inr rfl)
    · exact .inl rfl
  have := lkF_of hd hx
  rwa [hf] at this
theorem told_same (hn : (S.ls.map LkS.n).Perm [0, 1, 2]) : SameT S (tbU (fU S 3 0) S.own) := by
  refine ⟨rfl, hn, ?_, fun m hm => ?_, fun m hm => ?_⟩
  · unfold tbU
    simp only [List.map_cons, List.map_nil, fU_n]
    decide
  all_goals
    have hm3 : m < 3 := by
      unfold L3 at hm
      simp only [List.mem_cons, List.not_mem_nil, or_false] at hm
      omega
    have hf : fU S 3 0 m = ⟨m, cameF S m, adsF S m, []⟩ := by unfold fU; rw [if_pos hm3]
  · have h2 := tbU_lk hm (fU S 3 0) (fU_n S 3 0) S.own
    show _ = cameF (tbU (fU S 3 0) S.own) m
    rw [show cameF (tbU (fU S 3 0) S.own) m = (fU S 3 0 m).came from by unfold cameF; rw [h2], hf]
  · have h2 := tbU_lk hm (fU S 3 0) (fU_n S 3 0) S.own
    show _ = adsF (tbU (fU S 3 0) S.own) m
    rw [show adsF (tbU (fU S 3 0) S.own) m = (fU S 3 0 m).ads from by unfold adsF; rw [h2], hf]
end
end Go.Proofs.YtlhbpflcffjhmaaGreat

namespace Go.Proofs.YtlhbpflcffjhmaaGreat
open Go.RowKit Go.Sort

theorem MuchT.smallT {k : Nat} {S : TbS} (h : MuchT k S) (hk : k ≤ 100) : SmallT S :=
  ⟨by have := h.own; omega, fun x hx => by have := h.came x hx; omega, fun x hx => by have := h.ads x hx; omega, fun x hx => by have := h.sent x hx; omega, by rw [h.len]; omega⟩
theorem new3 (w0 w : World) (hx : Ext w0 w) (a b c : Int) (hg : good [a, b, c]) (hwf : ∀ n ∈ [a, b, c], (Lit.int .i64 n).wf = true) : Calls Tryz.prog 13 #[.slice (some ⟨w.heap.size, 0, none⟩) 3 3] (w.alloc (.cells #[.int .i64 a, .int .i64 b, .int .i64 c] 3)) fun e w' => ∃ bt F, e = .returned (.tuple #[.pointer (some ⟨bt, 0, none⟩), .int .i64 0]) ∧ AtS w0 w' bt F ⟨[zL a, zL b, zL c], []⟩ ∧ Ext w w' ∧ (∀ k ∈ F, w.heap.size ≤ k) := by
  refine (newS_yes w0 _ (hx.trans ((Ext.refl w).alloc _)) _ [a, b, c] (Row.of_own (World.ownsRow_lit (base := w.heap.size) (e := 3) (size := 1) w #[.int .i64 a, .int .i64 b, .int .i64 c] 3 (Nat.le_refl _) (by decide) rfl)) hwf hg (by show 3 ≤ 64; omega)).mono ?_
  rintro e w' ⟨bt, F, rfl, h, h1, h2⟩
  exact ⟨bt, F, rfl, h, ((Ext.refl w).alloc _).trans h1, fun k hk => by have := h2 k hk; rw [World.size_alloc] at this; omega⟩
theorem good012 : good [0, 1, 2] := ⟨by decide, by decide⟩
theorem good201 : good [2, 0, 1] := ⟨by decide, by decide⟩
theorem wf012 : ∀ n ∈ ([0, 1, 2] : List Int), (Lit.int .i64 n).wf = true := by decide
theorem wf201 : ∀ n ∈ ([2, 0, 1] : List Int), (Lit.int .i64 n).wf = true := by decide
theorem AtS.lt {w0 w : World} {bt : Nat} {F : List Nat} {S : TbS} (k : AtS w0 w bt F S) : ∀ i ∈ F, i < w.heap.size := by
  obtain ⟨ok, ⟨b, h1, h2, h3⟩, h4⟩ := k
  exact h3.lt
theorem start_JS (S U : TbS) (hs : S = ⟨[zL 0, zL 1, zL 2], []⟩) (hu : U = ⟨[zL 2, zL 0, zL 1], []⟩) : JS 0 S U (fun _ => []) := by
  subst hs; subst hu
  refine ⟨⟨Nat.le_refl _, ?_, ?_, ?_, List.Perm.refl _⟩, rfl, rfl, fun n hn => ⟨rfl, ?_⟩⟩
  · intro x hx
    simp only [List.mem_cons, List.not_mem_nil, or_false] at hx
    rcases hx with rfl | rfl | rfl <;> exact Nat.le_refl _
  · intro x hx
    simp only [List.mem_cons, List.not_mem_nil, or_false] at hx
    rcases hx with rfl | rfl | rfl <;> exact Nat.zero_le _
  · intro x hx
    simp only [List.mem_cons, List.not_mem_nil, or_false] at hx
    rcases hx with rfl | rfl | rfl <;> exact Nat.zero_le _
  · unfold L3 at hn
    simp only [List.mem_cons, List.not_mem_nil, or_false] at hn
    rcases hn with rfl | rfl | rfl <;> rfl
/-- A block of no table stays as a table turns. -/
theorem LeftS.far {w0 w w' : World} {ct : Nat} {G : List Nat} {T' : TbS} (g : LeftS w0 w w' ct G T') {k : Nat} {c : Array Value} {t : TypeId} {fr : Nat × Nat} (h : w.heap[k]? = some (.cells c t fr)) (ht : ¬ tbl t) : w'.heap[k]? = some (.cells c t fr) :=
  g.turns.at h fun hm => by
    obtain ⟨cs, t', fr', h1, h2⟩ := g.tbb k hm
    rw [h] at h1
    cases h1
    exact ht h2
theorem LeftS.ext0 {w0 w w' : World} {ct : Nat} {G : List Nat} {T' : TbS} (g : LeftS w0 w w' ct G T') : Ext w0 w' := g.at_.ext
/-- A row of advertisements of the law's argument. -/
def RowA (W : World) (g : Value) (L : List (List C)) : Prop := ∃ a n c us, g = .slice a n c ∧ PredsR W (.slice a n c) us ∧ psP us = L ∧ (∀ x ∈ us, ∀ c ∈ x.p, okC c) ∧ us.length ≤ 30
theorem RowA.nil (W : World) : RowA W (.slice none 0 0) [] := ⟨none, 0, 0, [], rfl, (RowQ.nil 0 W).preds, rfl, (fun _ h => by cases h), Nat.zero_le _⟩
/-- The law's array: a row for each link. -/
def ArrS (W w : World) (ba : Nat) (A : Int → List (List C)) : Prop := ∃ g : Fin 3 → Value, w.heap[ba]? = some (.cells #[g 0, g 1, g 2] 38 (0, 0)) ∧ ∀ i : Fin 3, RowA W (g i) (A (i.val : Int))
theorem ArrS.ext {W w w' : World} {ba : Nat} {A : Int → List (List C)} (h : ArrS W w ba A) (hx : Ext w w') : ArrS W w' ba A := by
  obtain ⟨g, h1, h2⟩ := h
  exact ⟨g, block_later h1 hx, h2⟩
theorem ArrS.turn {W w0 w w' : World} {ct : Nat} {G : List Nat} {T' : TbS} {ba : Nat} {A : Int → List (List C)} (h : ArrS W w ba A) (g : LeftS w0 w w' ct G T') : ArrS W w' ba A := by
  obtain ⟨e, h1, h2⟩ := h
  exact ⟨e, g.far h1 (by unfold tbl; decide), h2⟩
theorem ArrS.at {W w : World} {ba : Nat} {A : Int → List (List C)} (h : ArrS W w ba A) {n : Nat} (hn : n < 3) : ∃ a m c us, w.cell? ⟨ba, n, none⟩ = some (.slice a m c) ∧ PredsR W (.slice a m c) us ∧ psP us = A (n : Int) ∧ (∀ x ∈ us, ∀ c ∈ x.p, okC c) ∧ us.length ≤ 30 := by
  obtain ⟨g, h1, h2⟩ := h
  obtain ⟨a, m, c, us, e, h3, h4, h5, h6⟩ := h2 ⟨n, hn⟩
  refine ⟨a, m, c, us, ?_, h3, h4, h5, h6⟩
  rw [← e]
  match n, hn with
  | 0, _ => exact cell_of_row _ _ 0 _ _ _ h1
  | 1, _ => exact cell_of_row _ _ 1 _ _ _ h1
  | 2, _ => exact cell_of_row _ _ 2 _ _ _ h1
theorem ArrS.frozen {W w : World} {ba : Nat} {A : Int → List (List C)} (h : ArrS W w ba A) : ∃ c, w.heap[ba]? = some (.cells c 38 (0, 0)) ∧ c.size = 3 := by
  obtain ⟨g, h1, h2⟩ := h
  exact ⟨_, h1, rfl⟩
theorem ArrS.set {W w : World} {ba : Nat} {A : Int → List (List C)} (h : ArrS W w ba A) {n : Nat} (hn : n < 3) (v : Value) (L : List (List C)) (hv : RowA W v L) : ArrS W (w.setCell ⟨ba, n, none⟩ v) ba (upA A n L) := by
  obtain ⟨g, h1, h2⟩ := h
  refine ⟨fun i => if i.val = n then v else g i, ?_, fun i => ?_⟩
  · have := setCell_rowS (i := n) h1 v
    rw [this]
    match n, hn with
    | 0, _ => rfl
    | 1, _ => rfl
    | 2, _ => rfl
  · unfold upA
    show RowA W (if i.val = n then v else g i) (if (i.val : Int) = (n : Int) then L else A (i.val : Int))
    by_cases e : i.val = n
    · rw [if_pos e, if_pos (by rw [e])]
      exact hv
    · rw [if_neg e, if_neg (by omega)]
      exact h2 i
theorem add0S (p : Addr) : p.add 0 = p := by unfold Addr.add; split <;> simp_all
theorem cutQ_head {w : World} {us : List PP} {ad : Option Addr} {c m : Nat} (h : PredsR w (.slice ad us.length c) us) (hm : m ≤ us.length) : PredsR w (.slice ad m c) (us.take m) := by
  refine ⟨?_, fun x hx => h.hs x (List.mem_of_mem_take hx)⟩
  have hc : us.length ≤ c := by
    obtain ⟨a', c', e, hh, _⟩ := Row.shape h.row
    simp only [Value.slice.injEq] at e
    omega
  have := Row.sub h.row 0 m (Nat.zero_le _) hm (c - 0) (by omega) (Nat.le_refl _)
  rw [Nat.zero_mul, List.drop_zero, flat_take ppC 1 ppC_len] at this
  have e : (if c = 0 then ad else ad.map (·.add 0)) = ad := by
    split
    · rfl
    · cases ad with
      | none => rfl
      | some p => simp [add0S]
  rw [e] at this
  rw [List.length_take, Nat.min_eq_left hm]
  simpa using this
theorem sizeSA : (Tryz.prog.info? 40).map (·.size) = some 4 := by kernel_rfl
end Go.Proofs.YtlhbpflcffjhmaaGreat

namespace Go.Proofs.YtlhbpflcffjhmaaGreat
open Go.RowKit Go.Sort Go.MapKept

section
variable {w w' : World} {k : Nat} {c : Array Value} {fr : Nat × Nat}
theorem own_far {base size n : Nat} {e : TypeId} {v : Value} {xs : List Value} (h : w.ownsRow base e size v n xs) (hk : w.heap[k]? = some (.cells c 38 fr)) (he : e ≠ 38) : ∀ q, v.ownBlock = some q → q ∉ [k] := fun q hq hm => by
  rw [List.mem_singleton.1 hm] at hq
  exact own_ne h hk he hq
theorem RowQ.arr {b : Nat} {v : Value} {us : List PP} (h : RowQ b w v us) (hk : w.heap[k]? = some (.cells c 38 fr)) (ht : Turns [k] w w') : RowQ b w' v us := by
  refine ⟨ht.own h.own (own_far h.own hk (by decide)), fun x hx => ?_, h.ok⟩
  obtain ⟨us, e, h1, h2⟩ := h.ps x hx
  exact ⟨us, e, ht.own h1 (own_far h1 hk (by decide)), fun x hm => ht.own (h2 x hm) (own_far (h2 x hm) hk (by decide))⟩
theorem SubR.arr {b bt bm : Nat} {gs : List LkG} {vo : Value} {o : List PP} (h : SubR b w bt bm gs vo o) (hk : w.heap[k]? = some (.cells c 38 fr)) (ht : Turns [k] w w') : SubR b w' bt bm gs vo o := by
  refine ⟨ht.at h.box fun hm => ?_, h.mp.turnD ht fun hm => ?_, fun g hg => ?_, h.ptrs, h.own.arr hk ht, h.lo, h.wf⟩
  · have h1 := h.box
    rw [List.mem_singleton.1 hm, hk] at h1
    simp only [Option.some.injEq, Obj.cells.injEq] at h1
    exact absurd h1.2.1 (by decide)
  · obtain ⟨es, cl, h1, _⟩ := h.mp
    rw [List.mem_singleton.1 hm, hk] at h1
    cases h1
  · have hl := h.links g hg
    refine ⟨ht.at hl.box fun hm => ?_, hl.c.arr hk ht, hl.a.arr hk ht, hl.s.arr hk ht, hl.lo⟩
    have h1 := hl.box
    rw [List.mem_singleton.1 hm, hk] at h1
    simp only [Option.some.injEq, Obj.cells.injEq] at h1
    exact absurd h1.2.1 (by decide)
theorem AtS.arr {w0 : World} {bt : Nat} {F : List Nat} {S : TbS} (h : AtS w0 w bt F S) (hk : w.heap[k]? = some (.cells c 38 fr)) (ht : Turns [k] w w') (hlo : w0.heap.size ≤ k) : AtS w0 w' bt F S := by
  obtain ⟨ok, ⟨b, h1, h2, bm, gs, vo, o, h3, h4, h5⟩, h6⟩ := h
  exact ⟨ok, ⟨b, h1, Nat.le_trans h2 ht.size, bm, gs, vo, o, h3.arr hk ht, h4, h5⟩, ht.ext h6 fun i hi => by rw [List.mem_singleton.1 hi]; exact hlo⟩
end
/-- The law's state: both tables, the array. -/
structure StW (W w : World) (bt bu ba : Nat) (F G : List Nat) (S U : TbS) (A : Int → List (List C)) : Prop where
  t : AtS W w bt F S
  u : AtS W w bu G U
  a : ArrS W w ba A
theorem StW.ext {W w w' : World} {bt bu ba : Nat} {F G : List Nat} {S U : TbS} {A : Int → List (List C)} (h : StW W w bt bu ba F G S U A) (hx : Ext w w') : StW W w' bt bu ba F G S U A := ⟨h.t.later hx, h.u.later hx, h.a.ext hx⟩
theorem StW.left {W w w' : World} {bt bu ba : Nat} {F G : List Nat} {S U S' : TbS} {A : Int → List (List C)} (h : StW W w bt bu ba F G S U A) (g : LeftS W w w' bt F S') (hd : ∀ i ∈ G, i ∉ F) : StW W w' bt bu ba F G S' U A := ⟨g.at_, h.u.turn g hd, h.a.turn g⟩
theorem StW.right {W w w' : World} {bt bu ba : Nat} {F G : List Nat} {S U U' : TbS} {A : Int → List (List C)} (h : StW W w bt bu ba F G S U A) (g : LeftS W w w' bu G U') (hd : ∀ i ∈ F, i ∉ G) : StW W w' bt bu ba F G S U' A := ⟨h.t.turn g hd, g.at_, h.a.turn g⟩
theorem StW.set {W w : World} {bt bu ba : Nat} {F G : List Nat} {S U : TbS} {A : Int → List (List C)} (h : StW W w bt bu ba F G S U A) (hba : W.heap.size ≤ ba) {n : Nat} (hn : n < 3) (v : Value) (L : List (List C)) (hv : RowA W v L) : StW W (w.setCell ⟨ba, n, none⟩ v) bt bu ba F G S U (upA A n L) := by
  obtain ⟨g, h1, _⟩ := h.a
  exact ⟨h.t.arr h1 (turns_set w ba n v) hba, h.u.arr h1 (turns_set w ba n v) hba, h.a.set hn v L hv⟩
theorem ArrS.fz {W w : World} {ba : Nat} {A : Int → List (List C)} (h : ArrS W w ba A) {n : Nat} (hn : n < 3) : w.frozen? ⟨ba, n, none⟩ = false := by
  obtain ⟨g, h1, _⟩ := h
  match n, hn with
  | 0, _ => exact frozen_of_row _ _ 0 _ _ h1
  | 1, _ => exact frozen_of_row _ _ 1 _ _ h1
  | 2, _ => exact frozen_of_row _ _ 2 _ _ h1
end Go.Proofs.YtlhbpflcffjhmaaGreat

namespace Go.Proofs.YtlhbpflcffjhmaaGreat
open Go.RowKit Go.Sort

theorem PredsR.elh2 {w : World} {a : Option Addr} {n cap : Nat} {us : List PP} (h : PredsR w (.slice a n cap) us) {k : Nat} (hk : k < us.length) : ∃ B o ya yn yc, a = some ⟨B, o, none⟩ ∧ w.cell? ⟨B, o + k, none⟩ = some (.slice ya yn yc) ∧ PredR w (.slice ya yn yc) us[k].p := by
  obtain ⟨B, o, e, c⟩ := PredsR.at h hk
  have hp := h.hs _ (List.getElem_mem hk)
  obtain ⟨ya, yc, hy, _, _⟩ := hp.shape
  rw [hy] at c hp
  exact ⟨B, o, ya, _, yc, e, c, hp⟩
theorem AnsQ.open {w0 w : World} {v : Value} {L : List (List C)} (h : AnsQ w0 w v L) : ∃ a m c us, v = .slice a m c ∧ m = us.length ∧ m ≤ c ∧ psP us = L ∧ RowQ w0.heap.size w (.slice a m c) us := by
  obtain ⟨a, n, c, us, rfl, h1, h2⟩ := h
  obtain ⟨b, d, e, hd, _⟩ := own_shape h2.own
  simp only [Value.slice.injEq] at e
  exact ⟨a, n, c, us, rfl, e.2.1, by omega, h1, h2⟩
theorem came_len {k : Nat} {S : TbS} (h : MuchT k S) (n : Int) : (cameF S n).length ≤ k := by
  unfold cameF
  cases hx : lkF S n with
  | none => exact Nat.zero_le _
  | some x => exact h.came x (lkF_some hx).1
theorem ads_len {k : Nat} {S : TbS} (h : MuchT k S) (n : Int) : (adsF S n).length ≤ 30 := by
  unfold adsF
  cases hx : lkF S n with
  | none => exact Nat.zero_le _
  | some x => exact h.ads x (lkF_some hx).1
theorem fU_much {k : Nat} {S : TbS} (h : MuchT k S) (n : Int) (j : Nat) : MuchT k (tbU (fU S n j) S.own) := by
  have key : ∀ x ∈ (tbU (fU S n j) S.own).ls, ∃ m, x = fU S n j m := fun x hx => by
    unfold tbU at hx
    simp only [List.mem_cons, List.not_mem_nil, or_false] at hx
    rcases hx with rfl | rfl | rfl <;> exact ⟨_, rfl⟩
  have hf : ∀ m, (fU S n j m).came.length ≤ k ∧ (fU S n j m).ads.length ≤ 30 ∧ (fU S n j m).sent.length ≤ 10 * k := fun m => by
    unfold fU
    split
    · exact ⟨came_len h m, ads_len h m, Nat.zero_le _⟩
    · split
      · refine ⟨?_, Nat.zero_le _, Nat.zero_le _⟩
        show ((cameF S m).take j).length ≤ k
        have := came_len h m
        rw [List.length_take]; omega
      · exact ⟨Nat.zero_le _, Nat.zero_le _, Nat.zero_le _⟩
  refine ⟨h.own, fun x hx => ?_, fun x hx => ?_, fun x hx => ?_, ?_⟩
  · obtain ⟨m, rfl⟩ := key x hx; exact (hf m).1
  · obtain ⟨m, rfl⟩ := key x hx; exact (hf m).2.1
  · obtain ⟨m, rfl⟩ := key x hx; exact (hf m).2.2
  · unfold tbU
    simp only [List.map_cons, List.map_nil, fU_n]
    decide
/-- What loop 4 keeps. -/
structure L4 (W w : World) (bt bu ba : Nat) (F G : List Nat) (k : Nat) (S U : TbS) (A : Int → List (List C)) : Prop where
  same : SameT S U
  ads : ∀ n ∈ L3, (A n).all mayP = true ∧ adsF S n = onceF ((A n).map normP)
  s : MuchT (60 + k) S
  u : MuchT (60 + k) U
  st : StW W w bt bu ba F G S U A
theorem sent_len {k : Nat} {S : TbS} (h : MuchT k S) (n : Int) : (sentF S n).length ≤ 10 * k := by
  unfold sentF
  cases hx : lkF S n with
  | none => exact Nat.zero_le _
  | some x => exact h.sent x (lkF_some hx).1
theorem same_ans {w0 w : World} {v1 v2 : Value} {L M : List (List C)} (h1 : AnsQ w0 w v1 L) (h2 : AnsQ w0 w v2 M) (e : L = M) : Calls Tryz.prog 12 #[v1, v2] w fun e w' => e = .returned (.bool true) ∧ Ext w w' := by
  obtain ⟨a, n, c, us, rfl, p1, q1⟩ := h1
  obtain ⟨b, m, d, vs, rfl, p2, q2⟩ := h2
  have := rsameQ_any w _ _ us vs q1.preds q2.preds
  rw [sameB_yes (by rw [p1, p2]; exact e)] at this
  exact this
theorem ads_ch (S : TbS) (n m : Int) : adsF (chTS S n) m = adsF S m := ads_set (g := fun x => { x with sent := wantF S x }) (fun _ => rfl) (fun _ => rfl) m
end Go.Proofs.YtlhbpflcffjhmaaGreat
