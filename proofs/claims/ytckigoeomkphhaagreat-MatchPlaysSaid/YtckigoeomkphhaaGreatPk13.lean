/- A law's argument of predicates, opened. (Of any seat that holds []api.Pred.)
Appending to a row of the call's own: whose block the answer is. (Of any program.)
PLAIN: what MatchAll gathers. -/
import Derived.Test.YtckigoeomkphhaaGreatPk2
import Derived.Test.YtckigoeomkphhaaGreatPk1
import Derived.Test.YtckigoeomkphhaaGreatPk12
namespace Go.Proofs.YtckigoeomkphhaaGreat
open Go.RowKit Go.ChangeShapes Go.WideShapes Go.Deep

structure PP where
  h : Value
  p : List C
def ppC (x : PP) : List Value := [x.h]
theorem ppC_len (x : PP) : (ppC x).length = 1 := rfl
/-- A row of predicates. -/
structure PredsR (w : World) (v : Value) (us : List PP) : Prop where
  row : Row w 1 v us.length (us.flatMap ppC)
  hs : ∀ x ∈ us, PredR w x.h x.p
theorem PredsR.ext {w w' : World} {v : Value} {us : List PP} (h : PredsR w v us) (hx : Ext w w') : PredsR w' v us := ⟨h.row.ext hx, fun x hm => (h.hs x hm).ext hx⟩
theorem PredsR.at {w : World} {a : Option Addr} {n cap : Nat} {us : List PP} (h : PredsR w (.slice a n cap) us) {k : Nat} (hk : k < us.length) : ∃ B o, a = some ⟨B, o, none⟩ ∧ w.cell? ⟨B, o + k, none⟩ = some us[k].h := by
  obtain ⟨B, o, rfl⟩ := Row.base h.row (by omega) (by decide)
  have q := Row.cellAt h.row ((flat_get ppC 1 ppC_len us k hk 0 (by decide)).trans (rfl : (ppC us[k])[0]? = some us[k].h)) (by omega)
  rw [Nat.mul_one, Nat.add_zero] at q
  exact ⟨B, o, rfl, q⟩
theorem u8n {a : Int} (h : (Lit.int .u8 a).wf = true) : ∃ n : Nat, a = (n : Int) ∧ n < 256 := by
  have := bounds_u8 h
  exact ⟨a.toNat, by omega, by omega⟩
section
variable {H : Type} {enc : TypeId × Value → H} {W : World} {base : Nat} {held : Bool}
set_option maxRecDepth 100000 in
theorem open_preds {fuel : Nat} {h : Value} {x : DataW H × List MemPlace} (ht : DataW.trod enc Tryz.prog W base (fun _ => true) held fuel 59 [h] = some x) : ∃ us : List PP, PredsR W h us ∧ ∀ y ∈ us, ∀ c ∈ y.p, okC c := by
  rcases open_slice Tryz.underlying59 ht with ⟨e, _⟩ | ⟨a, len, cap, m, n, D, Pl, e, _, hl, hm, hmm, _, hi⟩
  · simp only [List.cons.injEq, and_true] at e
    subst e
    exact ⟨[], ⟨Row.nil W 1, (fun _ h => (by cases h))⟩, (fun _ h => (by cases h))⟩
  · simp only [List.cons.injEq, and_true] at e
    subst e
    simp only [if_true] at hmm
    subst hmm
    have hC : Tryz.prog.cellsOf 28 = 1 := by kernel_rfl
    rw [hC] at hi
    obtain ⟨l, hln, hp⟩ := list_of (p := fun i (v : PP) => W.cells? base (a.add (i * 1)) 1 = some (ppC v) ∧ PredR W v.h v.p ∧ ∀ c ∈ v.p, okC c) m fun i hi' => by
      obtain ⟨cs, h1, h2⟩ := hi i hi'
      have hlc := (World.cells?_some h1).2.1
      match cs, hlc with
      | [c], _ =>
        obtain ⟨p, hv, hk⟩ := open_pred h2
        exact ⟨⟨c, p⟩, h1, hv, hk⟩
    have hr := row_of_cells ppC 1 ppC_len (by decide) hl hm l hln fun i hi => (hp i hi).1
    have e : (l.take len).length = len := by rw [List.length_take]; omega
    have hall : ∀ y ∈ l.take len, PredR W y.h y.p ∧ ∀ c ∈ y.p, okC c := fun y hy => by
      obtain ⟨i, hi, rfl⟩ := List.getElem_of_mem (List.mem_of_mem_take hy)
      exact (hp i hi).2
    exact ⟨l.take len, ⟨by rw [e]; exact hr, fun y hy => (hall y hy).1⟩, fun y hy => (hall y hy).2⟩
set_option maxRecDepth 100000 in
theorem arg_preds {b0 : Nat} {v : Value} {d : DataW H} {p : List MemPlace} (hv : Value.okWide Tryz.prog W .any b0 59 v) (h : DataW.Trod enc Tryz.prog W base (fun _ => true) held 59 v d p) : ∃ us : List PP, PredsR W v us ∧ ∀ y ∈ us, ∀ c ∈ y.p, okC c := by
  obtain ⟨a, len, cap, rfl⟩ := okWide_slice Tryz.underlying59 hv
  obtain ⟨fuel, hf⟩ := h
  exact open_preds hf
end
end Go.Proofs.YtckigoeomkphhaaGreat

namespace Go.Proofs.YtckigoeomkphhaaGreat
open Go.RowKit

section
variable {P : Program}
theorem run_append_whose {w : World} (base : Nat) (t ty e : TypeId) (i : TypeInfo) (z : Value) (size bytes : Nat) (ht : P.underlying t = some (.slice e)) (hi : P.info? e = some i) (hz : i.zero = some z)
    (hsize : i.size = size) (hby : i.bytes = bytes) (hzs : z.cells.size = size) (hsz : 0 < size) (v : Value) (n : Nat) (xs : List Value) (hown : w.ownsRow base e size v n xs)
    (a : Addr) (m c : Nat) (news : List Value) (hl : news.length = m * size) (hnews : ∀ j u, news[j]? = some u → w.cell? (a.add j) = some u) (h1 : ∀ u ∈ news, u.oneCell' = true) (hm : 0 < m)
    (h63 : n + m ≤ maxLen) (hbytes : (n + m) * bytes ≤ 140737488355328) (hbase : base ≤ w.heap.size) :
    ∃ v' w', (Builtin.append_ #[t, t] ty #[v, .slice (some a) m c]).run P w = .ok v' w' ∧ w'.ownsRow base e size v' (n + m) (xs ++ news) ∧ w.grownBy w' v.ownBlock ∧ (v'.ownBlock = v.ownBlock ∨ v'.ownBlock = some w.heap.size) := by
  obtain ⟨v', w', hr, ho, hg, _⟩ := run_append_own (P := P) (w := w) base t ty e i z size bytes ht hi hz hsize hby hzs hsz v n xs hown a m c news hl hnews h1 h63 hbytes hbase
  refine ⟨v', w', hr, ho, hg, ?_⟩
  subst hsize
  have hsmall : n + m ≤ 9223372036854775807 := by simp only [maxLen] at h63; omega
  rcases hown.2 with ⟨rfl, rfl⟩ | ⟨g, cap, cur, rfl, hbg, hgh, hnc, hcm, hcs, htake⟩
  · have hr2 := run_append_nil (P := P) w t ty e i z ht hi hz a m c news hl hnews hm (by omega) (by rw [hby]; simp only [Nat.zero_add] at hbytes; omega)
    rw [hr2] at hr
    cases hr
    exact .inr rfl
  · by_cases hroom : n + m ≤ cap
    · have hfit : n * i.size + news.length ≤ cur.size := by rw [hl, hcs, ← Nat.add_mul]; exact Nat.mul_le_mul_right _ hroom
      have hr2 := run_append_room (P := P) w t ty e i ht hi g n cap cur hgh a m c news hl hnews h1 hroom hfit
      rw [hr2] at hr
      cases hr
      exact .inl rfl
    · have holds : ∀ j u, xs[j]? = some u → w.cell? ((⟨g, 0, none⟩ : Addr).add j) = some u := hown.cells (g := g) rfl
      have hr2 := run_append_grow (P := P) w t ty e i z ht hi hz ⟨g, 0, none⟩ n cap xs hown.1 holds a m c news hl hnews (by omega) (by omega) (growslice_fits (by omega) (by rw [hby]; exact hbytes))
      rw [hr2] at hr
      cases hr
      exact .inr rfl

/-- 'append(s, x...)' behind memory of the call's own, and whose block the answer is. -/
theorem wpList_append_whose {ops : Array Oper} {Q : Exit → Act → World → Prop} {a : Act} {w : World} {rest : List Oper} {o : Oper}
    (t e : TypeId) (s x : Operand) (ho : o.op = .call { callee := .builtin .append, args := #[s, x], argTypes := #[t, t] })
    (base : Nat) (z : Value) (size bytes : Nat) (ht : P.underlying t = some (.slice e)) (hi : (P.info? e).map (fun i => (i.zero, i.size, i.bytes)) = some (some z, size, bytes))
    (hzs : z.cells.size = size) (hsz : 0 < size)
    (hw : Region.wanted o (yielded ops a.tmps) = true)
    (v : Value) (n : Nat) (xs : List Value) (hs : a.eval s = v) (hown : w.ownsRow base e size v n xs)
    (m : Nat) (news : List Value) (hx : Row w size (a.eval x) m news) (h1 : ∀ u ∈ news, u.oneCell' = true) (hm : 0 < m)
    (hbytes : (n + m) * bytes ≤ 140737488355328) (h63 : n + m ≤ maxLen) (hbase : base ≤ w.heap.size)
    (h : ∀ v' w', w'.ownsRow base e size v' (n + m) (xs ++ news) → w.grownBy w' v.ownBlock → (v'.ownBlock = v.ownBlock ∨ v'.ownBlock = some w.heap.size) → wpList P ops Q rest (a.put o.dst v') w') : wpList P ops Q (o :: rest) a w := by
  obtain ⟨i, hi1, hi2, hi3, hi4⟩ := info_parts hi
  obtain ⟨hl, ad, cap, hv, hc, hmx, hnil, hspot, hcell⟩ := hx
  cases ad with
  | none => have := hnil rfl; omega
  | some p =>
    have hps : p.spot = none := hspot p rfl (by omega)
    have hadd : ∀ j, p.add j = ⟨p.block, p.off + j, none⟩ := fun j => by
      obtain ⟨pb', po', ps⟩ := p
      simp only at hps; subst hps
      unfold Addr.add; split <;> simp_all
    obtain ⟨v', w', hr, ho', hg, hq⟩ := run_append_whose (P := P) (w := w) base t o.type e i z size bytes ht hi1 hi2 hi3 hi4 hzs hsz v n xs hown p m cap news hl (fun j u hj => by
      obtain ⟨p', hp', hcl⟩ := hcell j u hj
      simp only [Option.some.injEq] at hp'; subst hp'
      rw [hadd]; exact hcl) h1 hm h63 hbytes hbase
    rw [← hv] at hr
    refine wpList_val hw ?_ (h v' w' ho' hg hq)
    simp only [execOp, ho, resolve, invoke, builtin, Sem.run_bind, Sem.run_pure, Result.andThen_ok, List.map_toArray, List.map_cons, List.map_nil, hs, hr]

theorem row_kept {w w' : World} {size n : Nat} {v : Value} {xs : List Value} {row : Option Nat} (h : Row w size v n xs) (hg : w.grownBy w' row) (hne : ∀ B o k c, v = .slice (some ⟨B, o, none⟩) k c → some B ≠ row) : Row w' size v n xs := by
  obtain ⟨h1, a, cap, rfl, h3, h4, h5, h6, h7⟩ := h
  refine ⟨h1, a, cap, rfl, h3, h4, h5, h6, fun j u hj => ?_⟩
  obtain ⟨p, rfl, hc⟩ := h7 j u hj
  refine ⟨p, rfl, hg.cell hc ?_⟩
  by_cases h0 : 0 < cap
  · have hs := h6 p rfl h0
    obtain ⟨B, o, sp⟩ := p
    simp only at hs
    subst hs
    exact hne B o _ _ rfl
  · exfalso
    have hjl : j < xs.length := by
      rcases Nat.lt_or_ge j xs.length with h' | h'
      · exact h'
      · rw [List.getElem?_eq_none h'] at hj; cases hj
    have hn : n = 0 := by omega
    rw [hn, Nat.zero_mul] at h1
    omega
end
end Go.Proofs.YtckigoeomkphhaaGreat

namespace Go.Proofs.YtckigoeomkphhaaGreat

def maP (ps : List (List C)) (k : Nat) : List C := ps.getD k []
def maR (ps : List (List C)) : Nat → SP
  | 0 => []
  | k + 1 => maR ps k ++ (if mayP (maP ps k) then [((k : Int), normP (maP ps k))] else [])
def maW (ps : List (List C)) (l : List AT) : Nat → List Int
  | 0 => []
  | k + 1 => maW ps l k ++ (if mayP (maP ps k) && matchP (maP ps k) l then [(k : Int)] else [])
def maX (ps : List (List C)) (l : List AT) (g : Nat) : Nat → List Int
  | 0 => []
  | k + 1 => maX ps l g k ++ (if (mayP (maP ps k) && matchP (maP ps k) l) && !decide (k = g) then [(k : Int)] else [])
theorem maR_mem {ps : List (List C)} {n : Nat} {k : Int × List C} (h : k ∈ maR ps n) : ∃ j : Nat, j < n ∧ k.1 = (j : Int) := by
  induction n with
  | zero => cases h
  | succ n ih =>
    rcases List.mem_append.1 h with h | h
    · obtain ⟨j, hj, e⟩ := ih h
      exact ⟨j, by omega, e⟩
    · split at h
      · exact ⟨n, by omega, by rw [List.mem_singleton.1 h]⟩
      · cases h
theorem maR_len (ps : List (List C)) (n : Nat) : (maR ps n).length ≤ n := by
  induction n with
  | zero => exact Nat.le_refl _
  | succ n ih =>
    show (maR ps n ++ _).length ≤ _
    rw [List.length_append]
    split <;> simp <;> omega
theorem maR_rel (ps : List (List C)) (n : Nat) : RelSL (maR ps n) (maR ps n) := by
  refine ⟨List.Perm.refl _, ?_⟩
  induction n with
  | zero => exact List.Pairwise.nil
  | succ n ih =>
    refine List.pairwise_append.2 ⟨ih, ?_, fun a ha c hc => ?_⟩
    · split
      · exact List.pairwise_singleton _ _
      · exact List.Pairwise.nil
    · split at hc
      · rw [List.mem_singleton.1 hc]
        obtain ⟨j, hj, e⟩ := maR_mem ha
        rw [e]; show (j : Int) < (n : Int); omega
      · cases hc
theorem maR_add {ps : List (List C)} {k : Nat} (hk : k < 60) : addE (maR ps k) (k : Int) (maP ps k) = (if mayP (maP ps k) then 0 else 30) ∧ addS (maR ps k) (k : Int) (maP ps k) = maR ps (k + 1) := by
  have h0 : addE (maR ps k) (k : Int) (maP ps k) = (if mayP (maP ps k) then 0 else 30) := by
    unfold addE
    rw [if_neg (by omega)]
    have hno : hasS (maR ps k) (k : Int) = false := by
      rw [Bool.eq_false_iff]
      intro hh
      obtain ⟨x, hx, e⟩ := hasS_iff.1 hh
      obtain ⟨j, hj, e2⟩ := maR_mem hx
      omega
    have hl := maR_len ps k
    cases hm : mayP (maP ps k) with
    | false => rw [if_pos rfl]; rfl
    | true => rw [if_neg (by decide), hno, if_neg (by decide), if_neg (by omega)]; rfl
  refine ⟨h0, ?_⟩
  unfold addS
  rw [h0]
  show _ = maR ps k ++ _
  cases mayP (maP ps k) with
  | false => simp
  | true => simp
theorem maR_want (ps : List (List C)) (l : List AT) (n : Nat) : ((maR ps n).filter fun k => matchP k.2 l).map (·.1) = maW ps l n := by
  induction n with
  | zero => rfl
  | succ n ih =>
    show (List.filter _ (maR ps n ++ _)).map _ = maW ps l n ++ _
    rw [List.filter_append, List.map_append, ih]
    congr 1
    cases hm : mayP (maP ps n) with
    | false => rfl
    | true =>
      rw [if_pos rfl, List.filter_cons, List.filter_nil]
      show List.map _ (if matchP (normP (maP ps n)) l = true then _ else _) = _
      rw [normP_match hm l]
      cases matchP (maP ps n) l <;> rfl
theorem maR_less (ps : List (List C)) (l : List AT) (g n : Nat) : ((delS (maR ps n) (g : Int)).filter fun k => matchP k.2 l).map (·.1) = maX ps l g n := by
  induction n with
  | zero => rfl
  | succ n ih =>
    show (List.filter _ (List.filter _ (maR ps n ++ _))).map _ = maX ps l g n ++ _
    rw [List.filter_append, List.filter_append, List.map_append]
    have h := ih
    unfold delS at h
    rw [h]
    congr 1
    cases hm : mayP (maP ps n) with
    | false => rfl
    | true =>
      rw [if_pos rfl, List.filter_cons, List.filter_nil]
      by_cases hg : n = g
      · subst hg
        simp
      · have h1 : ¬ (n : Int) = (g : Int) := by omega
        simp only [h1, hg, decide_false, Bool.not_false, if_true, Bool.and_true, Bool.true_and]
        rw [List.filter_cons, List.filter_nil]
        show List.map _ (if matchP (normP (maP ps n)) l = true then _ else _) = _
        rw [normP_match hm l]
        cases matchP (maP ps n) l <;> rfl
theorem maW_len (ps : List (List C)) (l : List AT) (n : Nat) : (maW ps l n).length ≤ n := by
  induction n with
  | zero => exact Nat.le_refl _
  | succ n ih => show (maW ps l n ++ _).length ≤ _; rw [List.length_append]; split <;> simp <;> omega
theorem maX_len (ps : List (List C)) (l : List AT) (g n : Nat) : (maX ps l g n).length ≤ n := by
  induction n with
  | zero => exact Nat.le_refl _
  | succ n ih => show (maX ps l g n ++ _).length ≤ _; rw [List.length_append]; split <;> simp <;> omega
end Go.Proofs.YtckigoeomkphhaaGreat
