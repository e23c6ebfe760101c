/- Steps of a region that draws its order, for the kit's walk of each order: append behind own bytes; a call. -/
import Derived.Test.YtkaepcjkpaplfaaDoorN2
import Derived.Deep.RegionWith
import Derived.Deep.RegionLaw
namespace Go.Proofs.YtkaepcjkpaplfaaDoor
open Go.RowKit

theorem run_append_row {P : Program} {a : Act} {w : World} {o : Oper}
    (t e : TypeId) (s x : Operand) (ho : o.op = .call { callee := .builtin .append, args := #[s, x], argTypes := #[t, t] })
    (base : Nat) (z : Value) (size bytes : Nat) (ht : P.underlying t = some (.slice e)) (hi : (P.info? e).map (fun i => (i.zero, i.size, i.bytes)) = some (some z, size, bytes))
    (hzs : z.cells.size = size) (hsz : 0 < size)
    (v : Value) (n : Nat) (xs : List Value) (hs : a.eval s = v) (hown : w.ownsRow base e size v n xs)
    (m : Nat) (news : List Value) (hx : Row w size (a.eval x) m news) (h1 : ∀ u ∈ news, u.oneCell' = true)
    (hbytes : (n + m) * bytes ≤ 140737488355328) (h63 : n + m ≤ maxLen) (hbase : base ≤ w.heap.size) :
    ∃ v' w', (execOp a.eval o).run P w = .ok (.value v') w' ∧ w'.ownsRow base e size v' (n + m) (xs ++ news) ∧ w.grownBy w' v.ownBlock := by
  obtain ⟨i, hi1, hi2, hi3, hi4⟩ := info_parts hi
  obtain ⟨hl, ad, cap, hv, hc, hm, hnil, hspot, hcell⟩ := hx
  have hexec : ∀ r : Result Value, (Builtin.append_ #[t, t] o.type #[v, a.eval x]).run P w = r → (execOp a.eval o).run P w = r.andThen fun y w' => .ok (.value y) w' := by
    intro r hr
    simp only [execOp, ho, resolve, invoke, builtin, Sem.run_bind, Sem.run_pure, Result.andThen_ok, List.map_toArray, List.map_cons, List.map_nil, hs, hr]
  cases ad with
  | none =>
    have hc0 : cap = 0 := hnil rfl
    subst hc0
    have hm0 : m = 0 := by omega
    subst hm0
    have hn0 : news = [] := List.eq_nil_of_length_eq_zero (by simpa using hl)
    subst hn0
    have hr := run_append_owned_none (P := P) (w := w) base t o.type e i size ht hi1 v n xs hown
    rw [← hv] at hr
    exact ⟨v, w, hexec _ hr, by simpa using hown, World.grownBy.refl w _⟩
  | some p =>
    obtain ⟨v', w', hr, ho', hg, _⟩ := run_append_own (P := P) w base t o.type e i z size bytes ht hi1 hi2 hi3 hi4 hzs hsz v n xs hown p m cap news hl (fun j u hj => by
      obtain ⟨p', hp', hcl⟩ := hcell j u hj
      simp at hp'; subst hp'
      have hps := hspot _ rfl (by
        have hjl : j < news.length := by
          rcases Nat.lt_or_ge j news.length with h' | h'
          · exact h'
          · rw [List.getElem?_eq_none h'] at hj; cases hj
        rcases Nat.eq_zero_or_pos m with h' | h'
        · subst h'; simp at hl; subst hl; simp at hjl
        · omega)
      have : p.add j = ⟨p.block, p.off + j, none⟩ := by
        obtain ⟨pb, po, ps⟩ := p
        simp only at hps; subst hps
        unfold Addr.add; split <;> simp_all
      rw [this]; exact hcl) h1 h63 hbytes hbase
    rw [← hv] at hr
    exact ⟨v', w', hexec _ hr, ho', hg⟩

theorem step_call {P : Program} {ops : Array Oper} {o : Oper} {a : Act} {w : World} {K : Act → World → Prop} {Q : Exit → Act → World → Prop} {E : Prop}
    (hg : o.guard = none) (h : Oper.wp P o a w K Q) : if Region.wanted o (yielded ops a.tmps) = true then Oper.wp P o a w K Q else E := by
  rw [if_pos (by simp [Region.wanted, hg])]
  exact h

theorem step_appB {ops : Array Oper} {o : Oper} {a : Act} {w : World} {K : Act → World → Prop} {Q : Exit → Act → World → Prop} {E : Prop}
    (hg : o.guard = none) (s x : Operand) (ho : o.op = .call { callee := .builtin .append, args := #[s, x], argTypes := #[34, 34] })
    (base : Nat) {l m : List UInt8} (hs : OwnB w base (a.eval s) l) (hx : Bytes w (a.eval x) m)
    (hlen : l.length + m.length ≤ 140737488355328) (hbase : base ≤ w.heap.size)
    (h : ∀ v' w', OwnB w' base v' (l ++ m) → w.grownBy w' (a.eval s).ownBlock → K (a.put o.dst v') w') :
    if Region.wanted o (yielded ops a.tmps) = true then Oper.wp Tryd.prog o a w K Q else E := by
  refine step_call hg ?_
  obtain ⟨v', w', hr, ho', hgr⟩ := run_append_row (P := Tryd.prog) (a := a) (w := w) (o := o) 34 5 s x ho base (.int .u8 0) 1 1 Tryd.underlying34 info5 rfl (by decide) _ _ _ rfl hs _ _ hx (oneB m) (by omega) (by simp only [maxLen]; omega) hbase
  unfold Oper.wp
  rw [hr]
  exact h v' w' (by unfold OwnB; simpa using ho') hgr

end Go.Proofs.YtkaepcjkpaplfaaDoor
