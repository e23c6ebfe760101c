/- Ways (26): what is on its way, by rising numbers. -/
import Derived.Test.YtlgopjfnknjgjaaN7
import Derived.Test.YtlgopjfnknjgjaaN1
import Derived.Test.YtlgopjfnknjgjaaO1
namespace Go.Proofs.Ytlgopjfnknjgjaa
open Go.RowKit Go.MapKept Go.Sort

/-- A way: number, from, to. -/
structure WY where
  i : Nat
  f : Nat
  d : Nat
instance : Inhabited WY := ⟨⟨0, 0, 0⟩⟩
def wC (x : WY) : List Value := [.int .u64 x.i, .int .i64 x.f, .int .i64 x.d]
theorem wC_len (x : WY) : (wC x).length = 3 := rfl
theorem wC_one (x : WY) : ∀ u ∈ wC x, u.oneCell' = true := by
  intro u hu
  simp only [wC, List.mem_cons, List.not_mem_nil, or_false] at hu
  rcases hu with rfl | rfl | rfl <;> rfl
def wOf (x : PK) : WY := ⟨x.id, x.fr, x.dst⟩
def cmpW (a b : WY) : Int := if a.i < b.i then -1 else if b.i < a.i then 1 else 0
theorem wo_W : WO cmpW := by
  refine ⟨fun a b => ?_, fun a b c h1 h2 => ?_⟩
  · unfold cmpW; split <;> split <;> omega
  · unfold cmpW at *; split at h1 <;> split at h2 <;> split <;> (try split) <;> omega
theorem swo_W : SWO (ltOf cmpW) := by
  have key : ∀ x y, ltOf cmpW x y = decide (x.i < y.i) := fun x y => by
    unfold ltOf cmpW
    split
    · rename_i h; simp [h]
    · rename_i h
      split
      · simp [h]
      · simp [h]
  refine ⟨fun x => ?_, fun x y z h1 h2 => ?_, fun x y z h1 h2 => ?_⟩
  · rw [key]; exact decide_eq_false (Nat.lt_irrefl _)
  · rw [key] at *
    have a1 := of_decide_eq_true h1
    have a2 := of_decide_eq_true h2
    exact decide_eq_true (Nat.lt_trans a1 a2)
  · rw [key] at *
    have a1 := of_decide_eq_false h1
    have a2 := of_decide_eq_false h2
    exact decide_eq_false (by omega)

set_option maxHeartbeats 1000000 in
theorem nan_any (w : World) (a : Int) : Calls Try.prog 51 #[.int .u64 a] w fun e w' => e = .returned (.bool false) ∧ w = w' := by
  go_enter Try.func51, Try.ntmps51
  go_wp2_with fail
  go_ret
  exact ⟨by simp, rfl⟩
set_option maxHeartbeats 1000000 in
theorem cmpN_any (w : World) (a b : Nat) : Calls Try.prog 43 #[.int .u64 a, .int .u64 b] w fun e w' => e = .returned (.int .i64 (if a < b then -1 else if b < a then 1 else 0)) ∧ w = w' := by
  by_cases h1 : a < b
  · have d1 : decide ((a : Int) < (b : Int)) = true := decide_eq_true (by omega)
    have d2 : decide (a < b) = true := decide_eq_true h1
    rw [if_pos h1]
    go_enter Try.func43, Try.ntmps43
    go_wp2_with (go_at_call 51; (with_reducible refine (nan_any _ _).mono ?_); rintro e w2 ⟨rfl, rfl⟩)
    go_ret
    exact ⟨rfl, rfl⟩
  · have d1 : decide ((a : Int) < (b : Int)) = false := decide_eq_false (by omega)
    have d2 : decide (a < b) = false := decide_eq_false h1
    rw [if_neg h1]
    by_cases h2 : b < a
    · have d3 : decide ((b : Int) < (a : Int)) = true := decide_eq_true (by omega)
      have d4 : decide (b < a) = true := decide_eq_true h2
      rw [if_pos h2]
      go_enter Try.func43, Try.ntmps43
      go_wp2_with (go_at_call 51; (with_reducible refine (nan_any _ _).mono ?_); rintro e w2 ⟨rfl, rfl⟩)
      go_ret
      exact ⟨rfl, rfl⟩
    · have d3 : decide ((b : Int) < (a : Int)) = false := decide_eq_false (by omega)
      have d4 : decide (b < a) = false := decide_eq_false h2
      rw [if_neg h2]
      go_enter Try.func43, Try.ntmps43
      go_wp2_with (go_at_call 51; (with_reducible refine (nan_any _ _).mono ?_); rintro e w2 ⟨rfl, rfl⟩)
      go_ret
      exact ⟨rfl, rfl⟩
set_option maxHeartbeats 1000000 in
theorem cmpW_any (w : World) (x y : WY) : Calls Try.prog 42 #[.agg (wC x).toArray, .agg (wC y).toArray] w fun e w' => e = .returned (.int .i64 (cmpW x y)) ∧ Grew w w' := by
  unfold wC cmpW
  have HC := Lib.hid (fun w => cmpN_any w x.i y.i)
  generalize (if x.i < y.i then (-1 : Int) else if y.i < x.i then 1 else 0) = r at *
  go_enter Try.func42, Try.ntmps42
  go_wp2_with (go_at_call 43; (with_reducible refine (HC.out _).mono ?_); rintro e w2 ⟨rfl, rfl⟩)
  go_ret
  exact ⟨rfl, ((Grew.refl w).alloc _).alloc _⟩
theorem ent42 : ∀ args w, (callFunc 42 args).run Try.prog w = .ok (.enter 42 args) w := enters_of Try.func42 (by kernel_rfl) rfl
theorem sortW_any (w : World) (base : Nat) (v : Value) (l : List WY) (ho : w.ownsRow base 64 3 v l.length (l.flatMap wC)) (hl : l.length ≤ 1000000) :
    Calls Try.prog 41 #[v, .func (.func 42) #[] #[]] w fun e w' => e = .returned (.tuple #[]) ∧ ∃ l' : List WY, l'.Perm l ∧ (l'.Pairwise fun a b => cmpW a b ≤ 0) ∧ w'.ownsRow base 64 3 v l.length (l'.flatMap wC) ∧ w.grownBy w' v.ownBlock := by
  have ho' := ho
  rcases ho.2 with ⟨rfl, h0⟩ | ⟨g, cap, cur, rfl, hb, hg, hn, hm, hs, ht⟩
  · have hz : l = [] := List.length_eq_zero_iff.1 h0
    subst hz
    refine (AnyF.slices_SortFunc_none { Try.sortW with } none 0 (.func (.func 42) #[] #[]) w).mono ?_
    rintro e w' ⟨rfl, rfl⟩
    exact ⟨rfl, [], List.Perm.refl _, List.Pairwise.nil, ho, ⟨rfl, rfl, rfl, Nat.le_refl _, fun _ _ _ => rfl⟩⟩
  · have hlt : g < w.heap.size := (Array.getElem?_eq_some_iff.1 hg).1
    have hH := own_holdsK wC (by decide) wC_len ho
    have hc := AnyQ.slices_SortFunc Try.sortW 3 (fun w => Try.isAgg64 w) (fun w => Try.sizeOf64 w) wC wC_len wC_one cmpW swo_W 42 #[] g 0 cap l.toArray w ent42
      (fun m os dk _ x y => (cmpW_any _ x y).mono fun _ _ ⟨he, hx⟩ => ⟨he, hx.grown⟩) hH hlt (by simp; omega)
    have e1 : l.toArray.size = l.length := by simp
    rw [e1] at hc
    refine hc.mono ?_
    rintro e w' ⟨rfl, d', n, os, hp, hs', rfl⟩
    obtain ⟨p1, p2⟩ := sorted_list (by rw [e1]; exact hp) (by rw [e1]; exact hs') (wo_W.anti)
    have hll : d'.toList.length = l.length := p1.length_eq
    have hfin := own_sorted (m := n) (os := os) wC (by decide) wC_len ho hll
    exact ⟨rfl, d'.toList, p1, p2, hfin.1, hfin.2⟩
/-- Sorted rows of different numbers are one. -/
theorem ways_same {l m : List WY} (h : l.Perm m) (hl : l.Pairwise fun a b => cmpW a b ≤ 0) (hm : m.Pairwise fun a b => a.i < b.i) : l = m := by
  have hnd : (l.map (·.i)).Nodup := by
    have h1 : (m.map (·.i)).Nodup := by
      rw [List.nodup_iff_pairwise_ne, List.pairwise_map]
      exact hm.imp fun h => Nat.ne_of_lt h
    exact (h.map _).nodup_iff.2 h1
  have hl2 : l.Pairwise fun a b => a.i < b.i := by
    rw [List.nodup_iff_pairwise_ne, List.pairwise_map] at hnd
    refine (hl.and hnd).imp fun {a b} h => ?_
    have h1 := h.1
    have h2 := h.2
    unfold cmpW at h1
    split at h1
    · assumption
    · split at h1 <;> omega
  exact List.Perm.eq_of_pairwise (le := fun a b => a.i < b.i) (fun _ _ _ _ h1 h2 => absurd h2 (Nat.lt_asymm h1)) hl2 hm h
def intN : Value → Nat
  | .int _ i => i.toNat
  | _ => 0
def aggL : Value → List Value
  | .agg a => a.toList
  | _ => []
def decW (p : Value × Value) : WY := ⟨intN ((aggL p.2).getD 0 undef), intN ((aggL p.2).getD 1 undef), intN ((aggL p.2).getD 2 undef)⟩
theorem decW_pE (x : PK) : decW (pE x) = wOf x := by
  show WY.mk ((x.id : Int).toNat) ((x.fr : Int).toNat) ((x.dst : Int).toNat) = ⟨x.id, x.fr, x.dst⟩
  simp
theorem ways_perm {L done : List PK} (h : (L.map pE).Perm (done.map pE)) : (done.map wOf).Perm (L.map wOf) := by
  have := h.map decW
  rw [List.map_map, List.map_map] at this
  have e : decW ∘ pE = wOf := funext decW_pE
  rw [e] at this
  exact this.symm
end Go.Proofs.Ytlgopjfnknjgjaa
