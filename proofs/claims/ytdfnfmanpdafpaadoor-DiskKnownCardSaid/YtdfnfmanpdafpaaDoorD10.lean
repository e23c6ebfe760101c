/- Disk: a disk's memory as its files turn, come and go; questions of a disk. -/
import Derived.Test.YtdfnfmanpdafpaaDoorD9
namespace Go.Proofs.YtdfnfmanpdafpaaDoor
open Go.RowKit Go.MapKept

theorem pair_mem {α : Type} {R : α → α → Prop} (hs : ∀ a b, R a b → R b a) : ∀ {l : List α}, l.Pairwise R → ∀ x ∈ l, ∀ y ∈ l, x ≠ y → R x y
  | [], _, _, hx, _, _, _ => by cases hx
  | z :: l, h, x, hx, y, hy, hne => by
    have h1 := List.pairwise_cons.1 h
    rcases List.mem_cons.1 hx with e1 | h2 <;> rcases List.mem_cons.1 hy with e2 | h3
    · exact absurd (e1.trans e2.symm) hne
    · rw [e1]; exact h1.1 y h3
    · rw [e2]; exact hs _ _ (h1.1 x h2)
    · exact pair_mem hs h1.2 x h2 y h3 hne
theorem FileR.no_box {w : World} {g : FG} (h : FileR w g) {b : Nat} {m : Value} {q fz : Int} {off : Bool} (hb : DkB w b m q fz off) : b ∉ ftG g := by
  intro hm
  rcases List.mem_cons.1 hm with rfl | hm
  · have := h.cell.symm.trans hb
    injection this with this
    injection this with _ ht
    exact absurd ht (by decide)
  · exact own_ne h.row hb (by decide) (by simpa using hm)
theorem FileR.no_map {w : World} {g : FG} (h : FileR w g) {bm : Nat} {d : TypeDesc} {E : List (Value × Value)} (hb : MapE w bm d E) : bm ∉ ftG g := by
  obtain ⟨es, c, hm1, _⟩ := hb
  intro hm
  rcases List.mem_cons.1 hm with rfl | hm
  · have := h.cell.symm.trans hm1
    injection this with this
    cases this
  · have hm : g.h.ownBlock = some bm := by simpa using hm
    rcases h.row.2 with ⟨e, _⟩ | ⟨g', cap, cur, e, _, hg, _⟩
    · rw [e] at hm; cases hm
    · rw [e] at hm
      have : g' = bm := by injection hm
      subst this
      have := hg.symm.trans hm1
      injection this with this
      cases this
theorem box_no_map {w : World} {b bm : Nat} {m : Value} {q fz : Int} {off : Bool} (hb : DkB w b m q fz off) {d : TypeDesc} {E : List (Value × Value)} (h : MapE w bm d E) : b ≠ bm := by
  rintro rfl
  obtain ⟨es, c, hm1, _⟩ := h
  have := Eq.trans (Eq.symm hb) hm1
  injection this with this
  cases this
theorem foot_file {b bm : Nat} {gs : List FG} {g : FG} (h : g ∈ gs) {k : Nat} (hk : k ∈ ftG g) : k ∈ foot b bm gs := by
  unfold foot
  exact List.mem_cons_of_mem _ (List.mem_cons_of_mem _ (List.mem_flatMap.2 ⟨g, h, hk⟩))
theorem mem_foot {b bm : Nat} {gs : List FG} {k : Nat} : k ∈ foot b bm gs ↔ k = b ∨ k = bm ∨ ∃ g ∈ gs, k ∈ ftG g := by
  unfold foot
  rw [List.mem_cons, List.mem_cons, List.mem_flatMap]
theorem eG_set {gs : List FG} (hu : UpK FG.nm gs) {g g' : FG} (hg : g ∈ gs) (hn : g'.nm = g.nm) (hp : g'.p = g.p) : (nset FG.nm gs g').map eG = gs.map eG := by
  unfold nset
  rw [List.map_map]
  refine List.map_congr_left fun x hx => ?_
  simp only [Function.comp]
  split
  · rename_i e
    have : x = g := hu.inj hx hg (e.trans hn)
    subst this
    unfold eG; rw [hn, hp]
  · rfl
theorem DkR.set {w w' : World} {b bm : Nat} {gs : List FG} {q fz : Int} {off : Bool} (h : DkR w b bm gs q fz off) {g g' : FG} (hg : g ∈ gs) (hn : g'.nm = g.nm) (hp : g'.p = g.p) (ht : Turns (ftG g) w w') (hf : FileR w' g') (hb : ∀ k ∈ ftG g', k ∈ ftG g ∨ w.heap.size ≤ k) :
    DkR w' b bm (nset FG.nm gs g') q fz off ∧ Moves (foot b bm gs) (foot b bm (nset FG.nm gs g')) w w' := by
  obtain ⟨E, hE, hperm⟩ := h.map
  have hfg := h.files g hg
  have hap : ∀ x ∈ gs, x.nm ≠ g'.nm → Ap g x := fun x hx hne => pair_mem (fun _ _ => Ap.symm) h.apart g hg x hx (fun e => hne (by rw [← e, hn]))
  have hap2 : ∀ x ∈ gs, x.nm ≠ g'.nm → Ap g' x := fun x hx hne k hk hkx => by
    rcases hb k hk with h1 | h1
    · exact hap x hx hne k h1 hkx
    · have := (h.files x hx).lt k hkx; omega
  refine ⟨⟨ht.at h.box (hfg.no_box h.box), ⟨E, hE.turnD ht (hfg.no_map hE), ?_⟩, nset_up h.up, fun x hx => ?_, ?_⟩, ⟨ht.wide fun i hi => foot_file hg hi, fun k hk => ?_⟩⟩
  · rw [eG_set h.up hg hn hp]; exact hperm
  · unfold nset at hx
    obtain ⟨y, hy, rfl⟩ := List.mem_map.1 hx
    split
    · exact hf
    · rename_i hne
      exact (h.files y hy).turn ht fun k hk hk2 => hap y hy hne k hk2 hk
  · unfold nset
    rw [List.pairwise_map]
    refine List.Pairwise.imp_of_mem ?_ (h.apart.and h.up)
    rintro x y hx hy ⟨hxy, hlt⟩
    split <;> split
    · rename_i e1 e2
      rw [e1, e2, wo_bytes.refl] at hlt; omega
    · rename_i e1 e2; exact hap2 y hy e2
    · rename_i e1 e2; exact (hap2 x hx e1).symm
    · exact hxy
  · rcases mem_foot.1 hk with h1 | h1 | ⟨x, hx, h1⟩
    · exact .inl (mem_foot.2 (.inl h1))
    · exact .inl (mem_foot.2 (.inr (.inl h1)))
    · unfold nset at hx
      obtain ⟨y, hy, rfl⟩ := List.mem_map.1 hx
      split at h1
      · rcases hb k h1 with h2 | h2
        · exact .inl (foot_file hg h2)
        · exact .inr h2
      · exact .inl (foot_file hy h1)
/-- A map's entries as names come and go. -/
theorem entries_put {E E' : List (Value × Value)} {key val : Value} (hn : (E.map (·.1)).Nodup) (h : ((∀ p ∈ E, p.1 ≠ key) ∧ E' = E ++ [(key, val)]) ∨ ∃ (j : Nat) (u : Value), E[j]? = some (key, u) ∧ E' = E.set j (key, val)) [DecidableEq Value] :
    E'.Perm ((key, val) :: E.filter fun p => !decide (p.1 = key)) := by
  rcases h with ⟨h1, rfl⟩ | ⟨j, u, hj, rfl⟩
  · rw [List.filter_eq_self.2 (fun p hp => by simp [h1 p hp])]
    exact List.perm_append_singleton _ _
  · induction E generalizing j with
    | nil => simp at hj
    | cons x E ih =>
      rw [List.map_cons, List.nodup_cons] at hn
      cases j with
      | zero =>
        simp at hj
        subst hj
        rw [List.set_cons_zero, List.filter_cons_of_neg (by simp), List.filter_eq_self.2 (fun p hp => by
          have : p.1 ≠ key := fun e => hn.1 (List.mem_map.2 ⟨p, hp, e⟩)
          simp [this])]
      | succ j =>
        simp at hj
        have hx : x.1 ≠ key := fun e => hn.1 (by rw [e]; exact List.mem_map.2 ⟨_, List.mem_of_getElem? hj, rfl⟩)
        rw [List.set_cons_succ, List.filter_cons_of_pos (by simp [hx])]
        exact ((ih hn.2 j hj).cons x).trans (List.Perm.swap _ _ _)
theorem entries_del {E E' : List (Value × Value)} {key : Value} (hn : (E.map (·.1)).Nodup) (h : ((∀ p ∈ E, p.1 ≠ key) ∧ E' = E) ∨ ∃ (j : Nat) (u : Value), E[j]? = some (key, u) ∧ E' = E.eraseIdx j) [DecidableEq Value] :
    E' = E.filter fun p => !decide (p.1 = key) := by
  rcases h with ⟨h1, rfl⟩ | ⟨j, u, hj, rfl⟩
  · rw [List.filter_eq_self.2 (fun p hp => by simp [h1 p hp])]
  · induction E generalizing j with
    | nil => simp at hj
    | cons x E ih =>
      rw [List.map_cons, List.nodup_cons] at hn
      cases j with
      | zero =>
        simp at hj
        subst hj
        rw [List.eraseIdx_cons_zero, List.filter_cons_of_neg (by simp), List.filter_eq_self.2 (fun p hp => by
          have : p.1 ≠ key := fun e => hn.1 (List.mem_map.2 ⟨p, hp, e⟩)
          simp [this])]
      | succ j =>
        simp at hj
        have hx : x.1 ≠ key := fun e => hn.1 (by rw [e]; exact List.mem_map.2 ⟨_, List.mem_of_getElem? hj, rfl⟩)
        rw [List.eraseIdx_cons_succ, List.filter_cons_of_pos (by simp [hx]), ih hn.2 j hj]
end Go.Proofs.YtdfnfmanpdafpaaDoor
