/- Disk, plainly: what a disk may be, it may be behind any call. -/
import Derived.Test.YtdfnfmanpdafpaaDoorD20
namespace Go.Proofs.YtdfnfmanpdafpaaDoor

structure OkF (l : List Fl) : Prop where
  up : UpK Fl.nm l
  names : ∀ f ∈ l, mayN f.nm = true
  fast : ∀ f ∈ l, f.fast ≤ f.b.length
  used : usedF l ≤ 4194304
  len : l.length ≤ 512
theorem OkD.okF {S : DS} (h : OkD S) : OkF S.fs := ⟨h.up, h.names, h.fast, h.used, h.len⟩
theorem OkF.okD {S : DS} (h : OkF S.fs) (q0 : 0 ≤ S.q) (q1 : S.q ≤ 4194304) (f0 : -1 ≤ S.fz) (f1 : S.fz < 9223372036854775808) : OkD S := ⟨h.up, h.names, h.fast, h.used, h.len, q0, q1, f0, f1⟩
theorem burn_ok {S : DS} (h : OkD S) : OkD (burnS S) := by
  have f0 := h.f0
  have f1 := h.f1
  unfold burnS
  split
  · exact OkF.okD (S := { S with off := true, fz := -1 }) h.okF h.q0 h.q1 (by show (-1 : Int) ≤ -1; omega) (by show (-1 : Int) < 9223372036854775808; omega)
  · split
    · exact OkF.okD (S := { S with fz := S.fz - 1 }) h.okF h.q0 h.q1 (by show -1 ≤ S.fz - 1; omega) (by show S.fz - 1 < 9223372036854775808; omega)
    · exact h
theorem burn_q (S : DS) : (burnS S).q = S.q ∧ (burnS S).fs = S.fs := by unfold burnS; split <;> (try split) <;> exact ⟨rfl, rfl⟩
theorem askd_ok {S : DS} {l : List Int} {act : List Fl → List Fl} (h : OkD S) (ha : firstE l = 0 → OkF (act S.fs)) : OkD (askdS S l act) := by
  unfold askdS
  split
  · rename_i h0
    split
    · have hb := burn_ok h
      exact OkF.okD (S := { burnS S with fs := act S.fs }) (ha h0) hb.q0 hb.q1 hb.f0 hb.f1
    · exact burn_ok h
  · exact h
theorem usedF_cons (f : Fl) (l : List Fl) : usedF (f :: l) = f.b.length + usedF l := by unfold usedF; rw [List.map_cons, List.sum_cons]
theorem usedF_perm {l m : List Fl} (h : l.Perm m) : usedF l = usedF m := by unfold usedF; exact (h.map _).sum_nat
theorem usedF_sub {l m : List Fl} (h : l.Sublist m) : usedF l ≤ usedF m := by
  induction h with
  | slnil => exact Nat.le_refl _
  | cons a h ih => rw [usedF_cons]; omega
  | cons_cons a h ih => rw [usedF_cons, usedF_cons]; omega
theorem ndel_sub (l : List Fl) (n : List UInt8) : (ndel Fl.nm l n).Sublist l := List.filter_sublist
theorem OkF.sub {l m : List Fl} (h : OkF m) (hs : l.Sublist m) : OkF l :=
  ⟨List.Pairwise.sublist hs h.up, fun f hf => h.names f (hs.subset hf), fun f hf => h.fast f (hs.subset hf), Nat.le_trans (usedF_sub hs) h.used, Nat.le_trans hs.length_le h.len⟩
theorem nput_permF (l : List Fl) (f : Fl) : (nput Fl.nm l f).Perm (f :: ndel Fl.nm l f.nm) := nins_perm f _
/-- A file is replaced by another one of its name. -/
theorem used_split {l : List Fl} (hu : UpK Fl.nm l) {f : Fl} (hf : f ∈ l) : usedF l = f.b.length + usedF (ndel Fl.nm l f.nm) ∧ l.length = (ndel Fl.nm l f.nm).length + 1 := by
  induction l with
  | nil => cases hf
  | cons x l ih =>
    have h1 := List.pairwise_cons.1 hu
    by_cases e : x.nm = f.nm
    · have hx : x = f := UpK.inj hu (by simp) hf e
      subst hx
      have hd : ndel Fl.nm (x :: l) x.nm = l := by
        unfold ndel
        rw [List.filter_cons_of_neg (by simp), List.filter_eq_self.2 fun y hy => ?_]
        have := h1.1 y hy
        have hne : y.nm ≠ x.nm := fun e => by rw [e, wo_bytes.refl] at this; omega
        simp [hne]
      rw [hd, usedF_cons]
      exact ⟨rfl, by simp⟩
    · have hfl : f ∈ l := by
        rcases List.mem_cons.1 hf with h | h
        · exact absurd (by rw [h]) e
        · exact h
      obtain ⟨a, b⟩ := ih h1.2 hfl
      have hd : ndel Fl.nm (x :: l) f.nm = x :: ndel Fl.nm l f.nm := by unfold ndel; rw [List.filter_cons_of_pos (by simp [e])]
      rw [hd, usedF_cons, usedF_cons, a, List.length_cons, List.length_cons]
      omega
theorem OkF.set {l : List Fl} (h : OkF l) {f f' : Fl} (hf : f ∈ l) (hn : f'.nm = f.nm) (hfa : f'.fast ≤ f'.b.length) (hu : usedF l - f.b.length + f'.b.length ≤ 4194304) : OkF (nset Fl.nm l f') := by
  obtain ⟨a, b⟩ := used_split h.up hf
  have hp : (nset Fl.nm l f').Perm (f' :: ndel Fl.nm l f'.nm) := by
    rw [← nput_same h.up ⟨f, hf, hn.symm⟩]
    exact nput_permF l f'
  refine ⟨nset_up h.up, fun x hx => ?_, fun x hx => ?_, ?_, ?_⟩
  · unfold nset at hx
    obtain ⟨y, hy, rfl⟩ := List.mem_map.1 hx
    split
    · rw [hn]; exact h.names f hf
    · exact h.names y hy
  · unfold nset at hx
    obtain ⟨y, hy, rfl⟩ := List.mem_map.1 hx
    split
    · exact hfa
    · exact h.fast y hy
  · rw [usedF_perm hp, usedF_cons, hn]; omega
  · rw [hp.length_eq, List.length_cons, hn]; have := h.len; omega
theorem mem_of_get {l : List Fl} {n : List UInt8} {f : Fl} (h : fgetF l n = some f) : f ∈ l ∧ f.nm = n := nget_some h
theorem okF_create {l : List Fl} {n : List UInt8} (h : OkF l) (hm : mayN n = true) (hl : l.length < 512) : OkF (createA n l) := by
  have hp := nput_permF l ⟨n, [], 0⟩
  unfold createA
  refine ⟨nput_up h.up, fun x hx => ?_, fun x hx => ?_, ?_, ?_⟩
  · rcases nput_mem.1 hx with rfl | ⟨hx, _⟩
    · exact hm
    · exact h.names x hx
  · rcases nput_mem.1 hx with rfl | ⟨hx, _⟩
    · exact Nat.le_refl _
    · exact h.fast x hx
  · rw [usedF_perm hp, usedF_cons]
    have := usedF_sub (ndel_sub l n)
    have h2 := h.used
    show 0 + usedF (ndel Fl.nm l n) ≤ _
    omega
  · rw [hp.length_eq, List.length_cons]
    have := (ndel_sub l n).length_le
    show (ndel Fl.nm l n).length + 1 ≤ _
    omega
theorem okF_rename {l : List Fl} {o n : List UInt8} (h : OkF l) (hm : mayN n = true) : OkF (renameA o n l) := by
  unfold renameA
  split
  · exact h
  · rename_i hne
    cases hg : fgetF l o with
    | none => exact h
    | some f =>
      obtain ⟨hf, hfn⟩ := mem_of_get hg
      have hp := nput_permF l { f with nm := n }
      have hp2 : (ndel Fl.nm (nput Fl.nm l { f with nm := n }) o).Perm ({ f with nm := n } :: ndel Fl.nm (ndel Fl.nm l n) o) := by
        unfold ndel at hp ⊢
        refine (hp.filter _).trans ?_
        rw [List.filter_cons_of_pos (by simp; exact fun e => hne e.symm)]
      have hsub : (ndel Fl.nm (ndel Fl.nm l n) o).Sublist (ndel Fl.nm l o) := by
        exact List.Sublist.filter _ (ndel_sub l n)
      obtain ⟨a, b⟩ := used_split h.up hf
      rw [hfn] at a b
      refine ⟨ndel_up (nput_up h.up), fun x hx => ?_, fun x hx => ?_, ?_, ?_⟩
      · rcases nput_mem.1 (ndel_mem.1 hx).1 with rfl | ⟨hx, _⟩
        · exact hm
        · exact h.names x hx
      · rcases nput_mem.1 (ndel_mem.1 hx).1 with rfl | ⟨hx, _⟩
        · exact h.fast f hf
        · exact h.fast x hx
      · rw [usedF_perm hp2, usedF_cons]
        have := usedF_sub hsub
        have h2 := h.used
        show f.b.length + usedF (ndel Fl.nm (ndel Fl.nm l n) o) ≤ _
        omega
      · rw [hp2.length_eq, List.length_cons]
        have := hsub.length_le
        have h2 := h.len
        omega
theorem crashF_len (f : Fl) (p : Option Nat) (t : Option UInt8) (hf : f.fast ≤ f.b.length) : (crashF f p t).b.length = f.fast + stayN f p ∧ f.fast + stayN f p ≤ f.b.length := by
  have hs : stayN f p ≤ f.b.length - f.fast := by
    unfold stayN
    split
    · exact Nat.zero_le _
    · exact Nat.lt_succ_iff.1 (Nat.mod_lt _ (Nat.succ_pos _))
  have hl : (f.b.take (f.fast + stayN f p)).length = f.fast + stayN f p := by rw [List.length_take]; omega
  refine ⟨?_, by omega⟩
  show (tornB _ _ _).length = _
  rw [tornB_len (fun h0 => by rw [hl]; omega), hl]
theorem crashL_ok (ps : List Nat) (ts : List UInt8) : ∀ (l : List Fl) (k : Nat), (∀ f ∈ l, mayN f.nm = true) → (∀ f ∈ l, f.fast ≤ f.b.length) →
    (∀ f ∈ crashL ps ts k l, mayN f.nm = true ∧ f.fast = f.b.length) ∧ usedF (crashL ps ts k l) ≤ usedF l ∧ (crashL ps ts k l).length = l.length
  | [], _, _, _ => ⟨fun _ h => (by cases h), Nat.le_refl _, rfl⟩
  | f :: l, k, hn, hf => by
    have h1 := hn f (by simp)
    have h2 := hf f (by simp)
    rw [crashL]
    split
    · rename_i e
      obtain ⟨a, b, c⟩ := crashL_ok ps ts l k (fun x hx => hn x (by simp [hx])) (fun x hx => hf x (by simp [hx]))
      refine ⟨fun x hx => ?_, by rw [usedF_cons, usedF_cons]; omega, by rw [List.length_cons, List.length_cons, c]⟩
      rcases List.mem_cons.1 hx with rfl | hx
      · exact ⟨h1, e.symm⟩
      · exact a x hx
    · obtain ⟨a, b, c⟩ := crashL_ok ps ts l (k + 1) (fun x hx => hn x (by simp [hx])) (fun x hx => hf x (by simp [hx]))
      obtain ⟨d, e⟩ := crashF_len f ps[k]? ts[k]? h2
      refine ⟨fun x hx => ?_, by rw [usedF_cons, usedF_cons, d]; omega, by rw [List.length_cons, List.length_cons, c]⟩
      rcases List.mem_cons.1 hx with rfl | hx
      · exact ⟨h1, rfl⟩
      · exact a x hx
theorem okF_crash {l : List Fl} (ps : List Nat) (ts : List UInt8) (h : OkF l) : OkF (crashL ps ts 0 l) := by
  obtain ⟨a, b, c⟩ := crashL_ok ps ts l 0 h.names h.fast
  exact ⟨upK_keys h.up (crashL_keys ps ts l 0), fun f hf => (a f hf).1, fun f hf => Nat.le_of_eq (a f hf).2, Nat.le_trans b h.used, by rw [c]; exact h.len⟩
theorem not_off {S : DS} {l : List Int} (h : firstE l = 0) (hm : offE S ∈ l) : S.off = false := offE_zero (firstE_zero h _ hm)
theorem there_may {S : DS} {n : List UInt8} (h : thereE S n = 0) : mayN n = true := by
  unfold thereE at h
  split at h
  · assumption
  · cases h
/-- What a disk may be, it may be behind any call. -/
theorem okD_do {S : DS} (h : OkD S) (a : AD) (hn : a.n < 9223372036854775808) : OkD (doS S a) := by
  have hF := h.okF
  unfold doS
  split
  · refine askd_ok h fun h0 => ?_
    have hz := firstE_zero h0
    have h1 := errB_zero (by decide) (hz _ (by simp [createL] : errB (!mayN a.nm) 1 ∈ _))
    have h2 := errB_zero (by decide) (hz _ (by simp [createL] : errB (decide (512 ≤ S.fs.length)) 7 ∈ _))
    have h2 := of_decide_eq_false h2
    exact okF_create hF (by simpa using h1) (by omega)
  split
  · refine askd_ok h fun h0 => ?_
    have h1 := errB_zero (by decide) (firstE_zero h0 _ (by simp [appendL] : errB (decide (S.q - usedF S.fs < (a.b.length : Int))) 7 ∈ _))
    have h1 := of_decide_eq_false h1
    unfold appendA
    cases hg : fgetF S.fs a.nm with
    | none => exact hF
    | some f =>
      obtain ⟨hf, _⟩ := mem_of_get hg
      have := mem_used hf
      have h2 := h.q1
      have h3 := hF.fast f hf
      exact hF.set hf rfl (by show f.fast ≤ (f.b ++ a.b).length; rw [List.length_append]; omega) (by show _ - _ + (f.b ++ a.b).length ≤ _; rw [List.length_append]; omega)
  split
  · refine askd_ok h fun h0 => ?_
    unfold syncA
    cases hg : fgetF S.fs a.nm with
    | none => exact hF
    | some f =>
      obtain ⟨hf, _⟩ := mem_of_get hg
      have := mem_used hf
      have h2 := hF.used
      exact hF.set hf rfl (Nat.le_refl _) (by show _ - _ + f.b.length ≤ _; omega)
  split
  · refine askd_ok h fun h0 => ?_
    have h1 := errB_zero (by decide) (firstE_zero h0 _ (by simp [renameL] : errB (!mayN a.ot) 1 ∈ _))
    exact okF_rename hF (by simpa using h1)
  split
  · refine askd_ok h fun h0 => ?_
    unfold truncA
    cases hg : fgetF S.fs a.nm with
    | none => exact hF
    | some f =>
      obtain ⟨hf, _⟩ := mem_of_get hg
      have := mem_used hf
      have h2 := hF.used
      have h3 := hF.fast f hf
      exact hF.set hf rfl (by show min f.fast a.n.toNat ≤ (f.b.take a.n.toNat).length; rw [List.length_take]; omega) (by show _ - _ + (f.b.take a.n.toNat).length ≤ _; rw [List.length_take]; omega)
  split
  · exact askd_ok h fun _ => hF.sub (ndel_sub _ _)
  split
  · unfold quotaS
    split
    · exact h
    · exact OkF.okD (S := { S with q := a.n }) hF (by show 0 ≤ a.n; omega) (by show a.n ≤ 4194304; omega) h.f0 h.f1
  split
  · unfold fuseS
    split
    · rename_i h0
      have h1 := errB_zero (by decide) (firstE_zero h0 _ (by simp [fuseL] : errB (decide (a.n < -1)) 1 ∈ _))
      have h1 := of_decide_eq_false h1
      exact OkF.okD (S := { S with fz := a.n }) hF h.q0 h.q1 (by show -1 ≤ a.n; omega) hn
    · exact h
  split
  · exact OkF.okD (S := crashS a.ps a.b S) (okF_crash a.ps a.b hF) h.q0 h.q1 (by show (-1 : Int) ≤ -1; omega) (by show (-1 : Int) < 9223372036854775808; omega)
  · exact h
end Go.Proofs.YtdfnfmanpdafpaaDoor
