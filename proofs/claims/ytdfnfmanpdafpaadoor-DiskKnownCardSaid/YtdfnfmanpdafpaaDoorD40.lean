/- Disk: what the closing calls of DiskKnown answer, plainly. -/
import Derived.Test.YtdfnfmanpdafpaaDoorD39
namespace Go.Proofs.YtdfnfmanpdafpaaDoor
open Go.RowKit

def moreN : List UInt8 := [109, 111, 114, 101]
theorem nmK_more (j : Nat) : nmK j ≠ moreN := by
  unfold nmK moreN
  intro h
  simp at h
theorem Full.noMore {k : Nat} {S : DS} (h : Full k S) : fgetF S.fs moreN = none := by
  cases hf : fgetF S.fs moreN with
  | none => rfl
  | some f =>
    obtain ⟨hm, hn⟩ := mem_of_get hf
    obtain ⟨j, hj, rfl⟩ := h.mem f hm
    exact absurd hn (nmK_more j)
theorem Full.c4 {S : DS} (h : Full 512 S) : askdE S (createL S moreN) = 7 ∧ askdS S (createL S moreN) (createA moreN) = S := by
  have e : firstE (createL S moreN) = 7 := by
    unfold createL offE errB
    rw [h.off, h.noMore, h.len]
    rfl
  exact ⟨by unfold askdE; rw [if_neg (by rw [e]; decide), e], by unfold askdS; rw [if_neg (by rw [e]; decide)]⟩
def faaN : List UInt8 := [102, 97, 97]
def fbaN : List UInt8 := [102, 98, 97]
theorem faa_eq : nmK 0 = faaN := by decide
theorem fba_eq : nmK 1 = fbaN := by decide
/-- What stands behind the renaming: a disk of empty files, none of the first name. -/
structure Hd (m : Bool) (q fz : Int) (off : Bool) (S : DS) : Prop where
  ok : OkD S
  off : S.off = off
  fz : S.fz = fz
  q : S.q = q
  empty : ∀ f ∈ S.fs, f.b = []
  noA : fgetF S.fs faaN = none
  more : (fgetF S.fs moreN).isSome = m
theorem calm_b {S : DS} (hz : S.fz = -1) : burnE S = 0 ∧ burnS S = S := by
  constructor
  · unfold burnE; rw [hz]; rfl
  · unfold burnS; rw [hz]; rfl
theorem askd_go {S : DS} {l : List Int} {act : List Fl → List Fl} (h0 : firstE l = 0) (hz : S.fz = -1) : askdE S l = 0 ∧ askdS S l act = { S with fs := act S.fs } := by
  obtain ⟨h1, h2⟩ := calm_b hz
  exact ⟨by unfold askdE; rw [if_pos h0, h1], by unfold askdS; rw [if_pos h0, if_pos h1, h2]⟩
theorem askd_noB {S : DS} {l : List Int} {act : List Fl → List Fl} {c : Int} (h0 : firstE l = c) (hc : c ≠ 0) : askdE S l = c ∧ askdS S l act = S :=
  ⟨by unfold askdE; rw [if_neg (by rw [h0]; exact hc), h0], by unfold askdS; rw [if_neg (by rw [h0]; exact hc)]⟩
theorem usedF_none {l : List Fl} (h : ∀ f ∈ l, f.b = []) : usedF l = 0 := by
  induction l with
  | nil => rfl
  | cons f l ih => rw [usedF_cons, h f (by simp), ih fun g hg => h g (by simp [hg])]; rfl
theorem get_isSome {l : List Fl} {n : List UInt8} : (fgetF l n).isSome = true ↔ ∃ f ∈ l, f.nm = n := by
  constructor
  · intro h
    obtain ⟨f, hf⟩ := Option.isSome_iff_exists.1 h
    exact ⟨f, mem_of_get hf⟩
  · rintro ⟨f, hf, e⟩
    cases hg : fgetF l n with
    | none => exact absurd e (nget_none hg f hf)
    | some g => rfl
theorem get_isNone {l : List Fl} {n : List UInt8} (h : ∀ f ∈ l, f.nm ≠ n) : fgetF l n = none := by
  cases hg : fgetF l n with
  | none => rfl
  | some g => exact absurd (mem_of_get hg).2 (h g (mem_of_get hg).1)
theorem faa_may : mayN faaN = true := by decide
theorem fba_may : mayN fbaN = true := by decide
theorem more_may : mayN moreN = true := by decide
theorem Full.ren {S : DS} (h : Full 512 S) : ∃ S', askdE S (renameL S faaN fbaN) = 0 ∧ askdS S (renameL S faaN fbaN) (renameA faaN fbaN) = S' ∧ Hd false 4194304 (-1) false S' ∧ S'.fs.length < 512 := by
  obtain ⟨ff, hff⟩ : ∃ ff : Fl, ff = ⟨faaN, [], 0⟩ := ⟨_, rfl⟩
  have hm : ff ∈ S.fs := by rw [hff, ← faa_eq]; exact h.has 0 (by omega)
  have hg : fgetF S.fs faaN = some ff := by
    have := nget_of h.ok.up hm
    rw [hff] at this ⊢
    exact this
  have hth : thereE S faaN = 0 := by unfold thereE; rw [faa_may, hg]; rfl
  have h0 : firstE (renameL S faaN fbaN) = 0 := by
    unfold renameL
    rw [hth, fba_may]
    unfold offE errB
    rw [h.off]
    rfl
  obtain ⟨e1, e2⟩ := askd_go (act := renameA faaN fbaN) h0 h.fz
  have ok : OkD (askdS S (renameL S faaN fbaN) (renameA faaN fbaN)) := okD_do h.ok ⟨3, faaN, fbaN, [], 0, []⟩ (by show (0 : Int) < 9223372036854775808; omega)
  have ha : renameA faaN fbaN S.fs = ndel Fl.nm (nput Fl.nm S.fs ⟨fbaN, [], 0⟩) faaN := by
    unfold renameA
    rw [if_neg (by decide), hg]
    subst hff
    rfl
  refine ⟨_, e1, rfl, ?_, ?_⟩
  · refine ⟨ok, ?_, ?_, ?_, ?_, ?_, ?_⟩
    · rw [e2]; exact h.off
    · rw [e2]; exact h.fz
    · rw [e2]; exact h.q
    · rw [e2]
      intro f hf
      have hf : f ∈ renameA faaN fbaN S.fs := hf
      rw [ha] at hf
      rcases nput_mem.1 (ndel_mem.1 hf).1 with rfl | ⟨hf, _⟩
      · rfl
      · obtain ⟨j, _, rfl⟩ := h.mem f hf; rfl
    · rw [e2]
      show fgetF (renameA faaN fbaN S.fs) faaN = none
      rw [ha]
      exact get_isNone fun f hf => (ndel_mem.1 hf).2
    · rw [e2]
      show (fgetF (renameA faaN fbaN S.fs) moreN).isSome = false
      rw [ha, get_isNone]
      · rfl
      · intro f hf
        rcases nput_mem.1 (ndel_mem.1 hf).1 with rfl | ⟨hf, _⟩
        · decide
        · obtain ⟨j, _, rfl⟩ := h.mem f hf; exact nmK_more j
  · rw [e2]
    show (renameA faaN fbaN S.fs).length < 512
    rw [ha]
    have hp := nput_permF S.fs ⟨fbaN, [], 0⟩
    have hb : (⟨fbaN, [], 0⟩ : Fl) ∈ S.fs := by rw [← fba_eq]; exact h.has 1 (by omega)
    obtain ⟨_, a2⟩ := used_split h.ok.up hb
    have hl := hp.length_eq
    rw [List.length_cons] at hl
    have hm2 : ff ∈ nput Fl.nm S.fs ⟨fbaN, [], 0⟩ := by
      refine nput_mem.2 (.inr ⟨hm, ?_⟩)
      rw [hff]
      show faaN ≠ fbaN
      decide
    obtain ⟨_, a3⟩ := used_split (nput_up h.ok.up) hm2
    have a3 : (nput Fl.nm S.fs ⟨fbaN, [], 0⟩).length = (ndel Fl.nm (nput Fl.nm S.fs ⟨fbaN, [], 0⟩) faaN).length + 1 := by rw [hff] at a3; exact a3
    have := h.len
    have a2 : S.fs.length = (ndel Fl.nm S.fs fbaN).length + 1 := a2
    have hl : (nput Fl.nm S.fs ⟨fbaN, [], 0⟩).length = (ndel Fl.nm S.fs fbaN).length + 1 := hl
    omega
theorem Hd.make {S : DS} (h : Hd false 4194304 (-1) false S) (hl : S.fs.length < 512) : ∃ S', askdE S (createL S moreN) = 0 ∧ askdS S (createL S moreN) (createA moreN) = S' ∧ Hd true 4194304 (-1) false S' := by
  have h0 : firstE (createL S moreN) = 0 := by
    unfold createL offE
    rw [h.off, h.more, more_may, decide_eq_false (by omega : ¬ 512 ≤ S.fs.length)]
    rfl
  obtain ⟨e1, e2⟩ := askd_go (act := createA moreN) h0 h.fz
  have ok : OkD (askdS S (createL S moreN) (createA moreN)) := okD_do h.ok ⟨0, moreN, [], [], 0, []⟩ (by show (0 : Int) < 9223372036854775808; omega)
  refine ⟨_, e1, rfl, ⟨ok, by rw [e2]; exact h.off, by rw [e2]; exact h.fz, by rw [e2]; exact h.q, ?_, ?_, ?_⟩⟩
  · rw [e2]
    intro f hf
    rcases nput_mem.1 hf with rfl | ⟨hf, _⟩
    · rfl
    · exact h.empty f hf
  · rw [e2]
    refine get_isNone fun f hf => ?_
    rcases nput_mem.1 hf with rfl | ⟨hf, _⟩
    · show moreN ≠ faaN; decide
    · exact nget_none h.noA f hf
  · rw [e2]
    exact get_isSome.2 ⟨⟨moreN, [], 0⟩, nput_mem.2 (.inl rfl), rfl⟩
theorem Hd.there {S : DS} {q fz : Int} {off : Bool} (h : Hd true q fz off S) : thereE S moreN = 0 := by
  unfold thereE; rw [more_may, h.more]; rfl
theorem Hd.again {S : DS} (h : Hd true 4194304 (-1) false S) : askdE S (createL S moreN) = 9 ∧ askdS S (createL S moreN) (createA moreN) = S := by
  refine askd_noB ?_ (by decide)
  unfold createL offE
  rw [h.off, h.more, more_may]
  rfl
theorem Hd.cut1 {S : DS} (h : Hd true 4194304 (-1) false S) : askdE S (truncL S moreN 1) = 1 ∧ askdS S (truncL S moreN 1) (truncA moreN 1) = S := by
  refine askd_noB ?_ (by decide)
  have hl : lenF S moreN = 0 := by
    unfold lenF
    cases hg : fgetF S.fs moreN with
    | none => rfl
    | some f => show f.b.length = 0; rw [h.empty f (mem_of_get hg).1]; rfl
  unfold truncL offE
  rw [h.off, h.there, hl]
  rfl
theorem Hd.cutN {S : DS} (h : Hd true 4194304 (-1) false S) : askdE S (truncL S moreN (-1)) = 1 ∧ askdS S (truncL S moreN (-1)) (truncA moreN (-1)) = S := by
  refine askd_noB ?_ (by decide)
  unfold truncL offE
  rw [h.off]
  rfl
theorem Hd.gone {S : DS} (h : Hd true 4194304 (-1) false S) : askdE S (syncL S faaN) = 6 ∧ askdS S (syncL S faaN) (removeA faaN) = S := by
  refine askd_noB ?_ (by decide)
  unfold syncL offE thereE
  rw [h.off, faa_may, h.noA]
  rfl
theorem Hd.quota0 {S : DS} (h : Hd true 4194304 (-1) false S) : ∃ S', quotaE 0 = 0 ∧ quotaS S 0 = S' ∧ Hd true 0 (-1) false S' := by
  have ok : OkD (quotaS S 0) := okD_do h.ok ⟨6, [], [], [], 0, []⟩ (by show (0 : Int) < 9223372036854775808; omega)
  have e : quotaS S 0 = { S with q := 0 } := rfl
  refine ⟨_, rfl, rfl, ok, ?_, ?_, ?_, ?_, ?_, ?_⟩
  · exact h.off
  · exact h.fz
  · rfl
  · exact h.empty
  · exact h.noA
  · exact h.more
theorem nset_mem {l : List Fl} {f x : Fl} (h : x ∈ nset Fl.nm l f) : (x ∈ l) ∨ x = f := by
  unfold nset at h
  obtain ⟨y, hy, rfl⟩ := List.mem_map.1 h
  split
  · exact .inr rfl
  · exact .inl hy
theorem Hd.app0 {S : DS} (h : Hd true 0 (-1) false S) : ∃ S', askdE S (appendL S moreN 0) = 0 ∧ askdS S (appendL S moreN 0) (appendA moreN []) = S' ∧ Hd true 0 (-1) false S' := by
  have h0 : firstE (appendL S moreN 0) = 0 := by
    unfold appendL offE
    rw [h.off, h.there, h.q, usedF_none h.empty]
    rfl
  obtain ⟨e1, e2⟩ := askd_go (act := appendA moreN []) h0 h.fz
  have ok : OkD (askdS S (appendL S moreN 0) (appendA moreN [])) := okD_do h.ok ⟨1, moreN, [], [], 0, []⟩ (by show (0 : Int) < 9223372036854775808; omega)
  obtain ⟨f, hf⟩ := Option.isSome_iff_exists.1 h.more
  have ha : appendA moreN [] S.fs = nset Fl.nm S.fs { f with b := f.b ++ [] } := by unfold appendA; rw [hf]
  obtain ⟨hfm, hfn⟩ := mem_of_get hf
  have hk : (appendA moreN [] S.fs).map Fl.nm = S.fs.map Fl.nm := by rw [ha]; exact nset_keys
  refine ⟨_, e1, rfl, ⟨ok, by rw [e2]; exact h.off, by rw [e2]; exact h.fz, by rw [e2]; exact h.q, ?_, ?_, ?_⟩⟩
  · rw [e2]
    intro x hx
    have hx : x ∈ appendA moreN [] S.fs := hx
    rw [ha] at hx
    rcases nset_mem hx with hx | rfl
    · exact h.empty x hx
    · show f.b ++ [] = []
      rw [h.empty f hfm]; rfl
  · rw [e2]
    refine get_isNone fun x hx e => ?_
    have hx : x.nm ∈ (appendA moreN [] S.fs).map Fl.nm := List.mem_map_of_mem hx
    rw [hk] at hx
    obtain ⟨y, hy, hxy⟩ := List.mem_map.1 hx
    exact nget_none h.noA y hy (by rw [hxy, e])
  · rw [e2]
    have hx : f.nm ∈ (appendA moreN [] S.fs).map Fl.nm := by rw [hk]; exact List.mem_map_of_mem hfm
    obtain ⟨y, hy, hxy⟩ := List.mem_map.1 hx
    exact get_isSome.2 ⟨y, hy, by rw [hxy, hfn]⟩
theorem Hd.app1 {S : DS} (h : Hd true 0 (-1) false S) : askdE S (appendL S moreN 1) = 7 ∧ askdS S (appendL S moreN 1) (appendA moreN [1]) = S := by
  refine askd_noB ?_ (by decide)
  unfold appendL offE
  rw [h.off, h.there, h.q, usedF_none h.empty]
  rfl
theorem Hd.quotaN (S : DS) : quotaE (-1) = 1 ∧ quotaS S (-1) = S := ⟨rfl, rfl⟩
theorem Hd.fuseN {S : DS} (h : Hd true 0 (-1) false S) : firstE (fuseL S (-2)) = 1 ∧ fuseS S (-2) = S := by
  have h0 : firstE (fuseL S (-2)) = 1 := by unfold fuseL offE; rw [h.off]; rfl
  exact ⟨h0, by unfold fuseS; rw [if_neg (by rw [h0]; decide)]⟩
theorem Hd.fuse0 {S : DS} (h : Hd true 0 (-1) false S) : ∃ S', firstE (fuseL S 0) = 0 ∧ fuseS S 0 = S' ∧ Hd true 0 0 false S' := by
  have h0 : firstE (fuseL S 0) = 0 := by unfold fuseL offE; rw [h.off]; rfl
  have ok : OkD (fuseS S 0) := okD_do h.ok ⟨7, [], [], [], 0, []⟩ (by show (0 : Int) < 9223372036854775808; omega)
  have e : fuseS S 0 = { S with fz := 0 } := by unfold fuseS; rw [if_pos h0]
  exact ⟨_, h0, rfl, ⟨ok, by rw [e]; exact h.off, by rw [e], by rw [e]; exact h.q, by rw [e]; exact h.empty, by rw [e]; exact h.noA, by rw [e]; exact h.more⟩⟩
theorem Hd.burn {S : DS} (h : Hd true 0 0 false S) : ∃ S', askdE S (syncL S moreN) = 8 ∧ askdS S (syncL S moreN) (syncA moreN) = S' ∧ Hd true 0 (-1) true S' := by
  have h0 : firstE (syncL S moreN) = 0 := by unfold syncL offE; rw [h.off, h.there]; rfl
  have hb : burnE S = 8 := by unfold burnE; rw [h.fz]; rfl
  have hs : burnS S = { S with off := true, fz := -1 } := by unfold burnS; rw [if_pos h.fz]
  have ok : OkD (askdS S (syncL S moreN) (syncA moreN)) := okD_do h.ok ⟨2, moreN, [], [], 0, []⟩ (by show (0 : Int) < 9223372036854775808; omega)
  have e : askdS S (syncL S moreN) (syncA moreN) = { S with off := true, fz := -1 } := by unfold askdS; rw [if_pos h0, if_neg (by rw [hb]; decide), hs]
  exact ⟨_, by unfold askdE; rw [if_pos h0, hb], rfl, ⟨ok, by rw [e], by rw [e], by rw [e]; exact h.q, by rw [e]; exact h.empty, by rw [e]; exact h.noA, by rw [e]; exact h.more⟩⟩
theorem Hd.fuse1 {S : DS} (h : Hd true 0 (-1) true S) : firstE (fuseL S 1) = 8 ∧ fuseS S 1 = S := by
  have h0 : firstE (fuseL S 1) = 8 := by unfold fuseL offE; rw [h.off]; rfl
  exact ⟨h0, by unfold fuseS; rw [if_neg (by rw [h0]; decide)]⟩
theorem Hd.size8 {S : DS} (h : Hd true 0 (-1) true S) : firstE (syncL S moreN) = 8 ∧ (readS S moreN).length = 0 := by
  have h0 : firstE (syncL S moreN) = 8 := by unfold syncL offE; rw [h.off]; rfl
  exact ⟨h0, by unfold readS; rw [if_neg (by rw [h0]; decide)]; rfl⟩
theorem Hd.quota5 (S : DS) : quotaE 5 = 0 ∧ quotaS S 5 = { S with q := 5 } := ⟨rfl, rfl⟩
end Go.Proofs.YtdfnfmanpdafpaaDoor
