/- Disk: what is read of a disk, before and after a crash, plainly. -/
import Derived.Test.YtdfnfmanpdafpaaDoorD29
namespace Go.Proofs.YtdfnfmanpdafpaaDoor
open Go.RowKit

theorem crashL_names (ps : List Nat) (ts : List UInt8) : ∀ (l : List Fl) (k : Nat), (crashL ps ts k l).map Fl.nm = l.map Fl.nm
  | [], _ => rfl
  | x :: l, k => by
    rw [crashL]
    split
    · rw [List.map_cons, List.map_cons, crashL_names ps ts l k]
    · rw [List.map_cons, List.map_cons, crashL_names ps ts l (k + 1)]; rfl
theorem crashL_len (ps : List Nat) (ts : List UInt8) (l : List Fl) (k : Nat) : (crashL ps ts k l).length = l.length := by
  have := congrArg List.length (crashL_names ps ts l k)
  rwa [List.length_map, List.length_map] at this
/-- What a crash kept is whole. -/
theorem crashL_whole (ps : List Nat) (ts : List UInt8) (l : List Fl) (hl : ∀ f ∈ l, f.fast ≤ f.b.length) : ∀ g ∈ crashL ps ts 0 l, g.fast = g.b.length := by
  intro g hg
  obtain ⟨i, hi⟩ := List.mem_iff_getElem?.1 hg
  have hlt : i < l.length := by
    have := (List.getElem?_eq_some_iff.1 hi).1
    rwa [crashL_len] at this
  obtain ⟨g', hg', h⟩ := crashL_left ps ts l 0 hl i l[i] (List.getElem?_eq_getElem hlt)
  rw [hi] at hg'
  cases hg'
  exact h.whole
/-- A second crash turns nothing. -/
theorem crash_twice {S : DS} (ok : OkD S) (ps qs : List Nat) (ts us : List UInt8) : crashS qs us (crashS ps ts S) = crashS ps ts S := by
  have := crashL_same qs us (crashL ps ts 0 S.fs) 0 (crashL_whole ps ts S.fs ok.fast)
  unfold crashS
  dsimp only
  rw [this]
/-- What one name reads as: before (b0, m0), and behind the crash (b1). -/
structure Told (S T : DS) (n : List UInt8) (b0 : List UInt8) (m0 : Nat) (b1 : List UInt8) : Prop where
  z0 : firstE (syncL S n) = 0
  r0 : readS S n = b0
  l0 : looseS S n = m0
  z1 : firstE (syncL T n) = 0
  r1 : readS T n = b1
  l1 : looseS T n = 0
  m : m0 ≤ b0.length
  ge : b0.length - m0 ≤ b1.length
  le : b1.length ≤ b0.length
  top : b0.length ≤ 4194304
  fast : b1.take (b0.length - m0) = b0.take (b0.length - m0)
  most : b0.length - m0 < b1.length → b1.take (b1.length - 1) = b0.take (b1.length - 1)
theorem told {S : DS} (ok : OkD S) (ho : S.off = false) (ps : List Nat) (ts : List UInt8) (ok1 : OkD (crashS ps ts S)) {i : Nat} {n : List UInt8} (hi : (namesS S)[i]? = some n) : ∃ b0 m0 b1, Told S (crashS ps ts S) n b0 m0 b1 := by
  unfold namesS at hi
  rw [ho] at hi
  have hi : (S.fs.map Fl.nm)[i]? = some n := hi
  rw [List.getElem?_map] at hi
  cases hf : S.fs[i]? with
  | none => rw [hf] at hi; cases hi
  | some f =>
    rw [hf] at hi
    obtain rfl : f.nm = n := by simpa using hi
    obtain ⟨g, hg, h⟩ := crashL_left ps ts S.fs 0 ok.fast i f hf
    have hfm : f ∈ S.fs := List.mem_of_getElem? hf
    obtain ⟨a1, a2, a3⟩ := files_at ok ho hfm
    have hgm : g ∈ (crashS ps ts S).fs := List.mem_of_getElem? hg
    obtain ⟨c1, c2, c3⟩ := files_at ok1 rfl hgm
    rw [h.nm] at c1 c2 c3
    have hfast := ok.fast f hfm
    have hs : f.b.length - (f.b.length - f.fast) = f.fast := by omega
    have hw := h.whole
    refine ⟨f.b, f.b.length - f.fast, g.b, a1, a2, a3, c1, c2, by rw [c3]; omega, by omega, by rw [hs]; exact h.ge, h.le, ?_, by rw [hs]; exact h.fast, by rw [hs]; exact h.most⟩
    have := (used_split ok.up hfm).1
    have := ok.used
    omega
theorem names_crash {S : DS} (ho : S.off = false) (ps : List Nat) (ts : List UInt8) : namesS (crashS ps ts S) = namesS S := by
  unfold namesS
  rw [ho]
  exact crashL_names ps ts S.fs 0
end Go.Proofs.YtdfnfmanpdafpaaDoor
