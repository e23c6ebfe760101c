/- Disk: a disk with as many files as it may hold, plainly. -/
import Derived.Test.YtdfnfmanpdafpaaDoorD38
namespace Go.Proofs.YtdfnfmanpdafpaaDoor
open Go.RowKit

def nmK (j : Nat) : List UInt8 := [102, UInt8.ofNat (97 + j % 26), UInt8.ofNat (97 + j / 26)]
theorem u8_small {a : Nat} (h : a < 256) : (UInt8.ofNat a).toNat = a := by rw [UInt8.toNat_ofNat']; omega
theorem nmK_inj {i j : Nat} (hi : i < 512) (hj : j < 512) (h : nmK i = nmK j) : i = j := by
  unfold nmK at h
  simp only [List.cons.injEq, and_true, true_and] at h
  have h1 := congrArg UInt8.toNat h.1
  have h2 := congrArg UInt8.toNat h.2
  rw [u8_small (by omega), u8_small (by omega)] at h1 h2
  omega
theorem nmK_may {j : Nat} (hj : j < 512) : mayN (nmK j) = true := by
  have h1 : nmB (UInt8.ofNat (97 + j % 26)) = true := by
    unfold nmB
    rw [u8_small (by omega), decide_eq_true (by omega : 97 ≤ 97 + j % 26), decide_eq_true (by omega : 97 + j % 26 ≤ 122)]; rfl
  have h2 : nmB (UInt8.ofNat (97 + j / 26)) = true := by
    unfold nmB
    rw [u8_small (by omega), decide_eq_true (by omega : 97 ≤ 97 + j / 26), decide_eq_true (by omega : 97 + j / 26 ≤ 122)]; rfl
  show (decide (1 ≤ 3) && decide (3 ≤ 32) && (nmB 102 && (nmB _ && (nmB _ && true)))) = true
  rw [h1, h2]
  rfl
structure Full (k : Nat) (S : DS) : Prop where
  ok : OkD S
  off : S.off = false
  fz : S.fz = -1
  q : S.q = 4194304
  len : S.fs.length = k
  mem : ∀ f ∈ S.fs, ∃ j, j < k ∧ f = ⟨nmK j, [], 0⟩
  has : ∀ j, j < k → (⟨nmK j, [], 0⟩ : Fl) ∈ S.fs
theorem Full.fresh {k : Nat} {S : DS} (h : Full k S) (hk : k < 512) : fgetF S.fs (nmK k) = none := by
  cases hf : fgetF S.fs (nmK k) with
  | none => rfl
  | some f =>
    obtain ⟨hm, hn⟩ := mem_of_get hf
    obtain ⟨j, hj, rfl⟩ := h.mem f hm
    have := nmK_inj (by omega) hk hn
    omega
theorem Full.start : Full 0 ⟨[], 4194304, -1, false⟩ := ⟨new_okD _ (by omega) (by omega), rfl, rfl, rfl, rfl, fun f hf => (by cases hf), fun j hj => (by omega)⟩
theorem Full.step {k : Nat} {S : DS} (h : Full k S) (hk : k < 512) : askdE S (createL S (nmK k)) = 0 ∧ Full (k + 1) (askdS S (createL S (nmK k)) (createA (nmK k))) := by
  have h0 : firstE (createL S (nmK k)) = 0 := by
    refine firstE_le.2 fun e he => ?_
    simp only [createL, List.mem_cons, List.not_mem_nil, or_false] at he
    rcases he with rfl | rfl | rfl | rfl
    · unfold offE; rw [h.off]; rfl
    · rw [nmK_may hk]; rfl
    · rw [h.fresh hk]; rfl
    · unfold errB; rw [decide_eq_false (by rw [h.len]; omega)]; rfl
  have hb : burnE S = 0 := by unfold burnE; rw [h.fz]; rfl
  have hs : burnS S = S := by unfold burnS; rw [h.fz]; rfl
  refine ⟨by unfold askdE; rw [if_pos h0, hb], ?_⟩
  have ok := okD_do h.ok ⟨0, nmK k, [], [], 0, []⟩ (by show (0 : Int) < 9223372036854775808; omega)
  have e : askdS S (createL S (nmK k)) (createA (nmK k)) = { S with fs := createA (nmK k) S.fs } := by unfold askdS; rw [if_pos h0, if_pos hb, hs]
  have ok : OkD (askdS S (createL S (nmK k)) (createA (nmK k))) := ok
  rw [e] at ok ⊢
  have hd : ndel Fl.nm S.fs (nmK k) = S.fs := by
    unfold ndel
    refine List.filter_eq_self.2 fun x hx => ?_
    have := nget_none (h.fresh hk) x hx
    simpa using this
  refine ⟨ok, h.off, h.fz, h.q, ?_, fun f hf => ?_, fun j hj => ?_⟩
  · have := (nput_permF S.fs ⟨nmK k, [], 0⟩).length_eq
    rw [List.length_cons] at this
    show (nput Fl.nm S.fs ⟨nmK k, [], 0⟩).length = k + 1
    rw [this]
    show (ndel Fl.nm S.fs (nmK k)).length + 1 = k + 1
    rw [hd, h.len]
  · rcases nput_mem.1 hf with rfl | ⟨hf, _⟩
    · exact ⟨k, Nat.lt_succ_self k, rfl⟩
    · obtain ⟨j, hj, e⟩ := h.mem f hf
      exact ⟨j, by omega, e⟩
  · by_cases e : j = k
    · subst e; exact nput_mem.2 (.inl rfl)
    · exact nput_mem.2 (.inr ⟨h.has j (by omega), fun e2 => e (nmK_inj (by omega) hk e2)⟩)
end Go.Proofs.YtdfnfmanpdafpaaDoor
