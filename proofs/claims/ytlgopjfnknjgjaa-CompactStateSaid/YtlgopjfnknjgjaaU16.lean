/- slices.Sort at uint64, up to 500 numbers. -/
import Derived.Test.YtlgopjfnknjgjaaU15
namespace Go.Proofs.Ytlgopjfnknjgjaa
open Go.RowKit

set_option maxRecDepth 100000 in
set_option maxHeartbeats 8000000 in
/-- slices.Sort over its inner function: the answer of bits.Len is at most a thousand. -/
theorem sort_over2 (w : World) (a : Option Addr) (n cap : Nat) (h0 : 0 < n) (hn : n < 512) (Q : World → Prop) (hp : ∀ (W : World) (m : Nat), Ext w W → m ≤ 1000 → Calls Try.prog 48 #[.slice a n cap, .int .i64 0, .int .i64 n, .int .i64 m] W fun e w' => e = .returned (.tuple #[]) ∧ Q w') :
    Calls Try.prog 35 #[.slice a n cap] w fun e w' => e = .returned (.tuple #[]) ∧ Q w' := by
  have HP := Lib.hid hp
  clear hp
  have HLE := Lib.hid (fun W => len_exact W n h0 hn)
  clear h0
  go_enter Try.func35, Try.ntmps35
  go_wp2_with ((with_reducible refine (HLE.out _).mono ?_); rintro e w2 ⟨m, rfl, h1, h2, hm, hx⟩; have HC := Lib.hid (HP.out w2 m hx (by omega)); clear hm hx h1 h2)
  refine HC.out.mono ?_
  rintro e w3 ⟨rfl, h⟩
  have H := Lib.hid h
  clear h
  go_wp2_with fail
  go_end0
  exact ⟨rfl, H.out⟩

theorem sort500 : SortU 500 := by
  intro w base v l ho hl hb
  obtain ⟨a, cap, rfl, hc, hm⟩ := own_shape ho
  have hx : (l = [] ∧ a = none ∧ cap = 0) ∨ ∃ g, a = some ⟨g, 0, none⟩ := by
    rcases ho.2 with ⟨e, e0⟩ | ⟨g, c, cur, e, _⟩
    · simp only [Value.slice.injEq] at e
      exact .inl ⟨List.length_eq_zero_iff.1 e.2.1, e.1, e.2.2⟩
    · simp only [Value.slice.injEq] at e
      exact .inr ⟨g, e.1⟩
  by_cases h12 : l.length ≤ 12
  · exact sort12 w base _ l ho h12 hb
  rcases hx with ⟨rfl, rfl, rfl⟩ | ⟨g, rfl⟩
  · exact absurd (Nat.zero_le _) h12
  · have hU : UO base g cap w l.toArray := by unfold UO; simpa using ho
    have hd : l.toArray.size = l.length := by simp
    refine (sort_over2 w _ l.length cap (by omega) (by omega) (fun w' => ∃ d' : Array Nat, Sort.PermIn 0 l.length l.toArray d' ∧ Sort.SortedIn ltN 0 l.length d' ∧ UO base g cap w' d' ∧ w.grownBy w' (some g)) (fun W m hx hm2 => ?_)).mono ?_
    · have := pdq_any base g cap l.length 0 l.length l.toArray m W (by omega) (Nat.zero_le _) (by rw [hd]; exact Nat.le_refl _) (by rw [hd]; omega) hm2 (.inl rfl) (hU.ext hx)
      rw [hd, show ((0 : Nat) : Int) = 0 from rfl] at this
      exact this.mono fun e w' ⟨h1, d', h2, h3, h4, h5⟩ => ⟨h1, d', h2, h3, h4, grown_trans (grown_of_ext hx) h5⟩
    · rintro e w' ⟨rfl, d', h1, h2, h3, h4⟩
      refine ⟨rfl, ?_, h4⟩
      rw [← hd] at h1 h2
      have e1 := sorted_row h1 h2
      have hsz := h1.1
      unfold UO at h3
      rw [e1, hsz, hd] at h3
      exact h3
end Go.Proofs.Ytlgopjfnknjgjaa
