/- slices.Sort at at most twelve numbers (35, 48): SortU 12. -/
import Derived.Test.YtlgopjfnknjgjaaU3
import Derived.Test.YtlgopjfnknjgjaaD9
import Derived.Sort.LotA
namespace Go.Proofs.Ytlgopjfnknjgjaa
open Go.RowKit

theorem swo_ltN : Sort.SWO ltN where
  irrefl x := by simp [ltN]
  trans x y z h1 h2 := by simp only [ltN, decide_eq_true_eq] at *; omega
  ntrans x y z h1 h2 := by simp only [ltN, decide_eq_false_iff_not] at *; omega
/-- A sorted permutation of a row is the plain one. -/
theorem sorted_row {d d' : Array Nat} (hp : Sort.PermIn 0 d.size d d') (hs : Sort.SortedIn ltN 0 d.size d') : d'.toList = sortN d.toList := by
  obtain ⟨h1, _, h3⟩ := hp
  have e1 : d'.extract 0 d.size = d' := by rw [← h1]; exact Array.extract_size
  rw [e1, Array.extract_size] at h3
  refine sorted_sortN h3 ?_
  rw [List.pairwise_iff_getElem]
  intro i j hi hj hij
  have hjs : j < d'.size := by simpa using hj
  have his : i < d'.size := by simpa using hi
  have := hs i j (Nat.zero_le _) hij (by omega)
  rw [getElem!_pos d' j hjs, getElem!_pos d' i his] at this
  simp only [ltN, decide_eq_false_iff_not] at this
  simp only [Array.getElem_toList]
  omega

set_option maxRecDepth 100000 in
set_option maxHeartbeats 8000000 in
theorem pdq_small (base g cap : Nat) (d : Array Nat) (lim : Nat) (w : World) (ho : UO base g cap w d) (hsz : d.size ≤ 12) :
    Calls Try.prog 48 #[.slice (some ⟨g, 0, none⟩) d.size cap, .int .i64 0, .int .i64 d.size, .int .i64 lim] w fun e w' => e = .returned (.tuple #[]) ∧ UOq base g cap w (Sort.insertionSort ltN d 0 d.size) w' := by
  have hc := insertion_any base g cap d 0 d.size w ho (Nat.zero_le _) (Nat.le_refl _) (by omega)
  rw [show ((0 : Nat) : Int) = 0 from rfl] at hc
  generalize hN : d.size = N at *
  have hI : decide ((N : Int) ≤ 12) = true := decide_eq_true (by omega)
  have HC := Lib.hid hc
  clear hc ho hN
  go_enter Try.func48, Try.ntmps48
  go_wp2_with fail
  refine wp_loop_rounds 1 ?_
  rw [rounds_succ]
  go_wp2_with ((with_reducible refine HC.out.mono ?_); rintro e w2 ⟨rfl, h1⟩; have H1 := Lib.hid h1; clear h1)
  ((try simp only [Exit.inBlock, Exit.then]); refine bodyPost_ret (results_none rfl _ _ _) rfl ?_)
  exact ⟨rfl, H1.out⟩

set_option maxRecDepth 100000 in
set_option maxHeartbeats 8000000 in
theorem insertion_nil (w : World) : Calls Try.prog 53 #[.slice none 0 0, .int .i64 0, .int .i64 0] w fun e w' => e = .returned (.tuple #[]) ∧ w = w' := by
  go_enter Try.func53, Try.ntmps53
  go_wp2_with fail
  refine wp_loop_rounds 1 ?_
  rw [rounds_succ]
  go_wp2_with fail
  go_end0
  exact ⟨rfl, rfl⟩
set_option maxRecDepth 100000 in
set_option maxHeartbeats 8000000 in
theorem pdq_nil (lim : Nat) (w : World) : Calls Try.prog 48 #[.slice none 0 0, .int .i64 0, .int .i64 0, .int .i64 lim] w fun e w' => e = .returned (.tuple #[]) ∧ w = w' := by
  go_enter Try.func48, Try.ntmps48
  go_wp2_with fail
  refine wp_loop_rounds 1 ?_
  rw [rounds_succ]
  go_wp2_with ((with_reducible refine (insertion_nil _).mono ?_); rintro e w2 ⟨rfl, rfl⟩)
  ((try simp only [Exit.inBlock, Exit.then]); refine bodyPost_ret (results_none rfl _ _ _) rfl ?_)
  exact ⟨rfl, rfl⟩
set_option maxRecDepth 100000 in
set_option maxHeartbeats 8000000 in
/-- slices.Sort over its inner function: the answer of bits.Len is of no account. -/
theorem sort_over (w : World) (a : Option Addr) (n cap : Nat) (hn : n < 256) (Q : World → Prop) (hp : ∀ (W : World) (m : Nat), Ext w W → m ≤ 1000 → Calls Try.prog 48 #[.slice a n cap, .int .i64 0, .int .i64 n, .int .i64 m] W fun e w' => e = .returned (.tuple #[]) ∧ Q w') :
    Calls Try.prog 35 #[.slice a n cap] w fun e w' => e = .returned (.tuple #[]) ∧ Q w' := by
  have HP := Lib.hid hp
  clear hp
  go_enter Try.func35, Try.ntmps35
  go_wp2_with ((with_reducible refine (len_any _ _ hn).mono ?_); rintro e w2 ⟨⟨m, rfl, hm⟩, hx⟩; have HC := Lib.hid (HP.out w2 m hx hm); clear hm hx)
  refine HC.out.mono ?_
  rintro e w3 ⟨rfl, h⟩
  have H := Lib.hid h
  clear h
  go_wp2_with fail
  go_end0
  exact ⟨rfl, H.out⟩

theorem sort12 : SortU 12 := by
  intro w base v l ho hl _
  obtain ⟨a, cap, rfl, hc, hm⟩ := own_shape ho
  have hx : (l = [] ∧ a = none ∧ cap = 0) ∨ ∃ g, a = some ⟨g, 0, none⟩ := by
    rcases ho.2 with ⟨e, e0⟩ | ⟨g, c, cur, e, _⟩
    · simp only [Value.slice.injEq] at e
      exact .inl ⟨List.length_eq_zero_iff.1 e.2.1, e.1, e.2.2⟩
    · simp only [Value.slice.injEq] at e
      exact .inr ⟨g, e.1⟩
  rcases hx with ⟨rfl, rfl, rfl⟩ | ⟨g, rfl⟩
  · refine (sort_over w none 0 0 (by decide) (fun w' => w.grownBy w' none) (fun W m hx _ => (pdq_nil m W).mono fun e w' ⟨h1, h2⟩ => ⟨h1, by rw [← h2]; exact grown_of_ext hx⟩)).mono ?_
    rintro e w' ⟨rfl, h⟩
    exact ⟨rfl, own_none _ _ _ _, h⟩
  · have hU : UO base g cap w l.toArray := by unfold UO; simpa using ho
    have hd : l.toArray.size = l.length := by simp
    obtain ⟨p1, p2⟩ := Sort.insertionSort_holds (lt := ltN) swo_ltN l.toArray 0 l.toArray.size (Nat.zero_le _) (Nat.le_refl _)
    have e1 := sorted_row p1 p2
    have hsz := p1.1
    refine (sort_over w _ l.length cap (by omega) (fun w' => UO base g cap w' (Sort.insertionSort ltN l.toArray 0 l.toArray.size) ∧ w.grownBy w' (some g)) (fun W m hx _ => ?_)).mono ?_
    · have := pdq_small base g cap l.toArray m W (hU.ext hx) (by rw [hd]; exact hl)
      rw [hd] at this
      rw [hd]
      exact this.mono fun e w' ⟨h1, h2, h3⟩ => ⟨h1, h2, grown_trans (grown_of_ext hx) h3⟩
    · rintro e w' ⟨rfl, h1, h2⟩
      refine ⟨rfl, ?_, h2⟩
      unfold UO at h1
      rw [e1, hsz, hd] at h1
      exact h1
end Go.Proofs.Ytlgopjfnknjgjaa
