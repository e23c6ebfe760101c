/- The map of each key's last place, as it grows. -/
import Derived.Test.YtlgopjfnknjgjaaD1
namespace Go.Proofs.Ytlgopjfnknjgjaa
open Go.RowKit Go.MapKept

theorem key_ne {k x : List UInt8} (h : ¬ x = k) : Value.string (strOf x) ≠ Value.string (strOf k) := fun e => h (strOf_inj.1 (by simpa using e))
theorem mapOf_nil : MapOf [] [] := fun _ => .inl ⟨rfl, fun p h => by cases h⟩
theorem mapOf_new {l : List NK} {E : List (Value × Value)} {x : NK} (h : MapOf l E) (hn : lastF l x.2 = none) : MapOf (l ++ [x]) (E ++ [(Value.string (strOf x.2), Value.int .i64 (l.length : Nat))]) := by
  intro k
  rw [lastF_snoc]
  by_cases hk : x.2 = k
  · subst hk
    rw [if_pos rfl, hn]
    exact .inr ⟨E.length, l.length, x.1, rfl, by rw [List.getElem?_append_right (Nat.le_refl _), Nat.sub_self]; rfl⟩
  · rw [if_neg hk]
    rcases h k with ⟨h1, h2⟩ | ⟨j, m, n, h1, h2⟩
    · refine .inl ⟨h1, fun p hp => ?_⟩
      rcases List.mem_append.1 hp with hp | hp
      · exact h2 p hp
      · rw [List.mem_singleton.1 hp]; exact key_ne hk
    · exact .inr ⟨j, m, n, h1, (List.getElem?_append_left (List.getElem?_eq_some_iff.1 h2).1).trans h2⟩
theorem mapOf_set {l : List NK} {E : List (Value × Value)} {x : NK} {j m n : Nat} {u : Value} (h : MapOf l E) (hl : lastF l x.2 = some (m, n)) (hle : n ≤ x.1) (hj : E[j]? = some (Value.string (strOf x.2), u)) : MapOf (l ++ [x]) (E.set j (Value.string (strOf x.2), Value.int .i64 (l.length : Nat))) := by
  have hjl := (List.getElem?_eq_some_iff.1 hj).1
  intro k
  rw [lastF_snoc]
  by_cases hk : x.2 = k
  · subst hk
    rw [if_pos rfl, hl]
    refine .inr ⟨j, l.length, x.1, ?_, by rw [List.getElem?_set_self hjl]⟩
    show (if n ≤ x.1 then some (l.length, x.1) else some (m, n)) = _
    rw [if_pos hle]
  · rw [if_neg hk]
    rcases h k with ⟨h1, h2⟩ | ⟨j', m', n', h1, h2⟩
    · refine .inl ⟨h1, fun p hp => ?_⟩
      rcases List.mem_or_eq_of_mem_set hp with hp | hp
      · exact h2 p hp
      · rw [hp]; exact key_ne hk
    · refine .inr ⟨j', m', n', h1, ?_⟩
      rw [List.getElem?_set_ne (fun e => ?_)]
      · exact h2
      · subst e
        rw [hj] at h2
        simp only [Option.some.injEq, Prod.mk.injEq] at h2
        exact key_ne hk h2.1
theorem mapOf_keep {l : List NK} {E : List (Value × Value)} {x : NK} {m n : Nat} (h : MapOf l E) (hl : lastF l x.2 = some (m, n)) (hgt : ¬ n ≤ x.1) : MapOf (l ++ [x]) E := by
  intro k
  rw [lastF_snoc]
  by_cases hk : x.2 = k
  · subst hk
    rw [if_pos rfl, hl]
    have e : (match some (m, n) with | none => some (l.length, x.1) | some (m, n) => if n ≤ x.1 then some (l.length, x.1) else some (m, n)) = some (m, n) := by
      show (if n ≤ x.1 then some (l.length, x.1) else some (m, n)) = _
      rw [if_neg hgt]
    rcases h x.2 with ⟨h1, _⟩ | ⟨j', m', n', h1, h2⟩
    · rw [hl] at h1; cases h1
    · rw [hl] at h1
      simp only [Option.some.injEq, Prod.mk.injEq] at h1
      obtain ⟨rfl, rfl⟩ := h1
      exact .inr ⟨j', m, n, e, h2⟩
  · rw [if_neg hk]; exact h k
end Go.Proofs.Ytlgopjfnknjgjaa
