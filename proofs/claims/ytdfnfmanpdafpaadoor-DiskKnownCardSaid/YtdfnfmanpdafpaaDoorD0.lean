/- Disk, plainly: files by rising names; what calls answer and leave. No program is in sight. -/
import Derived.Test.YtdfnfmanpdafpaaDoorV1
namespace Go.Proofs.YtdfnfmanpdafpaaDoor

/-! Lists by names. -/
section
variable {α : Type} (k : α → List UInt8)
def nget (l : List α) (n : List UInt8) : Option α := l.find? fun x => decide (k x = n)
def ndel (l : List α) (n : List UInt8) : List α := l.filter fun x => !decide (k x = n)
def nins (f : α) : List α → List α
  | [] => [f]
  | x :: l => if Lib.compareBytes (k x) (k f) < 0 then x :: nins f l else f :: x :: l
def nput (l : List α) (f : α) : List α := nins k f (ndel k l (k f))
def nset (l : List α) (f : α) : List α := l.map fun x => if k x = k f then f else x
variable {k}
theorem nins_perm (f : α) : ∀ l : List α, (nins k f l).Perm (f :: l)
  | [] => List.Perm.refl _
  | x :: l => by
    unfold nins
    split
    · exact ((nins_perm f l).cons x).trans (List.Perm.swap f x l)
    · exact List.Perm.refl _
theorem nins_mem {f z : α} {l : List α} : z ∈ nins k f l ↔ z = f ∨ z ∈ l := by rw [(nins_perm f l).mem_iff, List.mem_cons]
def UpK (k : α → List UInt8) (l : List α) : Prop := l.Pairwise fun a b => Lib.compareBytes (k a) (k b) < 0
theorem UpK.filter {l : List α} (h : UpK k l) (p : α → Bool) : UpK k (l.filter p) := List.Pairwise.filter _ h
theorem UpK.map {l : List α} (h : UpK k l) : Up Lib.compareBytes (l.map k) := List.pairwise_map.2 h
theorem UpK.nodup {l : List α} (h : UpK k l) : (l.map k).Nodup := by
  refine List.Pairwise.imp ?_ h.map
  intro a b hab e
  rw [e, wo_bytes.refl] at hab; omega
theorem nins_up {f : α} : ∀ {l : List α}, UpK k l → (∀ x ∈ l, k x ≠ k f) → UpK k (nins k f l)
  | [], _, _ => by unfold nins UpK; simp
  | x :: l, h, hn => by
    have h1 := List.pairwise_cons.1 h
    have hx : k x ≠ k f := hn x (by simp)
    unfold nins
    split
    · rename_i hlt
      refine List.pairwise_cons.2 ⟨fun z hz => ?_, nins_up h1.2 fun y hy => hn y (by simp [hy])⟩
      rcases nins_mem.1 hz with rfl | hz
      · exact hlt
      · exact h1.1 z hz
    · rename_i hlt
      have hfx : Lib.compareBytes (k f) (k x) < 0 := by
        have h2 := wo_bytes.anti (k f) (k x)
        have h3 : Lib.compareBytes (k x) (k f) ≠ 0 := fun e => hx (bytes_zero e)
        omega
      refine List.pairwise_cons.2 ⟨fun z hz => ?_, h⟩
      rcases List.mem_cons.1 hz with rfl | hz
      · exact hfx
      · exact wo_bytes.lt_trans hfx (h1.1 z hz)
theorem ndel_mem {n : List UInt8} {l : List α} {z : α} : z ∈ ndel k l n ↔ z ∈ l ∧ k z ≠ n := by unfold ndel; rw [List.mem_filter]; simp
theorem nput_up {f : α} {l : List α} (h : UpK k l) : UpK k (nput k l f) := nins_up (h.filter _) fun _ hx => (ndel_mem.1 hx).2
theorem ndel_up {n : List UInt8} {l : List α} (h : UpK k l) : UpK k (ndel k l n) := h.filter _
theorem nput_mem {f z : α} {l : List α} : z ∈ nput k l f ↔ z = f ∨ (z ∈ l ∧ k z ≠ k f) := by unfold nput; rw [nins_mem, ndel_mem]
theorem nset_keys {f : α} {l : List α} : (nset k l f).map k = l.map k := by
  unfold nset
  rw [List.map_map]
  refine List.map_congr_left fun x _ => ?_
  simp only [Function.comp]
  split
  · rename_i e; exact e.symm
  · rfl
theorem nset_up {f : α} {l : List α} (h : UpK k l) : UpK k (nset k l f) := by
  have := h.map
  rw [← nset_keys (f := f)] at this
  exact List.pairwise_map.1 this
theorem nget_some {l : List α} {n : List UInt8} {x : α} (h : nget k l n = some x) : x ∈ l ∧ k x = n := by
  refine ⟨List.mem_of_find?_eq_some h, ?_⟩
  have := List.find?_some h
  simpa using this
theorem nget_none {l : List α} {n : List UInt8} (h : nget k l n = none) : ∀ x ∈ l, k x ≠ n := by
  intro x hx e
  have := List.find?_eq_none.1 h x hx
  simp [e] at this
theorem UpK.inj {l : List α} (h : UpK k l) {x y : α} (hx : x ∈ l) (hy : y ∈ l) (e : k x = k y) : x = y := by
  induction l with
  | nil => cases hx
  | cons z l ih =>
    have h1 := List.pairwise_cons.1 h
    rcases List.mem_cons.1 hx with e1 | h2 <;> rcases List.mem_cons.1 hy with e2 | h3
    · rw [e1, e2]
    · have := h1.1 y h3; rw [← e1, e, wo_bytes.refl] at this; omega
    · have := h1.1 x h2; rw [← e2, e, wo_bytes.refl] at this; omega
    · exact ih h1.2 h2 h3
theorem nget_of {l : List α} (h : UpK k l) {x : α} (hx : x ∈ l) : nget k l (k x) = some x := by
  cases hg : nget k l (k x) with
  | none => exact absurd rfl (nget_none hg x hx)
  | some y => exact congrArg some (h.inj (nget_some hg).1 hx (nget_some hg).2)
theorem up_eq {l m : List α} (hl : UpK k l) (hm : UpK k m) (h : ∀ z, z ∈ l ↔ z ∈ m) : l = m := by
  induction l generalizing m with
  | nil => cases m with
    | nil => rfl
    | cons y m => exact absurd ((h y).2 (by simp)) (by simp)
  | cons x l ih =>
    cases m with
    | nil => exact absurd ((h x).1 (by simp)) (by simp)
    | cons y m =>
      have h1 := List.pairwise_cons.1 hl
      have h2 := List.pairwise_cons.1 hm
      have hxy : x = y := by
        rcases List.mem_cons.1 ((h x).1 (by simp)) with e | hx
        · exact e
        · rcases List.mem_cons.1 ((h y).2 (by simp)) with e | hy
          · exact e.symm
          · have a := h2.1 x hx
            have b := h1.1 y hy
            have := wo_bytes.lt_trans a b
            rw [wo_bytes.refl] at this; omega
      subst hxy
      congr 1
      refine ih h1.2 h2.2 fun z => ⟨fun hz => ?_, fun hz => ?_⟩
      · rcases List.mem_cons.1 ((h z).1 (by simp [hz])) with rfl | hz'
        · have := h1.1 z hz; rw [wo_bytes.refl] at this; omega
        · exact hz'
      · rcases List.mem_cons.1 ((h z).2 (by simp [hz])) with rfl | hz'
        · have := h2.1 z hz; rw [wo_bytes.refl] at this; omega
        · exact hz'
theorem nput_same {l : List α} {f : α} (h : UpK k l) (hf : ∃ x ∈ l, k x = k f) : nput k l f = nset k l f := by
  refine up_eq (nput_up h) (nset_up h) fun z => ?_
  rw [nput_mem]
  unfold nset
  rw [List.mem_map]
  constructor
  · rintro (rfl | ⟨hz, hne⟩)
    · obtain ⟨x, hx, e⟩ := hf
      exact ⟨x, hx, if_pos e⟩
    · exact ⟨z, hz, if_neg hne⟩
  · rintro ⟨x, hx, rfl⟩
    split
    · exact .inl rfl
    · rename_i hne; exact .inr ⟨hx, hne⟩
end
section
variable {α β : Type} {k : α → List UInt8} {j : β → List UInt8} {f : α → β} (hf : ∀ x, j (f x) = k x)
include hf
theorem nget_map (l : List α) (n : List UInt8) : nget j (l.map f) n = (nget k l n).map f := by
  unfold nget
  rw [List.find?_map]
  simp only [Function.comp_def, hf]
theorem ndel_map (l : List α) (n : List UInt8) : ndel j (l.map f) n = (ndel k l n).map f := by
  unfold ndel
  rw [List.filter_map]
  simp only [Function.comp_def, hf]
theorem nins_map (x : α) : ∀ l : List α, nins j (f x) (l.map f) = (nins k x l).map f
  | [] => rfl
  | y :: l => by
    rw [List.map_cons, nins, nins, hf, hf]
    split
    · rw [nins_map x l]; rfl
    · rfl
theorem nput_map (l : List α) (x : α) : nput j (l.map f) (f x) = (nput k l x).map f := by
  unfold nput
  rw [hf, ndel_map hf, nins_map hf]
theorem nset_map (l : List α) (x : α) : nset j (l.map f) (f x) = (nset k l x).map f := by
  unfold nset
  rw [List.map_map, List.map_map]
  refine List.map_congr_left fun y _ => ?_
  simp only [Function.comp, hf]
  split <;> rfl
theorem upK_map {l : List α} : UpK j (l.map f) ↔ UpK k l := by
  unfold UpK
  rw [List.pairwise_map]
  simp only [hf]
end

/-! A disk. -/
structure Fl where
  nm : List UInt8
  b : List UInt8
  fast : Nat
deriving DecidableEq
structure DS where
  fs : List Fl
  q : Int
  fz : Int
  off : Bool
def nmB (c : UInt8) : Bool := (decide (97 ≤ c.toNat) && decide (c.toNat ≤ 122)) || (decide (48 ≤ c.toNat) && decide (c.toNat ≤ 57)) || decide (c.toNat = 45) || decide (c.toNat = 46)
def mayN (l : List UInt8) : Bool := decide (1 ≤ l.length) && decide (l.length ≤ 32) && l.all nmB
def usedF (l : List Fl) : Nat := (l.map fun f => f.b.length).sum
def fgetF := nget Fl.nm
def thereE (S : DS) (n : List UInt8) : Int := if mayN n then (if (fgetF S.fs n).isSome then 0 else 6) else 1
def offE (S : DS) : Int := if S.off then 8 else 0
/-- The first error. -/
def firstE : List Int → Int
  | [] => 0
  | e :: l => if e = 0 then firstE l else e
/-- The last question: the power. -/
def burnE (S : DS) : Int := if S.fz = 0 then 8 else 0
def burnS (S : DS) : DS := if S.fz = 0 then { S with off := true, fz := -1 } else if 0 < S.fz then { S with fz := S.fz - 1 } else S
/-- What a call answers whose questions ahead of the power are told, and what it leaves. -/
def askdE (S : DS) (l : List Int) : Int := if firstE l = 0 then burnE S else firstE l
def askdS (S : DS) (l : List Int) (act : List Fl → List Fl) : DS :=
  if firstE l = 0 then (if burnE S = 0 then { burnS S with fs := act S.fs } else burnS S) else S
def errB (b : Bool) (e : Int) : Int := if b then e else 0
def createL (S : DS) (n : List UInt8) : List Int := [offE S, errB (!mayN n) 1, errB (fgetF S.fs n).isSome 9, errB (decide (512 ≤ S.fs.length)) 7]
def createA (n : List UInt8) (l : List Fl) : List Fl := nput Fl.nm l ⟨n, [], 0⟩
def appendL (S : DS) (n : List UInt8) (m : Nat) : List Int := [offE S, thereE S n, errB (decide (S.q - usedF S.fs < (m : Int))) 7]
def appendA (n : List UInt8) (d : List UInt8) (l : List Fl) : List Fl := match fgetF l n with | none => l | some f => nset Fl.nm l { f with b := f.b ++ d }
def syncL (S : DS) (n : List UInt8) : List Int := [offE S, thereE S n]
def syncA (n : List UInt8) (l : List Fl) : List Fl := match fgetF l n with | none => l | some f => nset Fl.nm l { f with fast := f.b.length }
def renameL (S : DS) (o n : List UInt8) : List Int := [offE S, errB (!mayN n) 1, thereE S o]
def renameA (o n : List UInt8) (l : List Fl) : List Fl := if o = n then l else match fgetF l o with | none => l | some f => ndel Fl.nm (nput Fl.nm l { f with nm := n }) o
def lenF (S : DS) (n : List UInt8) : Nat := match fgetF S.fs n with | none => 0 | some f => f.b.length
def truncL (S : DS) (n : List UInt8) (z : Int) : List Int := [offE S, errB (decide (z < 0)) 1, thereE S n, errB (decide ((lenF S n : Int) < z)) 1]
def truncA (n : List UInt8) (z : Int) (l : List Fl) : List Fl := match fgetF l n with | none => l | some f => nset Fl.nm l { f with b := f.b.take z.toNat, fast := min f.fast z.toNat }
def removeA (n : List UInt8) (l : List Fl) : List Fl := ndel Fl.nm l n

/-- One file at a crash: pick and torn byte, where there are any. -/
def stayN (f : Fl) (pick : Option Nat) : Nat := match pick with | none => 0 | some p => p % (f.b.length - f.fast + 1)
def tornB (b : List UInt8) (st : Nat) (torn : Option UInt8) : List UInt8 := match torn with | none => b | some t => if 0 < st then b.take (b.length - 1) ++ [b.getLastD 0 ^^^ t] else b
def crashF (f : Fl) (pick : Option Nat) (torn : Option UInt8) : Fl :=
  { f with b := tornB (f.b.take (f.fast + stayN f pick)) (stayN f pick) torn, fast := (tornB (f.b.take (f.fast + stayN f pick)) (stayN f pick) torn).length }
def crashL (picks : List Nat) (torn : List UInt8) : Nat → List Fl → List Fl
  | _, [] => []
  | k, f :: l => if f.b.length = f.fast then f :: crashL picks torn k l else crashF f picks[k]? torn[k]? :: crashL picks torn (k + 1) l
def crashS (picks : List Nat) (torn : List UInt8) (S : DS) : DS := { S with fs := crashL picks torn 0 S.fs, off := false, fz := -1 }

def readS (S : DS) (n : List UInt8) : List UInt8 := if firstE (syncL S n) = 0 then (match fgetF S.fs n with | none => [] | some f => f.b) else []
def looseS (S : DS) (n : List UInt8) : Nat := if firstE (syncL S n) = 0 then (match fgetF S.fs n with | none => 0 | some f => f.b.length - f.fast) else 0
def quotaE (n : Int) : Int := if n < 0 ∨ 4194304 < n then 1 else 0
def quotaS (S : DS) (n : Int) : DS := if n < 0 ∨ 4194304 < n then S else { S with q := n }
def fuseL (S : DS) (n : Int) : List Int := [offE S, errB (decide (n < -1)) 1]
def fuseS (S : DS) (n : Int) : DS := if firstE (fuseL S n) = 0 then { S with fz := n } else S
/-- A call of the laws'. -/
structure AD where
  what : Int
  nm : List UInt8
  ot : List UInt8
  b : List UInt8
  n : Int
  ps : List Nat
def doE (S : DS) (a : AD) : Int :=
  if a.what = 0 then askdE S (createL S a.nm) else if a.what = 1 then askdE S (appendL S a.nm a.b.length) else if a.what = 2 then askdE S (syncL S a.nm)
  else if a.what = 3 then askdE S (renameL S a.nm a.ot) else if a.what = 4 then askdE S (truncL S a.nm a.n) else if a.what = 5 then askdE S (syncL S a.nm)
  else if a.what = 6 then quotaE a.n else if a.what = 7 then firstE (fuseL S a.n) else 0
def doS (S : DS) (a : AD) : DS :=
  if a.what = 0 then askdS S (createL S a.nm) (createA a.nm) else if a.what = 1 then askdS S (appendL S a.nm a.b.length) (appendA a.nm a.b) else if a.what = 2 then askdS S (syncL S a.nm) (syncA a.nm)
  else if a.what = 3 then askdS S (renameL S a.nm a.ot) (renameA a.nm a.ot) else if a.what = 4 then askdS S (truncL S a.nm a.n) (truncA a.nm a.n) else if a.what = 5 then askdS S (syncL S a.nm) (removeA a.nm)
  else if a.what = 6 then quotaS S a.n else if a.what = 7 then fuseS S a.n else if a.what = 8 then crashS a.ps a.b S else S
/-- What a disk may be. -/
structure OkD (S : DS) : Prop where
  up : UpK Fl.nm S.fs
  names : ∀ f ∈ S.fs, mayN f.nm = true
  fast : ∀ f ∈ S.fs, f.fast ≤ f.b.length
  used : usedF S.fs ≤ 4194304
  len : S.fs.length ≤ 512
  q0 : 0 ≤ S.q
  q1 : S.q ≤ 4194304
  f0 : -1 ≤ S.fz
  f1 : S.fz < 9223372036854775808
end Go.Proofs.YtdfnfmanpdafpaaDoor
