/- The program's calls by what packets say: Deliver, Drop, Double, Send. -/
import Derived.Test.YtlgopjfnknjgjaaN23
import Derived.Test.YtlgopjfnknjgjaaN7
namespace Go.Proofs.Ytlgopjfnknjgjaa
open Go.RowKit Go.MapKept

theorem Net2.bytes {bn bm : Nat} {w w' : World} (h : Net2 bn bm w w') {g n c : Nat} {l : List UInt8} (hb : Bytes w (.slice (some ⟨g, 0, none⟩) n c) l) (h1 : g ≠ bn) (h2 : g ≠ bm) : Bytes w' (.slice (some ⟨g, 0, none⟩) n c) l := by
  obtain ⟨hl, ad, cap, hv, hc, hm, hnil, hspot, hcell⟩ := hb
  simp only [Value.slice.injEq] at hv
  obtain ⟨rfl, rfl, rfl⟩ := hv
  refine ⟨hl, _, _, rfl, hc, hm, hnil, hspot, fun j u hj => ?_⟩
  obtain ⟨p, hp, hc2⟩ := hcell j u hj
  simp only [Option.some.injEq] at hp
  subst hp
  exact ⟨_, rfl, (World.cell?_of_block (h.keep (World.block_lt_of_cell? w _ hc2) h1 h2)).trans hc2⟩
theorem dlP (w : World) (base bn bm k last : Nat) (L : List PK) (h : NetR w base bn bm k last L) (K : List KP) (hK : L.map kK = K) (id : Nat) :
    Calls Try.prog 23 #[.pointer (some ⟨bn, 0, none⟩), .int .u64 id] w fun e w' => ∃ data L', e = .returned (.tuple #[.int .i64 (dF K id : Nat), .int .i64 (dT K id : Nat), data, .int .i64 (dE K id : Nat)]) ∧ L'.map kK = lessK K id ∧ L'.Sublist L ∧ NetR w' base bn bm k last L' ∧ Net2 bn bm w w' ∧ OwnB w' base data (dB K id) ∧ AwayV data L' ∧ (data = .slice none 0 0 ∨ ∃ x ∈ L, data = x.h) := by
  subst hK
  rcases net_find L id with hno | ⟨L1, x, L2, rfl, rfl⟩
  · obtain ⟨e1, _, e2, e3, e4⟩ := dE_no (hasK_no hno)
    rw [e1, e2, e3, e4]
    refine (deliver_no w base bn bm k last L h id hno).mono ?_
    rintro e w' ⟨rfl, hx⟩
    exact ⟨_, L, rfl, (lessK_no hno).symm, List.Sublist.refl _, h.ext hx, Net2.of hx, own_none _ _ _ _, AwayV.none, .inl rfl⟩
  · have hf := rise_front h.rise
    obtain ⟨e1, _, e2, e3, e4⟩ := dE_yes (hasK_yes (L2 := L2) hf)
    rw [e1, e2, e3, e4]
    refine (deliver_yes w base bn bm k last L1 L2 x h).mono ?_
    rintro e w' ⟨rfl, hn, h2, ho⟩
    refine ⟨_, L1 ++ L2, rfl, (lessK_yes hf).symm, List.Sublist.append (List.Sublist.refl _) (List.sublist_cons_self _ _), hn, h2, ho, ?_, .inr ⟨x, by simp, rfl⟩⟩
    intro y hy g hg
    have ha := List.pairwise_append.1 h.apart
    rcases List.mem_append.1 hy with hy | hy
    · exact fun e => ha.2.2 y hy x (List.mem_cons_self ..) g e hg
    · exact (List.pairwise_cons.1 ha.2.1).1 y hy g hg
theorem drP (w : World) (base bn bm k last : Nat) (L : List PK) (h : NetR w base bn bm k last L) (K : List KP) (hK : L.map kK = K) (id : Nat) :
    Calls Try.prog 24 #[.pointer (some ⟨bn, 0, none⟩), .int .u64 id] w fun e w' => e = .returned (.int .i64 (dE K id : Nat)) ∧ ∃ L', L'.map kK = lessK K id ∧ L'.Sublist L ∧ NetR w' base bn bm k last L' ∧ Net2 bn bm w w' := by
  subst hK
  rcases net_find L id with hno | ⟨L1, x, L2, rfl, rfl⟩
  · obtain ⟨e1, _⟩ := dE_no (hasK_no hno)
    rw [e1]
    refine (drop_no w base bn bm k last L h id hno).mono ?_
    rintro e w' ⟨rfl, hx⟩
    exact ⟨rfl, L, (lessK_no hno).symm, List.Sublist.refl _, h.ext hx, Net2.of hx⟩
  · have hf := rise_front h.rise
    obtain ⟨e1, _⟩ := dE_yes (hasK_yes (L2 := L2) hf)
    rw [e1]
    refine (drop_yes w base bn bm k last L1 L2 x h).mono ?_
    rintro e w' ⟨rfl, hn, h2⟩
    exact ⟨rfl, L1 ++ L2, (lessK_yes hf).symm, List.Sublist.append (List.Sublist.refl _) (List.sublist_cons_self _ _), hn, h2⟩
theorem dbP (w : World) (base bn bm k last : Nat) (L : List PK) (h : NetR w base bn bm k last L) (K : List KP) (hK : L.map kK = K) (id : Nat) (hf : L.length < 4096) (hlast : last < 1000000000) :
    Calls Try.prog 25 #[.pointer (some ⟨bn, 0, none⟩), .int .u64 id] w fun e w' => e = .returned (.tuple #[.int .u64 (aE (dE K id) last : Nat), .int .i64 (dE K id : Nat)]) ∧ ∃ L', L'.map kK = moreK K (dE K id) last (dF K id) (dT K id) (dB K id) ∧ NewL w.heap.size L L' ∧ NetR w' base bn bm k (lE (dE K id) last) L' ∧ Net2 bn bm w w' := by
  subst hK
  rcases net_find L id with hno | ⟨L1, x, L2, hL, rfl⟩
  · obtain ⟨e1, _, e2, e3, e4⟩ := dE_no (hasK_no hno)
    rw [e1, e2, e3, e4]
    refine (double_no w base bn bm k last L h id hno).mono ?_
    rintro e w' ⟨rfl, hx⟩
    exact ⟨rfl, L, rfl, NewL.sub (List.Sublist.refl _), h.ext hx, Net2.of hx⟩
  · have hfr : ∀ y ∈ L1, y.id ≠ x.id := by have h1 := h.rise; rw [hL] at h1; exact rise_front h1
    have hy := hasK_yes (L2 := L2) hfr
    rw [← hL] at hy
    obtain ⟨e1, _, e2, e3, e4⟩ := dE_yes hy
    rw [e1, e2, e3, e4]
    refine (double_yesF w base bn bm k last L x h (by rw [hL]; simp) hf hlast).mono ?_
    rintro e w' ⟨rfl, ⟨hv, hn, hw⟩, h2⟩
    refine ⟨rfl, L ++ [⟨last + 1, x.fr, x.dst, x.b, hv⟩], ?_, NewL.more (by exact hw), by exact hn, h2⟩
    rw [List.map_append]; rfl
/-- Bytes of one's own stay, whatever the net does. -/
theorem NetR.mine {w0 : World} {base bn bm k last b2 : Nat} {L : List PK} (h : NetR w0 base bn bm k last L) {v : Value} {l : List UInt8} (ho : OwnB w0 b2 v l) : ∀ w w', Net2 bn bm w w' → Bytes w v l → Bytes w' v l := by
  intro w w' h2 hb
  have h87 := own_ne ho h.net (by decide)
  have hm := own_not_map ho h.map
  rcases ho.2 with ⟨rfl, h0⟩ | ⟨g, cap, cur, rfl, _⟩
  · have : l = [] := List.eq_nil_of_length_eq_zero h0
    subst this
    exact Bytes.nil _
  · exact h2.bytes hb (fun e => h87 (by rw [e]; rfl)) (fun e => hm (by rw [e]; rfl))
theorem sdP (w : World) (base bn bm k last : Nat) (L : List PK) (h : NetR w base bn bm k last L) (K : List KP) (hK : L.map kK = K) (p q : Int) (b2 : Nat) (vb : Value) (lb : List UInt8) (hb : OwnB w b2 vb lb) (hf : L.length < 4096) (hlast : last < 1000000000) :
    Calls Try.prog 22 #[.pointer (some ⟨bn, 0, none⟩), .int .i64 p, .int .i64 q, vb] w fun e w' => e = .returned (.tuple #[.int .u64 (aE (sE k p q lb.length) last : Nat), .int .i64 (sE k p q lb.length : Nat)]) ∧ ∃ L', L'.map kK = moreK K (sE k p q lb.length) last p.toNat q.toNat lb ∧ NewL w.heap.size L L' ∧ NetR w' base bn bm k (lE (sE k p q lb.length) last) L' ∧ Net2 bn bm w w' := by
  subst hK
  cases hc : (decide (0 ≤ p) && decide (p < k) && (decide (0 ≤ q) && decide (q < k)) && !decide (p = q)) with
  | false =>
    rw [sE_arg hc]
    refine (send_arg w base bn bm k last L h p q vb hc).mono ?_
    rintro e w' ⟨rfl, hx⟩
    exact ⟨rfl, L, rfl, NewL.sub (List.Sublist.refl _), h.ext hx, Net2.of hx⟩
  | true =>
    obtain ⟨e1, p', q', rfl, rfl, hp, hq, hne⟩ := sE_in (len := lb.length) hc
    rw [e1]
    rcases Nat.lt_or_ge 4096 lb.length with hl | hl
    · rw [if_pos hl]
      obtain ⟨ab, cb, rfl⟩ := OwnB.slice hb
      refine (send_long w base bn bm k last L h p' q' ab _ cb ⟨hp, hq⟩ hne hl).mono ?_
      rintro e w' ⟨rfl, hx⟩
      exact ⟨rfl, L, rfl, NewL.sub (List.Sublist.refl _), h.ext hx, Net2.of hx⟩
    · rw [if_neg (Nat.not_lt.2 hl)]
      refine (send_anyF w base bn bm k last L h p' q' vb lb hb.bytes (h.mine hb) ⟨hp, hq⟩ hne hl hf hlast).mono ?_
      rintro e w' ⟨rfl, ⟨hv, hn, hw⟩, h2⟩
      refine ⟨rfl, L ++ [⟨last + 1, p', q', lb, hv⟩], ?_, NewL.more (by exact hw), by exact hn, h2⟩
      rw [List.map_append]; rfl
end Go.Proofs.Ytlgopjfnknjgjaa
