/- NetOnce: what its walk keeps. -/
import Derived.Test.YtlgopjfnknjgjaaN13
namespace Go.Proofs.Ytlgopjfnknjgjaa
open Go.RowKit Go.MapKept

def okO (x : OPn) : Prop := x.id < 18446744073709551616 ∧ ∃ a c, x.h = .slice a x.b.length c
theorem info54t : (Try.prog.info? 54).map (fun i => (i.zero, i.size, i.bytes)) = some (some (.agg #[.int .i64 0, .int .i64 0, .int .i64 0, .int .u64 0, .slice none 0 0]), 5, 56) := by kernel_rfl
theorem wpList_lookN {P : Program} {ops : Array Oper} {Q : Exit → Act → World → Prop} {a : Act} {w : World} {rest : List Oper} {o : Oper} (m x : Operand) (t : TypeId) (ok : Bool) (hop : o.op = .lookup t m x ok) (hw : Region.wanted o (yielded ops a.tmps) = true) {mv v : Value}
    (hm : a.eval m = mv) {xv : Value} (hx : a.eval x = xv) (hr : (Instr.lookup t mv xv ok).run P w = .ok v w) (h : wpList P ops Q rest (a.put o.dst v) w) : wpList P ops Q (o :: rest) a w :=
  wpList_val hw (by simp [execOp, hop, hm, hx, hr, Result.andThen]) h
theorem o_row (w : World) (a b c : Int) (d : Nat) (ah : Option Addr) (n ch : Nat) : Row (w.alloc (.cells #[.int .i64 a, .int .i64 b, .int .i64 c, .int .u64 d, .slice ah n ch] 54)) 5 (.slice (some ⟨w.heap.size, 0, none⟩) 1 1) 1 [.int .i64 a, .int .i64 b, .int .i64 c, .int .u64 d, .slice ah n ch] :=
  Row.of_own (World.ownsRow_lit (base := w.heap.size) (e := 54) (size := 5) w #[.int .i64 a, .int .i64 b, .int .i64 c, .int .u64 d, .slice ah n ch] 1 (Nat.le_refl _) (by decide) rfl)
theorem o_one (a b c : Int) (d : Nat) (ah : Option Addr) (n ch : Nat) : ∀ u ∈ [Value.int .i64 a, .int .i64 b, .int .i64 c, .int .u64 d, .slice ah n ch], u.oneCell' = true := by
  intro u hu
  simp only [List.mem_cons, List.not_mem_nil, or_false] at hu
  rcases hu with rfl | rfl | rfl | rfl | rfl <;> rfl
theorem NetR.grown {w w' : World} {base bn bm k last : Nat} {L : List PK} (h : NetR w base bn bm k last L) {b2 size n : Nat} {e : TypeId} {v : Value} {xs : List Value} (ho : w.ownsRow b2 e size v n xs) (h1 : e ≠ 87) (h2 : e ≠ 5) (hg : w.grownBy w' v.ownBlock) : NetR w' base bn bm k last L :=
  ⟨(hg.block bn h.bnlt (fun q => own_ne ho h.net h1 q.symm)).trans h.net, h.map.grown hg (own_not_map ho h.map), h.lo, h.rise, h.low, fun x hx => own_keep (h.own x hx) hg (own_apart ho (h.own x hx) h2), h.apart, h.inn, h.max⟩
theorem NetR.box {w w' : World} {base bn bm k last bx : Nat} {L : List PK} (h : NetR w base bn bm k last L) (h2 : Net2 bn bm w w') {c : Array Value} {t : TypeId} {fr : Nat × Nat} (hb : w.heap[bx]? = some (.cells c t fr)) (ht : t ≠ 87) : w'.heap[bx]? = some (.cells c t fr) := by
  refine (h2.keep (Array.getElem?_eq_some_iff.1 hb).1 (fun e => ?_) (fun e => ?_)).trans hb
  · rw [e, h.net] at hb; cases hb; exact ht rfl
  · obtain ⟨es, clock, hm, _⟩ := h.map
    rw [e, hm] at hb; cases hb
/-- Bytes that were there before the net stay, whatever it does. -/
theorem bytes_old {bn bm : Nat} {w0 : World} {v : Value} {l : List UInt8} (h0 : Bytes w0 v l) (h1 : w0.heap.size ≤ bn) (h2 : w0.heap.size ≤ bm) : ∀ w w', Net2 bn bm w w' → Bytes w v l → Bytes w' v l := by
  intro w w' h hb
  obtain ⟨hl, ad, cap, hv, hc, hm, hnil, hspot, hcell⟩ := hb
  obtain ⟨_, ad0, cap0, hv0, _, _, _, _, hcell0⟩ := h0
  rw [hv] at hv0
  simp only [Value.slice.injEq] at hv0
  obtain ⟨rfl, _, rfl⟩ := hv0
  refine ⟨hl, ad, cap, hv, hc, hm, hnil, hspot, fun j u hj => ?_⟩
  obtain ⟨p, hp, hc2⟩ := hcell j u hj
  obtain ⟨p0, hp0, hc0⟩ := hcell0 j u hj
  rw [hp] at hp0
  cases hp0
  have hlt := World.block_lt_of_cell? w0 _ hc0
  exact ⟨p, hp, (World.cell?_of_block (h.keep (World.block_lt_of_cell? w _ hc2) (by show p.block ≠ bn; have : p.block < w0.heap.size := hlt; omega) (by show p.block ≠ bm; have : p.block < w0.heap.size := hlt; omega))).trans hc2⟩
/-- What the statement has gathered behind some calls, and the net. -/
structure OnceW (w0 w : World) (base bn bm bg : Nat) (sv : Value) (S : List OPn) (G : List Nat) (L : List PK) : Prop where
  net : NetR w base bn bm 4 S.length L
  sent : w.ownsRow base 54 5 sv S.length (S.flatMap oC)
  gone : MapE w bg (.int .u64) (eGone G)
  inv : OnceI S G L
  ok : ∀ s ∈ S, (∃ a c, s.h = .slice a s.b.length c) ∧ Bytes w0 s.h s.b ∧ s.b.length ≤ 4096
  ne : bg ≠ bm
  ext : Ext w0 w
  lo : w0.heap.size ≤ base ∧ base ≤ bg
theorem OnceW.ext' {w0 w w' : World} {base bn bm bg : Nat} {sv : Value} {S : List OPn} {G : List Nat} {L : List PK} (h : OnceW w0 w base bn bm bg sv S G L) (hx : Ext w w') : OnceW w0 w' base bn bm bg sv S G L :=
  ⟨h.net.ext hx, own_ext h.sent hx, h.gone.ext hx, h.inv, h.ok, h.ne, h.ext.trans hx, h.lo⟩
theorem OnceW.low {w0 w : World} {base bn bm bg : Nat} {sv : Value} {S : List OPn} {G : List Nat} {L : List PK} (h : OnceW w0 w base bn bm bg sv S G L) : w0.heap.size ≤ bn ∧ w0.heap.size ≤ bm := ⟨Nat.le_trans h.lo.1 h.net.lo.1, Nat.le_trans h.lo.1 h.net.lo.2⟩
theorem OnceW.llen {w0 w : World} {base bn bm bg : Nat} {sv : Value} {S : List OPn} {G : List Nat} {L : List PK} (h : OnceW w0 w base bn bm bg sv S G L) : L.length ≤ S.length := by have := h.inv.cnt; omega
/-- Behind a call that let a packet set out. -/
structure OnceO (w0 w : World) (base bn bm bg : Nat) (sv : Value) (S : List OPn) (G : List Nat) (L : List PK) (x : PK) : Prop where
  net : NetR w base bn bm 4 (S.length + 1) (L ++ [x])
  sent : w.ownsRow base 54 5 sv S.length (S.flatMap oC)
  gone : MapE w bg (.int .u64) (eGone G)
  inv : OnceI S G L
  ok : ∀ s ∈ S, (∃ a c, s.h = .slice a s.b.length c) ∧ Bytes w0 s.h s.b ∧ s.b.length ≤ 4096
  ne : bg ≠ bm
  ext : Ext w0 w
  lo : w0.heap.size ≤ base ∧ base ≤ bg
theorem OnceW.out {w0 w w' : World} {base bn bm bg : Nat} {sv : Value} {S : List OPn} {G : List Nat} {L : List PK} {x : PK} (h : OnceW w0 w base bn bm bg sv S G L) (hn : NetR w' base bn bm 4 (S.length + 1) (L ++ [x])) (h2 : Net2 bn bm w w') : OnceO w0 w' base bn bm bg sv S G L x :=
  ⟨hn, h.net.row h2 h.sent (by decide), h.net.mapE h2 h.gone h.ne, h.inv, h.ok, h.ne, h2.ext h.ext h.low.1 h.low.2, h.lo⟩
theorem OnceO.ext' {w0 w w' : World} {base bn bm bg : Nat} {sv : Value} {S : List OPn} {G : List Nat} {L : List PK} {x : PK} (h : OnceO w0 w base bn bm bg sv S G L x) (hx : Ext w w') : OnceO w0 w' base bn bm bg sv S G L x :=
  ⟨h.net.ext hx, own_ext h.sent hx, h.gone.ext hx, h.inv, h.ok, h.ne, h.ext.trans hx, h.lo⟩
/-- .. and is told behind what was sent. -/
theorem OnceO.told {w0 w w' : World} {base bn bm bg : Nat} {sv sv' : Value} {S : List OPn} {G : List Nat} {L : List PK} {x : PK} (h : OnceO w0 w base bn bm bg sv S G L x) (s : OPn) (ho : w'.ownsRow base 54 5 sv' (S.length + 1) (S.flatMap oC ++ oC s)) (hg : w.grownBy w' sv.ownBlock)
    (hid : x.id = S.length + 1) (h1 : (x.fr : Int) = s.fr) (h2 : (x.dst : Int) = s.dst) (h3 : x.b = s.b) (hok : (∃ a c, s.h = .slice a s.b.length c) ∧ Bytes w0 s.h s.b ∧ s.b.length ≤ 4096) : OnceW w0 w' base bn bm bg sv' (S ++ [s]) G (L ++ [x]) := by
  have hl : (S ++ [s]).length = S.length + 1 := by rw [List.length_append]; rfl
  refine ⟨?_, ?_, h.gone.grown hg (own_not_map h.sent h.gone), h.inv.send s x hid h1 h2 h3, fun t ht => ?_, h.ne, ?_, h.lo⟩
  · rw [hl]; exact h.net.grown h.sent (by decide) (by decide) hg
  · rw [hl, List.flatMap_append]
    simpa using ho
  · rcases List.mem_append.1 ht with ht | ht
    · exact h.ok t ht
    · rw [List.mem_singleton] at ht; subst ht; exact hok
  · exact h.ext.grown_none hg fun g hg => Nat.le_trans h.lo.1 (own_base h.sent g hg)
/-- Behind a call that took one, told. -/
theorem OnceW.took {w0 w w1 w2 : World} {base bn bm bg : Nat} {sv : Value} {S : List OPn} {G : List Nat} {L1 L2 : List PK} {x : PK} (h : OnceW w0 w base bn bm bg sv S G (L1 ++ x :: L2)) (hn : NetR w1 base bn bm 4 S.length (L1 ++ L2)) (h2 : Net2 bn bm w w1) (hb : But bg w1 w2) (hm : MapE w2 bg (.int .u64) (eGone (G ++ [x.id]))) : OnceW w0 w2 base bn bm bg sv S (G ++ [x.id]) (L1 ++ L2) := by
  have hs1 : w1.ownsRow base 54 5 sv S.length (S.flatMap oC) := h.net.row h2 h.sent (by decide)
  have hg1 : MapE w1 bg (.int .u64) (eGone G) := h.net.mapE h2 h.gone h.ne
  have hx : (x ∈ L1 ++ x :: L2) := by simp
  have hbn : bn ≠ bg := fun e => by
    have h1 := hn.net
    obtain ⟨es, clock, h3, _⟩ := hg1
    rw [e, h3] at h1; cases h1
  have key : ∀ {v : Value} {b2 e n size : Nat} {xs : List Value}, w1.ownsRow b2 e size v n xs → w2.ownsRow b2 e size v n xs := fun ho =>
    own_keep ho hb.grown fun g hgg e => own_not_map ho hg1 (hgg.trans e.symm)
  refine ⟨⟨(hb.block bn hbn).trans hn.net, hb.map hn.map (Ne.symm h.ne), hn.lo, hn.rise, hn.low, fun y hy => key (hn.own y hy), hn.apart, hn.inn, hn.max⟩, key hs1, hm, h.inv.take h.net.rise (h.net.low x hx).1, h.ok, h.ne, ?_, h.lo⟩
  exact hb.ext (h2.ext h.ext h.low.1 h.low.2) (Nat.le_trans h.lo.1 h.lo.2)
theorem OnceW.notin {w0 w : World} {base bn bm bg : Nat} {sv : Value} {S : List OPn} {G : List Nat} {L1 L2 : List PK} {x : PK} (h : OnceW w0 w base bn bm bg sv S G (L1 ++ x :: L2)) : x.id ∉ G := h.inv.out x (by simp)
/-- The call of a packet's that is on its way. -/
theorem OnceW.of {w0 w : World} {base bn bm bg : Nat} {a : Option Addr} {n c : Nat} {S : List OPn} {G : List Nat} {L : List PK} {x : PK} (h : OnceW w0 w base bn bm bg (.slice a n c) S G L) (hx : x ∈ L) {w' : World} (hr : Row w' 5 (.slice a n c) S.length (S.flatMap oC)) :
    ∃ s B o ah ch, a = some ⟨B, o, none⟩ ∧ x.id - 1 < S.length ∧ s ∈ S ∧ s.h = .slice ah x.b.length ch ∧ Bytes w0 (.slice ah x.b.length ch) x.b ∧ x.b.length ≤ 4096 ∧ s.fr = x.fr ∧ s.dst = x.dst ∧ s.b = x.b ∧
      w'.cell? ⟨B, o + (x.id - 1) * 5, none⟩ = some (.int .i64 s.wh) ∧ w'.cell? ⟨B, o + (x.id - 1) * 5 + 1, none⟩ = some (.int .i64 x.fr) ∧ w'.cell? ⟨B, o + (x.id - 1) * 5 + 2, none⟩ = some (.int .i64 x.dst) ∧ w'.cell? ⟨B, o + (x.id - 1) * 5 + 3, none⟩ = some (.int .u64 s.id) ∧ w'.cell? ⟨B, o + (x.id - 1) * 5 + 4, none⟩ = some (.slice ah x.b.length ch) := by
  obtain ⟨s, hs, h1, h2, h3⟩ := h.inv.frm x hx
  obtain ⟨hl, e⟩ := List.getElem?_eq_some_iff.1 hs
  have hsm := List.mem_of_getElem? hs
  obtain ⟨⟨ah, ch, eh⟩, hb, hlen⟩ := h.ok s hsm
  obtain ⟨B, o, rfl⟩ := Row.base hr (by omega) (by decide)
  have g := fun j hj => flat_get oC 5 oC_len S (x.id - 1) hl j hj
  have k0 := Row.cellAt hr (g 0 (by decide)) (by omega)
  have k1 := Row.cellAt hr (g 1 (by decide)) (by omega)
  have k2 := Row.cellAt hr (g 2 (by decide)) (by omega)
  have k3 := Row.cellAt hr (g 3 (by decide)) (by omega)
  have k4 := Row.cellAt hr (g 4 (by decide)) (by omega)
  rw [e] at k0 k1 k2 k3 k4
  rw [← h3] at eh hb hlen
  rw [eh] at hb
  refine ⟨s, B, o, ah, ch, rfl, hl, hsm, eh, hb, hlen, h1.symm, h2.symm, h3.symm, k0, ?_, ?_, k3, ?_⟩
  · rw [h1]; exact k1
  · rw [h2]; exact k2
  · rw [← eh]; exact k4
end Go.Proofs.Ytlgopjfnknjgjaa
