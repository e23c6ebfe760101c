/- The walk through AdsWants. -/
import Derived.Test.YtabegbelkfhbcaaGreatPk13
import Derived.Test.YtabegbelkfhbcaaGreatPk15
namespace Go.Proofs.YtabegbelkfhbcaaGreat
open Go.RowKit Go.MapKept

theorem AdsR.at {W : World} {a : Option Addr} {n cap : Nat} {us : List KN} (h : AdsR W (.slice a n cap) us) {k : Nat} (hk : k < us.length) :
    ∃ B o ah nh ch, a = some ⟨B, o, none⟩ ∧ us[k].h = .slice ah nh ch ∧ W.cell? ⟨B, o + k * 3, none⟩ = some (.int .i64 us[k].pub) ∧ W.cell? ⟨B, o + k * 3 + 1, none⟩ = some (.int .u64 (us[k].ver : Nat)) ∧ W.cell? ⟨B, o + k * 3 + 2, none⟩ = some (.slice ah nh ch) := by
  obtain ⟨a', c', e, _, _⟩ := Row.shape h.1
  cases e
  have g0 := flat_get adC 3 adC_len us k hk
  have hp : 0 < us.length := by omega
  obtain ⟨B, o, rfl⟩ := Row.base h.1 hp (by decide)
  obtain ⟨ah, ch, hh, _, _⟩ := (h.2 _ (List.getElem_mem hk)).shape
  have at_ : ∀ j u, (adC us[k])[j]? = some u → j < 3 → W.cell? ⟨B, o + k * 3 + j, none⟩ = some u := fun j u hj h5 => by
    have := Row.cellAt h.1 (j := k * 3 + j) (u := u) ((g0 j h5).trans hj) hp
    rwa [← Nat.add_assoc] at this
  exact ⟨B, o, ah, _, ch, rfl, hh, by simpa using at_ 0 _ rfl (by decide), at_ 1 _ rfl (by decide), at_ 2 _ (by rw [← hh]; rfl) (by decide)⟩
theorem say_any {us ks : List KN} (h : us.map sayK = ks.map sayK) (f : List C → Bool) : us.any (fun x => f x.p) = ks.any fun x => f x.p := by
  have e : ∀ l : List KN, l.any (fun x => f x.p) = (l.map sayK).any fun y => f y.2.2 := fun l => by rw [List.any_map]; rfl
  rw [e, e, h]
theorem ris_any {T ks : List KN} {q : KN → Bool} (h : RisK T q ks) (f : List C → Bool) : ks.any (fun x => f x.p) = T.any fun k => q k && f k.p := by
  rw [Bool.eq_iff_iff, List.any_eq_true, List.any_eq_true]
  constructor
  · rintro ⟨x, hx, hf⟩
    exact ⟨x, (h.mem.1 hx).1, by rw [(h.mem.1 hx).2, hf]; rfl⟩
  · rintro ⟨x, hx, hf⟩
    rw [Bool.and_eq_true] at hf
    exact ⟨x, h.mem.2 ⟨hx, hf.1⟩, hf.2⟩
theorem okC_in {c : C} (h : okC c) : inC c := ⟨h.v.n, fun x hx => (h.set x hx).n⟩
theorem ex_match {p q : List C} (h : overlapsF p q = true) (kp : ∀ c ∈ p, okC c) (kq : ∀ c ∈ q, okC c) : matchP p (exampleF p q) = true ∧ matchP q (exampleF p q) = true := by
  have := ex_law h (fun c hc => okC_in (kp c hc)) (fun c hc => okC_in (kq c hc))
  unfold exampleF
  rw [if_pos h]; exact this
theorem match_free (w : World) (v : Value) (p : List C) (va : Value) (l : List (List UInt8 × V)) (hp : PredR w v p) (hl : AttrR w va l) :
    Calls Tryz.prog 20 #[v, .agg #[.string ⟨#[]⟩, va]] w fun e w' => e = .returned (.bool (matchP p l)) ∧ Ext w w' := matches_any w v p [] va l hp hl

set_option maxRecDepth 100000 in
set_option maxHeartbeats 16000000 in
theorem adsWants_walk (W : World) (v0 : Value) (us0 : List OA) (h0 : OAR W v0 us0) (vp : Value) (p : List C) (hp : PredR W vp p) (kp : ∀ c ∈ p, okC c) (key : List UInt8) (va : Value) (l : List (List UInt8 × V)) (hl : AttrR W va l) (kl : ∀ a ∈ l, okA a) (link : Int) :
    Calls Tryz.prog 6 #[v0, vp, .agg #[.string (strOf key), va], .int .i64 link] W fun e W' => e = .returned (.bool true) ∧ Ext W W' := by
  obtain ⟨hxa, hba⟩ := boxes1 W (.cells #[.string (strOf key), va] 58)
  have HTB := Lib.hid (table_any _ v0 us0 (h0.ext hxa))
  obtain ⟨a0, c0', rfl, _, _⟩ := Row.shape h0.row
  obtain ⟨av, cv, rfl, _, _⟩ := Row.shape hl
  obtain ⟨ap, cp, rfl, _, _⟩ := hp.shape
  have HBA := Lib.hid hba
  have HXA := Lib.hid hxa
  have HP := Lib.hid hp
  have HKP := Lib.hid kp
  have HL := Lib.hid hl
  have HKL : Hid (∀ a ∈ l, inN a.2.n) := fun a ha => (kl a ha).v.n
  clear hba hxa hp kp h0 hl kl
  generalize hpl : p.length = pl at *
  generalize hll : l.length = ll at *
  clear hpl hll
  generalize us0.length = ul at *
  go_enter Tryz.func6, Tryz.ntmps6
  go_upto_region 1 with fail
  generalize W.alloc (.cells #[.string (strOf key), .slice av ll cv] 58) = w0 at *
  go_upto_region 2 with (go_at_call 7; (with_reducible refine HTB.out.mono ?_); rintro e w1 ⟨b, bm, T, rfl, ht, hok, hl, hb1, hb2, hx⟩; have HT1 := Lib.hid ht; have HOK := Lib.hid hok; have HLN : Hid (T.length ≤ 1000000) := Nat.le_trans hl (by decide); have HX1 := Lib.hid (HXA.out.trans hx); have HBA1 := Lib.hid (block_later HBA.out hx); clear ht hok hl hb1 hb2 hx HTB HBA HXA)
  go_upto_region 3 with (go_at_call 18; (with_reducible refine (over_any w1 b bm T HT1.out HOK.out.may HLN.out link).mono ?_); rintro e w2 ⟨vo, us, ks, rfl, h1, h2, h3, hx⟩; have HU := Lib.hid h1; have HS := Lib.hid h2; have HR := Lib.hid h3; have HT2 := Lib.hid (HT1.out.ext hx); have HX2 := Lib.hid (HX1.out.trans hx); have HBA2 := Lib.hid (block_later HBA1.out hx); clear h1 h2 h3 hx HT1 HX1 HBA1)
  have hwant : ∀ w', Ext w2 w' → Calls Tryz.prog 16 #[.pointer (some ⟨b, 0, none⟩), .int .i64 link, .slice ap pl cp] w' fun e w3 => e = .returned (.bool (T.any fun k => k.link == link && overlapsF p k.p)) ∧ Ext w' w3 := fun w' hx => wants_any w' b bm T (HT2.out.ext hx) HOK.out.ok HLN.out link _ p (HP.out.ext (HX2.out.trans hx)) HKP.out
  have hsh : us.any (fun x => overlapsF p x.p) = T.any fun k => k.link == link && overlapsF p k.p := (say_any HS.out (overlapsF p)).trans (ris_any HR.out (overlapsF p))
  have huok : ∀ x ∈ us, mayP x.p = true ∧ ∀ c ∈ x.p, okC c := fun x hx => by
    have h1 : sayK x ∈ ks.map sayK := by rw [← HS.out]; exact List.mem_map.2 ⟨x, hx, rfl⟩
    obtain ⟨y, hy, he⟩ := List.mem_map.1 h1
    have hyT := (HR.out.mem.1 hy).1
    have hpp : y.p = x.p := congrArg (fun z => z.2.2) he
    rw [← hpp]
    exact ⟨HOK.out.may y hyT, HOK.out.ok y hyT⟩
  have HUOK := Lib.hid huok
  clear huok HS HR
  generalize (T.any fun k => k.link == link && overlapsF p k.p) = wv at *
  have HW := Lib.hid hwant
  have HSH := Lib.hid hsh
  clear hwant hsh HT2 HOK HLN
  obtain ⟨ao, co, rfl, hcn, hcm⟩ := Row.shape HU.out.1
  unfold maxLen at hcm
  obtain ⟨n, hn⟩ : ∃ n, n = us.length := ⟨_, rfl⟩
  have HN := Lib.hid hn
  rw [← hn] at hcn ⊢ HU
  clear hn
  go_wp2_with fail
  go_loopw [11, 12] (fun s i wr => ∃ k : Nat, k ≤ n ∧ i = .int .i64 k ∧ s = .bool ((us.take k).any fun x => overlapsF p x.p) ∧ Hid (Ext w2 wr)) (fun _ i _ => n - (intOf i).toNat)
  case atStart => exact ⟨0, Nat.zero_le _, rfl, rfl, Ext.refl _⟩
  case round =>
    obtain ⟨k, hk, rfl, rfl, hx⟩ := hrel
    by_cases hlt : k < n
    · have hI : decide ((k : Int) < (n : Int)) = true := decide_eq_true (by omega)
      have hkN : (k : Int) < (n : Int) := by omega
      have hkl : k < us.length := by have := HN.out; omega
      obtain ⟨B, o, aq, nq, cq, rfl, hh, f0, f1, f2⟩ := (HU.out.ext hx.out).at hkl
      have hpq := (HU.out.ext hx.out).2 _ (List.getElem_mem hkl)
      rw [hh] at hpq
      obtain ⟨hmq, hkq⟩ := HUOK.out _ (List.getElem_mem hkl)
      have htk : (us.take (k + 1)).any (fun x => overlapsF p x.p) = ((us.take k).any (fun x => overlapsF p x.p) || overlapsF p us[k].p) := by
        rw [List.take_succ_eq_append_getElem hkl, List.any_append]; simp
      have hin : wv = false → overlapsF p us[k].p = false := fun h => by
        have h1 := HSH.out
        rw [h, List.any_eq_false] at h1
        exact Bool.eq_false_iff.2 (h1 _ (List.getElem_mem hkl))
      generalize us[k] = x at *
      obtain ⟨xl, xp, xv, q, xh⟩ := x
      dsimp only at *
      have HPQ := Lib.hid hpq
      have HMQ := Lib.hid hmq
      have HKQ := Lib.hid hkq
      have HIN := Lib.hid hin
      have HTK := Lib.hid htk
      clear hpq hmq hkq hin htk hh f0 f1
      generalize (us.take k).any (fun x => overlapsF p x.p) = sh at *
      have HPP := Lib.hid (HP.out.ext (HX2.out.trans hx.out))
      have HEX := Lib.hid (example_any wr _ _ p q HPP.out HPQ.out HKP.out HKQ.out)
      have HEM := Lib.hid (fun h => ex_match (p := p) (q := q) h HKP.out HKQ.out)
      have HOV : Hid (mayP p = true → matchP p l = true → matchP q l = true → overlapsF p q = true) := fun h1 h2 h3 => overlaps_of h1 HMQ.out (fun c hc => okC_in (HKP.out c hc)) (fun c hc => okC_in (HKQ.out c hc)) h2 h3 HKL.out
      generalize hov : overlapsF p q = ov at *
      clear hov
      go_upto_region 8 with (go_at_call 19; (with_reducible refine HEX.out.mono ?_); rintro e w3 ⟨ve, rfl, hae, hxe⟩; obtain ⟨ae, ce, rfl, _, _⟩ := Row.shape hae; have HAE := Lib.hid hae; have HX3 := Lib.hid (hx.out.trans hxe); have HX3b := Lib.hid hxe; have g2 := hxe.cell f2; clear hae hxe f2 HEX)
      generalize hle : (exampleF p q).length = le at *
      clear hle
      obtain ⟨hxb, hbb⟩ := boxes1 w3 (.cells #[.string ⟨#[]⟩, .slice ae le ce] 58)
      have x0 := cell_of_row _ _ 0 _ _ _ hbb
      have x1 := cell_of_row _ _ 1 _ _ _ hbb
      have y2 := hxb.cell g2
      have HX4 := Lib.hid (HX3.out.trans hxb)
      have HX4b := Lib.hid (HX3b.out.trans hxb)
      have HAE4 := Lib.hid (AttrR.ext HAE.out hxb)
      have hbe := block_later HBA2.out HX4.out
      have z0 := cell_of_row _ _ 0 _ _ _ hbe
      have z1 := cell_of_row _ _ 1 _ _ _ hbe
      have HXR := Lib.hid hx.out
      clear hxb hbb g2 HX3 HX3b HAE hx hbe
      generalize w3.heap.size = bx at *
      generalize w3.alloc (.cells #[.string ⟨#[]⟩, .slice ae le ce] 58) = w4 at *
      have HLR : Hid (AttrR wr (.slice av ll cv) l) := Row.ext HL.out (HX2.out.trans HXR.out)
      cases ov with
      | false =>
        refine wp_region_facts [Fact.eq (.bool false),
            Fact.eq (.bool false),
            Fact.eq undef,
            Fact.eq undef,
            Fact.eq undef,
            Fact.eq (.bool false),
            Fact.eq (.bool false),
            Fact.eq undef,
            Fact.eq undef,
            Fact.eq undef,
            Fact.eq undef,
            Fact.eq undef,
            Fact.eq undef,
            Fact.eq undef,
            Fact.eq (.bool false)]
          [[], [(0, 36)], [(1, 37)], [(1, 37)], [(2, 38), (3, 39), (1, 37)], [(1, 37), (4, 40)], [(5, 41)], [(6, 42)], [(6, 42)], [(7, 43), (8, 44), (6, 42)], [(9, 45), (6, 42)], [(10, 46), (6, 42)], [(6, 42)], [(11, 47), (12, 48), (6, 42)], [(6, 42), (13, 49)]]
          [(0, 36), (1, 37), (2, 38), (3, 39), (4, 40), (5, 41), (6, 42), (7, 43), (8, 44), (9, 45), (10, 46), (11, 47), (12, 48), (13, 49), (14, 50)] (by kernel_rfl) (by kernel_rfl) ?_ ?_
        · refine ⟨?_, ?_, ?_, ?_, ?_, ?_, ?_, ?_, ?_, ?_, ?_, ?_, ?_, ?_, ?_, trivial⟩
          · intro w1 hx1; change wpList _ _ _ _ _ _; exact ob_move rfl rfl rfl rfl rfl
          · intro w1 hx1; rintro _ rfl; change wpList _ _ _ _ _ _; exact ob_move rfl rfl rfl rfl rfl
          · intro w1 hx1; rintro _ rfl; change wpList _ _ _ _ _ _; exact ob_skip rfl rfl rfl rfl
          · intro w1 hx1; rintro _ rfl; change wpList _ _ _ _ _ _; exact ob_skip rfl rfl rfl rfl
          · intro w1 hx1; rintro _ rfl; rintro _ rfl; rintro _ rfl; change wpList _ _ _ _ _ _; exact ob_skip rfl rfl rfl rfl
          · intro w1 hx1; rintro _ rfl; rintro _ rfl; change wpList _ _ _ _ _ _; exact ob_pick rfl rfl rfl rfl rfl rfl
          · intro w1 hx1; rintro _ rfl; change wpList _ _ _ _ _ _; exact ob_move rfl rfl rfl rfl rfl
          · intro w1 hx1; rintro _ rfl; change wpList _ _ _ _ _ _; exact ob_skip rfl rfl rfl rfl
          · intro w1 hx1; rintro _ rfl; change wpList _ _ _ _ _ _; exact ob_skip rfl rfl rfl rfl
          · intro w1 hx1; rintro _ rfl; rintro _ rfl; rintro _ rfl; change wpList _ _ _ _ _ _; exact ob_skip rfl rfl rfl rfl
          · intro w1 hx1; rintro _ rfl; rintro _ rfl; change wpList _ _ _ _ _ _; exact ob_skip rfl rfl rfl rfl
          · intro w1 hx1; rintro _ rfl; rintro _ rfl; change wpList _ _ _ _ _ _; exact ob_skip rfl rfl rfl rfl
          · intro w1 hx1; rintro _ rfl; change wpList _ _ _ _ _ _; exact ob_skip rfl rfl rfl rfl
          · intro w1 hx1; rintro _ rfl; rintro _ rfl; rintro _ rfl; change wpList _ _ _ _ _ _; exact ob_skip rfl rfl rfl rfl
          · intro w1 hx1; rintro _ rfl; rintro _ rfl; change wpList _ _ _ _ _ _; exact ob_pick rfl rfl rfl rfl rfl rfl
        · intro w1 hx1; rintro _ rfl; rintro _ rfl; rintro _ rfl; rintro _ rfl; rintro _ rfl; rintro _ rfl; rintro _ rfl; rintro _ rfl; rintro _ rfl; rintro _ rfl; rintro _ rfl; rintro _ rfl; rintro _ rfl; rintro _ rfl; rintro _ rfl; refine depsThen_nil ?_; dsimp only; simp only [Act.put, List.setIfInBounds_toArray, List.set_cons_zero, List.set_cons_succ]
          have HX5 := Lib.hid (HX4.out.trans hx1)
          have HX5b := Lib.hid (HX4b.out.trans hx1)
          have y2' := hx1.cell y2
          have z0' := hx1.cell z0
          have z1' := hx1.cell z1
          clear y2 z0 z1 x0 x1 hx1 HX4 HX4b HAE4 HEM
          go_upto_region 10 with fail
          have HMAY := Lib.hid (fun w' (hx : Ext wr w') => pmay_any w' _ p (HPP.out.ext hx))
          have HM1 := Lib.hid (fun w' (hx : Ext wr w') => matches_any w' _ p key _ l (HPP.out.ext hx) (HLR.out.ext hx))
          have HM2 := Lib.hid (fun w' (hx : Ext wr w') => matches_any w' _ q key _ l (HPQ.out.ext hx) (HLR.out.ext hx))
          generalize mayP p = mp at *
          generalize matchP p l = m1 at *
          generalize matchP q l = m2 at *
          cases wv with
          | true =>
            refine wp_region_facts [Fact.eq (.pointer (some ⟨b, 0, none⟩)),
                Fact.eq (.int .i64 link),
                Fact.eq (.slice ap pl cp),
                Fact.eq (.bool true),
                Fact.eq (.bool false),
                Fact.eq (.bool false),
                Fact.eq undef,
                Fact.eq undef,
                Fact.eq (.bool false),
                Fact.eq (.bool false),
                Fact.eq undef,
                Fact.eq undef,
                Fact.eq undef,
                Fact.eq (.bool false),
                Fact.eq (.bool false),
                Fact.eq undef,
                Fact.eq undef,
                Fact.eq undef,
                Fact.eq undef,
                Fact.eq undef,
                Fact.eq undef,
                Fact.eq undef,
                Fact.eq (.bool false)]
              [[], [], [], [(0, 51), (1, 52), (2, 53)], [(3, 54)], [(4, 55)], [(5, 56)], [(6, 57), (5, 56)], [(5, 56), (7, 58)], [(8, 59)], [(9, 60)], [(9, 60)], [(10, 61), (11, 62), (9, 60)], [(9, 60), (12, 63)], [(13, 64)], [(14, 65)], [(14, 65)], [(15, 66), (16, 67), (14, 65)], [(17, 68), (14, 65)], [(18, 69), (14, 65)], [(14, 65)], [(19, 70), (20, 71), (14, 65)], [(14, 65), (21, 72)]]
              [(0, 51), (1, 52), (2, 53), (3, 54), (4, 55), (5, 56), (6, 57), (7, 58), (8, 59), (9, 60), (10, 61), (11, 62), (12, 63), (13, 64), (14, 65), (15, 66), (16, 67), (17, 68), (18, 69), (19, 70), (20, 71), (21, 72), (22, 73)] (by kernel_rfl) (by kernel_rfl) ?_ ?_
            · refine ⟨?_, ?_, ?_, ?_, ?_, ?_, ?_, ?_, ?_, ?_, ?_, ?_, ?_, ?_, ?_, ?_, ?_, ?_, ?_, ?_, ?_, ?_, ?_, trivial⟩
              · intro w1 hx1; change wpList _ _ _ _ _ _; exact ob_move rfl rfl rfl rfl rfl
              · intro w1 hx1; change wpList _ _ _ _ _ _; exact ob_move rfl rfl rfl rfl rfl
              · intro w1 hx1; change wpList _ _ _ _ _ _; exact ob_move rfl rfl rfl rfl rfl
              · intro w1 hx1; rintro _ rfl; rintro _ rfl; rintro _ rfl; change wpList _ _ _ _ _ _; go_wp2_with fail; (with_reducible refine (HW.out _ (HX5.out.trans hx1)).mono ?_); rintro e w7 ⟨rfl, hx2⟩; go_wp2_with fail; exact ⟨rfl, hx2, rfl, rfl⟩
              · intro w1 hx1; rintro _ rfl; change wpList _ _ _ _ _ _; go_wp2_with fail; exact ⟨rfl, Ext.refl _, rfl, rfl⟩
              · intro w1 hx1; rintro _ rfl; change wpList _ _ _ _ _ _; exact ob_move rfl rfl rfl rfl rfl
              · intro w1 hx1; rintro _ rfl; change wpList _ _ _ _ _ _; exact ob_skip rfl rfl rfl rfl
              · intro w1 hx1; rintro _ rfl; rintro _ rfl; change wpList _ _ _ _ _ _; exact ob_skip rfl rfl rfl rfl
              · intro w1 hx1; rintro _ rfl; rintro _ rfl; change wpList _ _ _ _ _ _; exact ob_pick rfl rfl rfl rfl rfl rfl
              · intro w1 hx1; rintro _ rfl; change wpList _ _ _ _ _ _; exact ob_move rfl rfl rfl rfl rfl
              · intro w1 hx1; rintro _ rfl; change wpList _ _ _ _ _ _; exact ob_skip rfl rfl rfl rfl
              · intro w1 hx1; rintro _ rfl; change wpList _ _ _ _ _ _; exact ob_skip rfl rfl rfl rfl
              · intro w1 hx1; rintro _ rfl; rintro _ rfl; rintro _ rfl; change wpList _ _ _ _ _ _; exact ob_skip rfl rfl rfl rfl
              · intro w1 hx1; rintro _ rfl; rintro _ rfl; change wpList _ _ _ _ _ _; exact ob_pick rfl rfl rfl rfl rfl rfl
              · intro w1 hx1; rintro _ rfl; change wpList _ _ _ _ _ _; exact ob_move rfl rfl rfl rfl rfl
              · intro w1 hx1; rintro _ rfl; change wpList _ _ _ _ _ _; exact ob_skip rfl rfl rfl rfl
              · intro w1 hx1; rintro _ rfl; change wpList _ _ _ _ _ _; exact ob_skip rfl rfl rfl rfl
              · intro w1 hx1; rintro _ rfl; rintro _ rfl; rintro _ rfl; change wpList _ _ _ _ _ _; exact ob_skip rfl rfl rfl rfl
              · intro w1 hx1; rintro _ rfl; rintro _ rfl; change wpList _ _ _ _ _ _; exact ob_skip rfl rfl rfl rfl
              · intro w1 hx1; rintro _ rfl; rintro _ rfl; change wpList _ _ _ _ _ _; exact ob_skip rfl rfl rfl rfl
              · intro w1 hx1; rintro _ rfl; change wpList _ _ _ _ _ _; exact ob_skip rfl rfl rfl rfl
              · intro w1 hx1; rintro _ rfl; rintro _ rfl; rintro _ rfl; change wpList _ _ _ _ _ _; exact ob_skip rfl rfl rfl rfl
              · intro w1 hx1; rintro _ rfl; rintro _ rfl; change wpList _ _ _ _ _ _; exact ob_pick rfl rfl rfl rfl rfl rfl
            · intro w1 hx1; rintro _ rfl; rintro _ rfl; rintro _ rfl; rintro _ rfl; rintro _ rfl; rintro _ rfl; rintro _ rfl; rintro _ rfl; rintro _ rfl; rintro _ rfl; rintro _ rfl; rintro _ rfl; rintro _ rfl; rintro _ rfl; rintro _ rfl; rintro _ rfl; rintro _ rfl; rintro _ rfl; rintro _ rfl; rintro _ rfl; rintro _ rfl; rintro _ rfl; rintro _ rfl; refine depsThen_nil ?_; dsimp only; simp only [Act.put, List.setIfInBounds_toArray, List.set_cons_zero, List.set_cons_succ]
              have HX6 := Lib.hid (HX5.out.trans hx1)
              clear y2' z0' z1' hx1
              go_wp2_with fail
              go_roundw
              case rel => exact ⟨k + 1, hlt, by go_num, by rw [HTK.out]; first | rfl | simp, HX6.out⟩
              case measure => simp [intOf]; omega
          | false =>
            cases mp with
            | false =>
              refine wp_region_facts [Fact.eq (.pointer (some ⟨b, 0, none⟩)),
                  Fact.eq (.int .i64 link),
                  Fact.eq (.slice ap pl cp),
                  Fact.eq (.bool false),
                  Fact.eq (.bool true),
                  Fact.eq (.bool true),
                  Fact.eq (.slice ap pl cp),
                  Fact.eq (.bool false),
                  Fact.eq (.bool false),
                  Fact.eq (.bool false),
                  Fact.eq undef,
                  Fact.eq undef,
                  Fact.eq undef,
                  Fact.eq (.bool false),
                  Fact.eq (.bool false),
                  Fact.eq undef,
                  Fact.eq undef,
                  Fact.eq undef,
                  Fact.eq undef,
                  Fact.eq undef,
                  Fact.eq undef,
                  Fact.eq undef,
                  Fact.eq (.bool false)]
                [[], [], [], [(0, 51), (1, 52), (2, 53)], [(3, 54)], [(4, 55)], [(5, 56)], [(6, 57), (5, 56)], [(5, 56), (7, 58)], [(8, 59)], [(9, 60)], [(9, 60)], [(10, 61), (11, 62), (9, 60)], [(9, 60), (12, 63)], [(13, 64)], [(14, 65)], [(14, 65)], [(15, 66), (16, 67), (14, 65)], [(17, 68), (14, 65)], [(18, 69), (14, 65)], [(14, 65)], [(19, 70), (20, 71), (14, 65)], [(14, 65), (21, 72)]]
                [(0, 51), (1, 52), (2, 53), (3, 54), (4, 55), (5, 56), (6, 57), (7, 58), (8, 59), (9, 60), (10, 61), (11, 62), (12, 63), (13, 64), (14, 65), (15, 66), (16, 67), (17, 68), (18, 69), (19, 70), (20, 71), (21, 72), (22, 73)] (by kernel_rfl) (by kernel_rfl) ?_ ?_
              · refine ⟨?_, ?_, ?_, ?_, ?_, ?_, ?_, ?_, ?_, ?_, ?_, ?_, ?_, ?_, ?_, ?_, ?_, ?_, ?_, ?_, ?_, ?_, ?_, trivial⟩
                · intro w1 hx1; change wpList _ _ _ _ _ _; exact ob_move rfl rfl rfl rfl rfl
                · intro w1 hx1; change wpList _ _ _ _ _ _; exact ob_move rfl rfl rfl rfl rfl
                · intro w1 hx1; change wpList _ _ _ _ _ _; exact ob_move rfl rfl rfl rfl rfl
                · intro w1 hx1; rintro _ rfl; rintro _ rfl; rintro _ rfl; change wpList _ _ _ _ _ _; go_wp2_with fail; (with_reducible refine (HW.out _ (HX5.out.trans hx1)).mono ?_); rintro e w7 ⟨rfl, hx2⟩; go_wp2_with fail; exact ⟨rfl, hx2, rfl, rfl⟩
                · intro w1 hx1; rintro _ rfl; change wpList _ _ _ _ _ _; go_wp2_with fail; exact ⟨rfl, Ext.refl _, rfl, rfl⟩
                · intro w1 hx1; rintro _ rfl; change wpList _ _ _ _ _ _; exact ob_move rfl rfl rfl rfl rfl
                · intro w1 hx1; rintro _ rfl; change wpList _ _ _ _ _ _; exact ob_move rfl rfl rfl rfl rfl
                · intro w1 hx1; rintro _ rfl; rintro _ rfl; change wpList _ _ _ _ _ _; go_wp2_with fail; (with_reducible refine (HMAY.out _ (HX5b.out.trans hx1)).mono ?_); rintro e w7 ⟨rfl, hx2⟩; go_wp2_with fail; exact ⟨rfl, hx2, rfl, rfl⟩
                · intro w1 hx1; rintro _ rfl; rintro _ rfl; change wpList _ _ _ _ _ _; exact ob_pick rfl rfl rfl rfl rfl rfl
                · intro w1 hx1; rintro _ rfl; change wpList _ _ _ _ _ _; exact ob_move rfl rfl rfl rfl rfl
                · intro w1 hx1; rintro _ rfl; change wpList _ _ _ _ _ _; exact ob_skip rfl rfl rfl rfl
                · intro w1 hx1; rintro _ rfl; change wpList _ _ _ _ _ _; exact ob_skip rfl rfl rfl rfl
                · intro w1 hx1; rintro _ rfl; rintro _ rfl; rintro _ rfl; change wpList _ _ _ _ _ _; exact ob_skip rfl rfl rfl rfl
                · intro w1 hx1; rintro _ rfl; rintro _ rfl; change wpList _ _ _ _ _ _; exact ob_pick rfl rfl rfl rfl rfl rfl
                · intro w1 hx1; rintro _ rfl; change wpList _ _ _ _ _ _; exact ob_move rfl rfl rfl rfl rfl
                · intro w1 hx1; rintro _ rfl; change wpList _ _ _ _ _ _; exact ob_skip rfl rfl rfl rfl
                · intro w1 hx1; rintro _ rfl; change wpList _ _ _ _ _ _; exact ob_skip rfl rfl rfl rfl
                · intro w1 hx1; rintro _ rfl; rintro _ rfl; rintro _ rfl; change wpList _ _ _ _ _ _; exact ob_skip rfl rfl rfl rfl
                · intro w1 hx1; rintro _ rfl; rintro _ rfl; change wpList _ _ _ _ _ _; exact ob_skip rfl rfl rfl rfl
                · intro w1 hx1; rintro _ rfl; rintro _ rfl; change wpList _ _ _ _ _ _; exact ob_skip rfl rfl rfl rfl
                · intro w1 hx1; rintro _ rfl; change wpList _ _ _ _ _ _; exact ob_skip rfl rfl rfl rfl
                · intro w1 hx1; rintro _ rfl; rintro _ rfl; rintro _ rfl; change wpList _ _ _ _ _ _; exact ob_skip rfl rfl rfl rfl
                · intro w1 hx1; rintro _ rfl; rintro _ rfl; change wpList _ _ _ _ _ _; exact ob_pick rfl rfl rfl rfl rfl rfl
              · intro w1 hx1; rintro _ rfl; rintro _ rfl; rintro _ rfl; rintro _ rfl; rintro _ rfl; rintro _ rfl; rintro _ rfl; rintro _ rfl; rintro _ rfl; rintro _ rfl; rintro _ rfl; rintro _ rfl; rintro _ rfl; rintro _ rfl; rintro _ rfl; rintro _ rfl; rintro _ rfl; rintro _ rfl; rintro _ rfl; rintro _ rfl; rintro _ rfl; rintro _ rfl; rintro _ rfl; refine depsThen_nil ?_; dsimp only; simp only [Act.put, List.setIfInBounds_toArray, List.set_cons_zero, List.set_cons_succ]
                have HX6 := Lib.hid (HX5.out.trans hx1)
                clear y2' z0' z1' hx1
                go_wp2_with fail
                go_roundw
                case rel => exact ⟨k + 1, hlt, by go_num, by rw [HTK.out]; first | rfl | simp, HX6.out⟩
                case measure => simp [intOf]; omega
            | true =>
              cases m1 with
              | false =>
                refine wp_region_facts [Fact.eq (.pointer (some ⟨b, 0, none⟩)),
                    Fact.eq (.int .i64 link),
                    Fact.eq (.slice ap pl cp),
                    Fact.eq (.bool false),
                    Fact.eq (.bool true),
                    Fact.eq (.bool true),
                    Fact.eq (.slice ap pl cp),
                    Fact.eq (.bool true),
                    Fact.eq (.bool true),
                    Fact.eq (.bool true),
                    Fact.eq (.slice ap pl cp),
                    Fact.eq (.agg #[.string (strOf key), .slice av ll cv]),
                    Fact.eq (.bool false),
                    Fact.eq (.bool false),
                    Fact.eq (.bool false),
                    Fact.eq undef,
                    Fact.eq undef,
                    Fact.eq undef,
                    Fact.eq undef,
                    Fact.eq undef,
                    Fact.eq undef,
                    Fact.eq undef,
                    Fact.eq (.bool false)]
                  [[], [], [], [(0, 51), (1, 52), (2, 53)], [(3, 54)], [(4, 55)], [(5, 56)], [(6, 57), (5, 56)], [(5, 56), (7, 58)], [(8, 59)], [(9, 60)], [(9, 60)], [(10, 61), (11, 62), (9, 60)], [(9, 60), (12, 63)], [(13, 64)], [(14, 65)], [(14, 65)], [(15, 66), (16, 67), (14, 65)], [(17, 68), (14, 65)], [(18, 69), (14, 65)], [(14, 65)], [(19, 70), (20, 71), (14, 65)], [(14, 65), (21, 72)]]
                  [(0, 51), (1, 52), (2, 53), (3, 54), (4, 55), (5, 56), (6, 57), (7, 58), (8, 59), (9, 60), (10, 61), (11, 62), (12, 63), (13, 64), (14, 65), (15, 66), (16, 67), (17, 68), (18, 69), (19, 70), (20, 71), (21, 72), (22, 73)] (by kernel_rfl) (by kernel_rfl) ?_ ?_
                · refine ⟨?_, ?_, ?_, ?_, ?_, ?_, ?_, ?_, ?_, ?_, ?_, ?_, ?_, ?_, ?_, ?_, ?_, ?_, ?_, ?_, ?_, ?_, ?_, trivial⟩
                  · intro w1 hx1; change wpList _ _ _ _ _ _; exact ob_move rfl rfl rfl rfl rfl
                  · intro w1 hx1; change wpList _ _ _ _ _ _; exact ob_move rfl rfl rfl rfl rfl
                  · intro w1 hx1; change wpList _ _ _ _ _ _; exact ob_move rfl rfl rfl rfl rfl
                  · intro w1 hx1; rintro _ rfl; rintro _ rfl; rintro _ rfl; change wpList _ _ _ _ _ _; go_wp2_with fail; (with_reducible refine (HW.out _ (HX5.out.trans hx1)).mono ?_); rintro e w7 ⟨rfl, hx2⟩; go_wp2_with fail; exact ⟨rfl, hx2, rfl, rfl⟩
                  · intro w1 hx1; rintro _ rfl; change wpList _ _ _ _ _ _; go_wp2_with fail; exact ⟨rfl, Ext.refl _, rfl, rfl⟩
                  · intro w1 hx1; rintro _ rfl; change wpList _ _ _ _ _ _; exact ob_move rfl rfl rfl rfl rfl
                  · intro w1 hx1; rintro _ rfl; change wpList _ _ _ _ _ _; exact ob_move rfl rfl rfl rfl rfl
                  · intro w1 hx1; rintro _ rfl; rintro _ rfl; change wpList _ _ _ _ _ _; go_wp2_with fail; (with_reducible refine (HMAY.out _ (HX5b.out.trans hx1)).mono ?_); rintro e w7 ⟨rfl, hx2⟩; go_wp2_with fail; exact ⟨rfl, hx2, rfl, rfl⟩
                  · intro w1 hx1; rintro _ rfl; rintro _ rfl; change wpList _ _ _ _ _ _; exact ob_pick rfl rfl rfl rfl rfl rfl
                  · intro w1 hx1; rintro _ rfl; change wpList _ _ _ _ _ _; exact ob_move rfl rfl rfl rfl rfl
                  · intro w1 hx1; rintro _ rfl; change wpList _ _ _ _ _ _; exact ob_move rfl rfl rfl rfl rfl
                  · intro w1 hx1; rintro _ rfl; change wpList _ _ _ _ _ _; have m0 := hx1.cell z0'; have m1 := hx1.cell z1'; go_wp2_with fail; exact ⟨rfl, Ext.refl _, rfl, rfl⟩
                  · intro w1 hx1; rintro _ rfl; rintro _ rfl; rintro _ rfl; change wpList _ _ _ _ _ _; go_wp2_with fail; (with_reducible refine (HM1.out _ (HX5b.out.trans hx1)).mono ?_); rintro e w7 ⟨rfl, hx2⟩; go_wp2_with fail; exact ⟨rfl, hx2, rfl, rfl⟩
                  · intro w1 hx1; rintro _ rfl; rintro _ rfl; change wpList _ _ _ _ _ _; exact ob_pick rfl rfl rfl rfl rfl rfl
                  · intro w1 hx1; rintro _ rfl; change wpList _ _ _ _ _ _; exact ob_move rfl rfl rfl rfl rfl
                  · intro w1 hx1; rintro _ rfl; change wpList _ _ _ _ _ _; exact ob_skip rfl rfl rfl rfl
                  · intro w1 hx1; rintro _ rfl; change wpList _ _ _ _ _ _; exact ob_skip rfl rfl rfl rfl
                  · intro w1 hx1; rintro _ rfl; rintro _ rfl; rintro _ rfl; change wpList _ _ _ _ _ _; exact ob_skip rfl rfl rfl rfl
                  · intro w1 hx1; rintro _ rfl; rintro _ rfl; change wpList _ _ _ _ _ _; exact ob_skip rfl rfl rfl rfl
                  · intro w1 hx1; rintro _ rfl; rintro _ rfl; change wpList _ _ _ _ _ _; exact ob_skip rfl rfl rfl rfl
                  · intro w1 hx1; rintro _ rfl; change wpList _ _ _ _ _ _; exact ob_skip rfl rfl rfl rfl
                  · intro w1 hx1; rintro _ rfl; rintro _ rfl; rintro _ rfl; change wpList _ _ _ _ _ _; exact ob_skip rfl rfl rfl rfl
                  · intro w1 hx1; rintro _ rfl; rintro _ rfl; change wpList _ _ _ _ _ _; exact ob_pick rfl rfl rfl rfl rfl rfl
                · intro w1 hx1; rintro _ rfl; rintro _ rfl; rintro _ rfl; rintro _ rfl; rintro _ rfl; rintro _ rfl; rintro _ rfl; rintro _ rfl; rintro _ rfl; rintro _ rfl; rintro _ rfl; rintro _ rfl; rintro _ rfl; rintro _ rfl; rintro _ rfl; rintro _ rfl; rintro _ rfl; rintro _ rfl; rintro _ rfl; rintro _ rfl; rintro _ rfl; rintro _ rfl; rintro _ rfl; refine depsThen_nil ?_; dsimp only; simp only [Act.put, List.setIfInBounds_toArray, List.set_cons_zero, List.set_cons_succ]
                  have HX6 := Lib.hid (HX5.out.trans hx1)
                  clear y2' z0' z1' hx1
                  go_wp2_with fail
                  go_roundw
                  case rel => exact ⟨k + 1, hlt, by go_num, by rw [HTK.out]; first | rfl | simp, HX6.out⟩
                  case measure => simp [intOf]; omega
              | true =>
                cases m2 with
                | false =>
                  refine wp_region_facts [Fact.eq (.pointer (some ⟨b, 0, none⟩)),
                      Fact.eq (.int .i64 link),
                      Fact.eq (.slice ap pl cp),
                      Fact.eq (.bool false),
                      Fact.eq (.bool true),
                      Fact.eq (.bool true),
                      Fact.eq (.slice ap pl cp),
                      Fact.eq (.bool true),
                      Fact.eq (.bool true),
                      Fact.eq (.bool true),
                      Fact.eq (.slice ap pl cp),
                      Fact.eq (.agg #[.string (strOf key), .slice av ll cv]),
                      Fact.eq (.bool true),
                      Fact.eq (.bool true),
                      Fact.eq (.bool true),
                      Fact.eq (.slice (some ⟨B, o, none⟩) n co),
                      Fact.eq (.int .i64 k),
                      Fact.eq (.pointer (some ⟨B, o + k * 3, none⟩)),
                      Fact.eq (.pointer (some ⟨B, o + k * 3 + 2, none⟩)),
                      Fact.eq (.slice aq nq cq),
                      Fact.eq (.agg #[.string (strOf key), .slice av ll cv]),
                      Fact.eq (.bool false),
                      Fact.eq (.bool false)]
                    [[], [], [], [(0, 51), (1, 52), (2, 53)], [(3, 54)], [(4, 55)], [(5, 56)], [(6, 57), (5, 56)], [(5, 56), (7, 58)], [(8, 59)], [(9, 60)], [(9, 60)], [(10, 61), (11, 62), (9, 60)], [(9, 60), (12, 63)], [(13, 64)], [(14, 65)], [(14, 65)], [(15, 66), (16, 67), (14, 65)], [(17, 68), (14, 65)], [(18, 69), (14, 65)], [(14, 65)], [(19, 70), (20, 71), (14, 65)], [(14, 65), (21, 72)]]
                    [(0, 51), (1, 52), (2, 53), (3, 54), (4, 55), (5, 56), (6, 57), (7, 58), (8, 59), (9, 60), (10, 61), (11, 62), (12, 63), (13, 64), (14, 65), (15, 66), (16, 67), (17, 68), (18, 69), (19, 70), (20, 71), (21, 72), (22, 73)] (by kernel_rfl) (by kernel_rfl) ?_ ?_
                  · refine ⟨?_, ?_, ?_, ?_, ?_, ?_, ?_, ?_, ?_, ?_, ?_, ?_, ?_, ?_, ?_, ?_, ?_, ?_, ?_, ?_, ?_, ?_, ?_, trivial⟩
                    · intro w1 hx1; change wpList _ _ _ _ _ _; exact ob_move rfl rfl rfl rfl rfl
                    · intro w1 hx1; change wpList _ _ _ _ _ _; exact ob_move rfl rfl rfl rfl rfl
                    · intro w1 hx1; change wpList _ _ _ _ _ _; exact ob_move rfl rfl rfl rfl rfl
                    · intro w1 hx1; rintro _ rfl; rintro _ rfl; rintro _ rfl; change wpList _ _ _ _ _ _; go_wp2_with fail; (with_reducible refine (HW.out _ (HX5.out.trans hx1)).mono ?_); rintro e w7 ⟨rfl, hx2⟩; go_wp2_with fail; exact ⟨rfl, hx2, rfl, rfl⟩
                    · intro w1 hx1; rintro _ rfl; change wpList _ _ _ _ _ _; go_wp2_with fail; exact ⟨rfl, Ext.refl _, rfl, rfl⟩
                    · intro w1 hx1; rintro _ rfl; change wpList _ _ _ _ _ _; exact ob_move rfl rfl rfl rfl rfl
                    · intro w1 hx1; rintro _ rfl; change wpList _ _ _ _ _ _; exact ob_move rfl rfl rfl rfl rfl
                    · intro w1 hx1; rintro _ rfl; rintro _ rfl; change wpList _ _ _ _ _ _; go_wp2_with fail; (with_reducible refine (HMAY.out _ (HX5b.out.trans hx1)).mono ?_); rintro e w7 ⟨rfl, hx2⟩; go_wp2_with fail; exact ⟨rfl, hx2, rfl, rfl⟩
                    · intro w1 hx1; rintro _ rfl; rintro _ rfl; change wpList _ _ _ _ _ _; exact ob_pick rfl rfl rfl rfl rfl rfl
                    · intro w1 hx1; rintro _ rfl; change wpList _ _ _ _ _ _; exact ob_move rfl rfl rfl rfl rfl
                    · intro w1 hx1; rintro _ rfl; change wpList _ _ _ _ _ _; exact ob_move rfl rfl rfl rfl rfl
                    · intro w1 hx1; rintro _ rfl; change wpList _ _ _ _ _ _; have m0 := hx1.cell z0'; have m1 := hx1.cell z1'; go_wp2_with fail; exact ⟨rfl, Ext.refl _, rfl, rfl⟩
                    · intro w1 hx1; rintro _ rfl; rintro _ rfl; rintro _ rfl; change wpList _ _ _ _ _ _; go_wp2_with fail; (with_reducible refine (HM1.out _ (HX5b.out.trans hx1)).mono ?_); rintro e w7 ⟨rfl, hx2⟩; go_wp2_with fail; exact ⟨rfl, hx2, rfl, rfl⟩
                    · intro w1 hx1; rintro _ rfl; rintro _ rfl; change wpList _ _ _ _ _ _; exact ob_pick rfl rfl rfl rfl rfl rfl
                    · intro w1 hx1; rintro _ rfl; change wpList _ _ _ _ _ _; exact ob_move rfl rfl rfl rfl rfl
                    · intro w1 hx1; rintro _ rfl; change wpList _ _ _ _ _ _; exact ob_move rfl rfl rfl rfl rfl
                    · intro w1 hx1; rintro _ rfl; change wpList _ _ _ _ _ _; exact ob_move rfl rfl rfl rfl rfl
                    · intro w1 hx1; rintro _ rfl; rintro _ rfl; rintro _ rfl; change wpList _ _ _ _ _ _; go_wp2_with fail; exact ⟨rfl, Ext.refl _, rfl, rfl⟩
                    · intro w1 hx1; rintro _ rfl; rintro _ rfl; change wpList _ _ _ _ _ _; go_wp2_with fail; exact ⟨rfl, Ext.refl _, rfl, rfl⟩
                    · intro w1 hx1; rintro _ rfl; rintro _ rfl; change wpList _ _ _ _ _ _; have m0 := hx1.cell y2'; go_wp2_with fail; exact ⟨rfl, Ext.refl _, rfl, rfl⟩
                    · intro w1 hx1; rintro _ rfl; change wpList _ _ _ _ _ _; have m0 := hx1.cell z0'; have m1 := hx1.cell z1'; go_wp2_with fail; exact ⟨rfl, Ext.refl _, rfl, rfl⟩
                    · intro w1 hx1; rintro _ rfl; rintro _ rfl; rintro _ rfl; change wpList _ _ _ _ _ _; go_wp2_with fail; (with_reducible refine (HM2.out _ (HX5b.out.trans hx1)).mono ?_); rintro e w7 ⟨rfl, hx2⟩; go_wp2_with fail; exact ⟨rfl, hx2, rfl, rfl⟩
                    · intro w1 hx1; rintro _ rfl; rintro _ rfl; change wpList _ _ _ _ _ _; exact ob_pick rfl rfl rfl rfl rfl rfl
                  · intro w1 hx1; rintro _ rfl; rintro _ rfl; rintro _ rfl; rintro _ rfl; rintro _ rfl; rintro _ rfl; rintro _ rfl; rintro _ rfl; rintro _ rfl; rintro _ rfl; rintro _ rfl; rintro _ rfl; rintro _ rfl; rintro _ rfl; rintro _ rfl; rintro _ rfl; rintro _ rfl; rintro _ rfl; rintro _ rfl; rintro _ rfl; rintro _ rfl; rintro _ rfl; rintro _ rfl; refine depsThen_nil ?_; dsimp only; simp only [Act.put, List.setIfInBounds_toArray, List.set_cons_zero, List.set_cons_succ]
                    have HX6 := Lib.hid (HX5.out.trans hx1)
                    clear y2' z0' z1' hx1
                    go_wp2_with fail
                    go_roundw
                    case rel => exact ⟨k + 1, hlt, by go_num, by rw [HTK.out]; first | rfl | simp, HX6.out⟩
                    case measure => simp [intOf]; omega
                | true => exact absurd ((HIN.out rfl).symm.trans (HOV.out rfl rfl rfl)) (by decide)
      | true =>
        refine wp_region_facts [Fact.eq (.bool true),
            Fact.eq (.bool true),
            Fact.eq (.slice ap pl cp),
            Fact.eq (.agg #[.string ⟨#[]⟩, .slice ae le ce]),
            Fact.eq (.bool true),
            Fact.eq (.bool true),
            Fact.eq (.bool true),
            Fact.eq (.slice (some ⟨B, o, none⟩) n co),
            Fact.eq (.int .i64 k),
            Fact.eq (.pointer (some ⟨B, o + k * 3, none⟩)),
            Fact.eq (.pointer (some ⟨B, o + k * 3 + 2, none⟩)),
            Fact.eq (.slice aq nq cq),
            Fact.eq (.agg #[.string ⟨#[]⟩, .slice ae le ce]),
            Fact.eq (.bool true),
            Fact.eq (.bool true)]
          [[], [(0, 36)], [(1, 37)], [(1, 37)], [(2, 38), (3, 39), (1, 37)], [(1, 37), (4, 40)], [(5, 41)], [(6, 42)], [(6, 42)], [(7, 43), (8, 44), (6, 42)], [(9, 45), (6, 42)], [(10, 46), (6, 42)], [(6, 42)], [(11, 47), (12, 48), (6, 42)], [(6, 42), (13, 49)]]
          [(0, 36), (1, 37), (2, 38), (3, 39), (4, 40), (5, 41), (6, 42), (7, 43), (8, 44), (9, 45), (10, 46), (11, 47), (12, 48), (13, 49), (14, 50)] (by kernel_rfl) (by kernel_rfl) ?_ ?_
        · refine ⟨?_, ?_, ?_, ?_, ?_, ?_, ?_, ?_, ?_, ?_, ?_, ?_, ?_, ?_, ?_, trivial⟩
          · intro w1 hx1; change wpList _ _ _ _ _ _; exact ob_move rfl rfl rfl rfl rfl
          · intro w1 hx1; rintro _ rfl; change wpList _ _ _ _ _ _; exact ob_move rfl rfl rfl rfl rfl
          · intro w1 hx1; rintro _ rfl; change wpList _ _ _ _ _ _; exact ob_move rfl rfl rfl rfl rfl
          · intro w1 hx1; rintro _ rfl; change wpList _ _ _ _ _ _; have m0 := hx1.cell x0; have m1 := hx1.cell x1; go_wp2_with fail; exact ⟨rfl, Ext.refl _, rfl, rfl⟩
          · intro w1 hx1; rintro _ rfl; rintro _ rfl; rintro _ rfl; change wpList _ _ _ _ _ _; go_wp2_with fail; (with_reducible refine (match_free w1 _ p _ _ (HPP.out.ext (HX4b.out.trans hx1)) (AttrR.ext HAE4.out hx1)).mono ?_); rw [(HEM.out (by first | rfl | trivial)).1]; rintro e w7 ⟨rfl, hx2⟩; go_wp2_with fail; exact ⟨rfl, hx2, rfl, rfl⟩
          · intro w1 hx1; rintro _ rfl; rintro _ rfl; change wpList _ _ _ _ _ _; exact ob_pick rfl rfl rfl rfl rfl rfl
          · intro w1 hx1; rintro _ rfl; change wpList _ _ _ _ _ _; exact ob_move rfl rfl rfl rfl rfl
          · intro w1 hx1; rintro _ rfl; change wpList _ _ _ _ _ _; exact ob_move rfl rfl rfl rfl rfl
          · intro w1 hx1; rintro _ rfl; change wpList _ _ _ _ _ _; exact ob_move rfl rfl rfl rfl rfl
          · intro w1 hx1; rintro _ rfl; rintro _ rfl; rintro _ rfl; change wpList _ _ _ _ _ _; go_wp2_with fail; exact ⟨rfl, Ext.refl _, rfl, rfl⟩
          · intro w1 hx1; rintro _ rfl; rintro _ rfl; change wpList _ _ _ _ _ _; go_wp2_with fail; exact ⟨rfl, Ext.refl _, rfl, rfl⟩
          · intro w1 hx1; rintro _ rfl; rintro _ rfl; change wpList _ _ _ _ _ _; have m0 := hx1.cell y2; go_wp2_with fail; exact ⟨rfl, Ext.refl _, rfl, rfl⟩
          · intro w1 hx1; rintro _ rfl; change wpList _ _ _ _ _ _; have m0 := hx1.cell x0; have m1 := hx1.cell x1; go_wp2_with fail; exact ⟨rfl, Ext.refl _, rfl, rfl⟩
          · intro w1 hx1; rintro _ rfl; rintro _ rfl; rintro _ rfl; change wpList _ _ _ _ _ _; go_wp2_with fail; (with_reducible refine (match_free w1 _ q _ _ (HPQ.out.ext (HX4b.out.trans hx1)) (AttrR.ext HAE4.out hx1)).mono ?_); rw [(HEM.out (by first | rfl | trivial)).2]; rintro e w7 ⟨rfl, hx2⟩; go_wp2_with fail; exact ⟨rfl, hx2, rfl, rfl⟩
          · intro w1 hx1; rintro _ rfl; rintro _ rfl; change wpList _ _ _ _ _ _; exact ob_pick rfl rfl rfl rfl rfl rfl
        · intro w1 hx1; rintro _ rfl; rintro _ rfl; rintro _ rfl; rintro _ rfl; rintro _ rfl; rintro _ rfl; rintro _ rfl; rintro _ rfl; rintro _ rfl; rintro _ rfl; rintro _ rfl; rintro _ rfl; rintro _ rfl; rintro _ rfl; rintro _ rfl; refine depsThen_nil ?_; dsimp only; simp only [Act.put, List.setIfInBounds_toArray, List.set_cons_zero, List.set_cons_succ]
          have HX5 := Lib.hid (HX4.out.trans hx1)
          have HX5b := Lib.hid (HX4b.out.trans hx1)
          have y2' := hx1.cell y2
          have z0' := hx1.cell z0
          have z1' := hx1.cell z1
          clear y2 z0 z1 x0 x1 hx1 HX4 HX4b HAE4 HEM
          go_upto_region 10 with fail
          have HMAY := Lib.hid (fun w' (hx : Ext wr w') => pmay_any w' _ p (HPP.out.ext hx))
          have HM1 := Lib.hid (fun w' (hx : Ext wr w') => matches_any w' _ p key _ l (HPP.out.ext hx) (HLR.out.ext hx))
          have HM2 := Lib.hid (fun w' (hx : Ext wr w') => matches_any w' _ q key _ l (HPQ.out.ext hx) (HLR.out.ext hx))
          generalize mayP p = mp at *
          generalize matchP p l = m1 at *
          generalize matchP q l = m2 at *
          cases wv with
          | true =>
            refine wp_region_facts [Fact.eq (.pointer (some ⟨b, 0, none⟩)),
                Fact.eq (.int .i64 link),
                Fact.eq (.slice ap pl cp),
                Fact.eq (.bool true),
                Fact.eq (.bool false),
                Fact.eq (.bool false),
                Fact.eq undef,
                Fact.eq undef,
                Fact.eq (.bool false),
                Fact.eq (.bool false),
                Fact.eq undef,
                Fact.eq undef,
                Fact.eq undef,
                Fact.eq (.bool false),
                Fact.eq (.bool false),
                Fact.eq undef,
                Fact.eq undef,
                Fact.eq undef,
                Fact.eq undef,
                Fact.eq undef,
                Fact.eq undef,
                Fact.eq undef,
                Fact.eq (.bool false)]
              [[], [], [], [(0, 51), (1, 52), (2, 53)], [(3, 54)], [(4, 55)], [(5, 56)], [(6, 57), (5, 56)], [(5, 56), (7, 58)], [(8, 59)], [(9, 60)], [(9, 60)], [(10, 61), (11, 62), (9, 60)], [(9, 60), (12, 63)], [(13, 64)], [(14, 65)], [(14, 65)], [(15, 66), (16, 67), (14, 65)], [(17, 68), (14, 65)], [(18, 69), (14, 65)], [(14, 65)], [(19, 70), (20, 71), (14, 65)], [(14, 65), (21, 72)]]
              [(0, 51), (1, 52), (2, 53), (3, 54), (4, 55), (5, 56), (6, 57), (7, 58), (8, 59), (9, 60), (10, 61), (11, 62), (12, 63), (13, 64), (14, 65), (15, 66), (16, 67), (17, 68), (18, 69), (19, 70), (20, 71), (21, 72), (22, 73)] (by kernel_rfl) (by kernel_rfl) ?_ ?_
            · refine ⟨?_, ?_, ?_, ?_, ?_, ?_, ?_, ?_, ?_, ?_, ?_, ?_, ?_, ?_, ?_, ?_, ?_, ?_, ?_, ?_, ?_, ?_, ?_, trivial⟩
              · intro w1 hx1; change wpList _ _ _ _ _ _; exact ob_move rfl rfl rfl rfl rfl
              · intro w1 hx1; change wpList _ _ _ _ _ _; exact ob_move rfl rfl rfl rfl rfl
              · intro w1 hx1; change wpList _ _ _ _ _ _; exact ob_move rfl rfl rfl rfl rfl
              · intro w1 hx1; rintro _ rfl; rintro _ rfl; rintro _ rfl; change wpList _ _ _ _ _ _; go_wp2_with fail; (with_reducible refine (HW.out _ (HX5.out.trans hx1)).mono ?_); rintro e w7 ⟨rfl, hx2⟩; go_wp2_with fail; exact ⟨rfl, hx2, rfl, rfl⟩
              · intro w1 hx1; rintro _ rfl; change wpList _ _ _ _ _ _; go_wp2_with fail; exact ⟨rfl, Ext.refl _, rfl, rfl⟩
              · intro w1 hx1; rintro _ rfl; change wpList _ _ _ _ _ _; exact ob_move rfl rfl rfl rfl rfl
              · intro w1 hx1; rintro _ rfl; change wpList _ _ _ _ _ _; exact ob_skip rfl rfl rfl rfl
              · intro w1 hx1; rintro _ rfl; rintro _ rfl; change wpList _ _ _ _ _ _; exact ob_skip rfl rfl rfl rfl
              · intro w1 hx1; rintro _ rfl; rintro _ rfl; change wpList _ _ _ _ _ _; exact ob_pick rfl rfl rfl rfl rfl rfl
              · intro w1 hx1; rintro _ rfl; change wpList _ _ _ _ _ _; exact ob_move rfl rfl rfl rfl rfl
              · intro w1 hx1; rintro _ rfl; change wpList _ _ _ _ _ _; exact ob_skip rfl rfl rfl rfl
              · intro w1 hx1; rintro _ rfl; change wpList _ _ _ _ _ _; exact ob_skip rfl rfl rfl rfl
              · intro w1 hx1; rintro _ rfl; rintro _ rfl; rintro _ rfl; change wpList _ _ _ _ _ _; exact ob_skip rfl rfl rfl rfl
              · intro w1 hx1; rintro _ rfl; rintro _ rfl; change wpList _ _ _ _ _ _; exact ob_pick rfl rfl rfl rfl rfl rfl
              · intro w1 hx1; rintro _ rfl; change wpList _ _ _ _ _ _; exact ob_move rfl rfl rfl rfl rfl
              · intro w1 hx1; rintro _ rfl; change wpList _ _ _ _ _ _; exact ob_skip rfl rfl rfl rfl
              · intro w1 hx1; rintro _ rfl; change wpList _ _ _ _ _ _; exact ob_skip rfl rfl rfl rfl
              · intro w1 hx1; rintro _ rfl; rintro _ rfl; rintro _ rfl; change wpList _ _ _ _ _ _; exact ob_skip rfl rfl rfl rfl
              · intro w1 hx1; rintro _ rfl; rintro _ rfl; change wpList _ _ _ _ _ _; exact ob_skip rfl rfl rfl rfl
              · intro w1 hx1; rintro _ rfl; rintro _ rfl; change wpList _ _ _ _ _ _; exact ob_skip rfl rfl rfl rfl
              · intro w1 hx1; rintro _ rfl; change wpList _ _ _ _ _ _; exact ob_skip rfl rfl rfl rfl
              · intro w1 hx1; rintro _ rfl; rintro _ rfl; rintro _ rfl; change wpList _ _ _ _ _ _; exact ob_skip rfl rfl rfl rfl
              · intro w1 hx1; rintro _ rfl; rintro _ rfl; change wpList _ _ _ _ _ _; exact ob_pick rfl rfl rfl rfl rfl rfl
            · intro w1 hx1; rintro _ rfl; rintro _ rfl; rintro _ rfl; rintro _ rfl; rintro _ rfl; rintro _ rfl; rintro _ rfl; rintro _ rfl; rintro _ rfl; rintro _ rfl; rintro _ rfl; rintro _ rfl; rintro _ rfl; rintro _ rfl; rintro _ rfl; rintro _ rfl; rintro _ rfl; rintro _ rfl; rintro _ rfl; rintro _ rfl; rintro _ rfl; rintro _ rfl; rintro _ rfl; refine depsThen_nil ?_; dsimp only; simp only [Act.put, List.setIfInBounds_toArray, List.set_cons_zero, List.set_cons_succ]
              have HX6 := Lib.hid (HX5.out.trans hx1)
              clear y2' z0' z1' hx1
              go_wp2_with fail
              go_roundw
              case rel => exact ⟨k + 1, hlt, by go_num, by rw [HTK.out]; first | rfl | simp, HX6.out⟩
              case measure => simp [intOf]; omega
          | false =>
            cases mp with
            | false =>
              refine wp_region_facts [Fact.eq (.pointer (some ⟨b, 0, none⟩)),
                  Fact.eq (.int .i64 link),
                  Fact.eq (.slice ap pl cp),
                  Fact.eq (.bool false),
                  Fact.eq (.bool true),
                  Fact.eq (.bool true),
                  Fact.eq (.slice ap pl cp),
                  Fact.eq (.bool false),
                  Fact.eq (.bool false),
                  Fact.eq (.bool false),
                  Fact.eq undef,
                  Fact.eq undef,
                  Fact.eq undef,
                  Fact.eq (.bool false),
                  Fact.eq (.bool false),
                  Fact.eq undef,
                  Fact.eq undef,
                  Fact.eq undef,
                  Fact.eq undef,
                  Fact.eq undef,
                  Fact.eq undef,
                  Fact.eq undef,
                  Fact.eq (.bool false)]
                [[], [], [], [(0, 51), (1, 52), (2, 53)], [(3, 54)], [(4, 55)], [(5, 56)], [(6, 57), (5, 56)], [(5, 56), (7, 58)], [(8, 59)], [(9, 60)], [(9, 60)], [(10, 61), (11, 62), (9, 60)], [(9, 60), (12, 63)], [(13, 64)], [(14, 65)], [(14, 65)], [(15, 66), (16, 67), (14, 65)], [(17, 68), (14, 65)], [(18, 69), (14, 65)], [(14, 65)], [(19, 70), (20, 71), (14, 65)], [(14, 65), (21, 72)]]
                [(0, 51), (1, 52), (2, 53), (3, 54), (4, 55), (5, 56), (6, 57), (7, 58), (8, 59), (9, 60), (10, 61), (11, 62), (12, 63), (13, 64), (14, 65), (15, 66), (16, 67), (17, 68), (18, 69), (19, 70), (20, 71), (21, 72), (22, 73)] (by kernel_rfl) (by kernel_rfl) ?_ ?_
              · refine ⟨?_, ?_, ?_, ?_, ?_, ?_, ?_, ?_, ?_, ?_, ?_, ?_, ?_, ?_, ?_, ?_, ?_, ?_, ?_, ?_, ?_, ?_, ?_, trivial⟩
                · intro w1 hx1; change wpList _ _ _ _ _ _; exact ob_move rfl rfl rfl rfl rfl
                · intro w1 hx1; change wpList _ _ _ _ _ _; exact ob_move rfl rfl rfl rfl rfl
                · intro w1 hx1; change wpList _ _ _ _ _ _; exact ob_move rfl rfl rfl rfl rfl
                · intro w1 hx1; rintro _ rfl; rintro _ rfl; rintro _ rfl; change wpList _ _ _ _ _ _; go_wp2_with fail; (with_reducible refine (HW.out _ (HX5.out.trans hx1)).mono ?_); rintro e w7 ⟨rfl, hx2⟩; go_wp2_with fail; exact ⟨rfl, hx2, rfl, rfl⟩
                · intro w1 hx1; rintro _ rfl; change wpList _ _ _ _ _ _; go_wp2_with fail; exact ⟨rfl, Ext.refl _, rfl, rfl⟩
                · intro w1 hx1; rintro _ rfl; change wpList _ _ _ _ _ _; exact ob_move rfl rfl rfl rfl rfl
                · intro w1 hx1; rintro _ rfl; change wpList _ _ _ _ _ _; exact ob_move rfl rfl rfl rfl rfl
                · intro w1 hx1; rintro _ rfl; rintro _ rfl; change wpList _ _ _ _ _ _; go_wp2_with fail; (with_reducible refine (HMAY.out _ (HX5b.out.trans hx1)).mono ?_); rintro e w7 ⟨rfl, hx2⟩; go_wp2_with fail; exact ⟨rfl, hx2, rfl, rfl⟩
                · intro w1 hx1; rintro _ rfl; rintro _ rfl; change wpList _ _ _ _ _ _; exact ob_pick rfl rfl rfl rfl rfl rfl
                · intro w1 hx1; rintro _ rfl; change wpList _ _ _ _ _ _; exact ob_move rfl rfl rfl rfl rfl
                · intro w1 hx1; rintro _ rfl; change wpList _ _ _ _ _ _; exact ob_skip rfl rfl rfl rfl
                · intro w1 hx1; rintro _ rfl; change wpList _ _ _ _ _ _; exact ob_skip rfl rfl rfl rfl
                · intro w1 hx1; rintro _ rfl; rintro _ rfl; rintro _ rfl; change wpList _ _ _ _ _ _; exact ob_skip rfl rfl rfl rfl
                · intro w1 hx1; rintro _ rfl; rintro _ rfl; change wpList _ _ _ _ _ _; exact ob_pick rfl rfl rfl rfl rfl rfl
                · intro w1 hx1; rintro _ rfl; change wpList _ _ _ _ _ _; exact ob_move rfl rfl rfl rfl rfl
                · intro w1 hx1; rintro _ rfl; change wpList _ _ _ _ _ _; exact ob_skip rfl rfl rfl rfl
                · intro w1 hx1; rintro _ rfl; change wpList _ _ _ _ _ _; exact ob_skip rfl rfl rfl rfl
                · intro w1 hx1; rintro _ rfl; rintro _ rfl; rintro _ rfl; change wpList _ _ _ _ _ _; exact ob_skip rfl rfl rfl rfl
                · intro w1 hx1; rintro _ rfl; rintro _ rfl; change wpList _ _ _ _ _ _; exact ob_skip rfl rfl rfl rfl
                · intro w1 hx1; rintro _ rfl; rintro _ rfl; change wpList _ _ _ _ _ _; exact ob_skip rfl rfl rfl rfl
                · intro w1 hx1; rintro _ rfl; change wpList _ _ _ _ _ _; exact ob_skip rfl rfl rfl rfl
                · intro w1 hx1; rintro _ rfl; rintro _ rfl; rintro _ rfl; change wpList _ _ _ _ _ _; exact ob_skip rfl rfl rfl rfl
                · intro w1 hx1; rintro _ rfl; rintro _ rfl; change wpList _ _ _ _ _ _; exact ob_pick rfl rfl rfl rfl rfl rfl
              · intro w1 hx1; rintro _ rfl; rintro _ rfl; rintro _ rfl; rintro _ rfl; rintro _ rfl; rintro _ rfl; rintro _ rfl; rintro _ rfl; rintro _ rfl; rintro _ rfl; rintro _ rfl; rintro _ rfl; rintro _ rfl; rintro _ rfl; rintro _ rfl; rintro _ rfl; rintro _ rfl; rintro _ rfl; rintro _ rfl; rintro _ rfl; rintro _ rfl; rintro _ rfl; rintro _ rfl; refine depsThen_nil ?_; dsimp only; simp only [Act.put, List.setIfInBounds_toArray, List.set_cons_zero, List.set_cons_succ]
                have HX6 := Lib.hid (HX5.out.trans hx1)
                clear y2' z0' z1' hx1
                go_wp2_with fail
                go_roundw
                case rel => exact ⟨k + 1, hlt, by go_num, by rw [HTK.out]; first | rfl | simp, HX6.out⟩
                case measure => simp [intOf]; omega
            | true =>
              cases m1 with
              | false =>
                refine wp_region_facts [Fact.eq (.pointer (some ⟨b, 0, none⟩)),
                    Fact.eq (.int .i64 link),
                    Fact.eq (.slice ap pl cp),
                    Fact.eq (.bool false),
                    Fact.eq (.bool true),
                    Fact.eq (.bool true),
                    Fact.eq (.slice ap pl cp),
                    Fact.eq (.bool true),
                    Fact.eq (.bool true),
                    Fact.eq (.bool true),
                    Fact.eq (.slice ap pl cp),
                    Fact.eq (.agg #[.string (strOf key), .slice av ll cv]),
                    Fact.eq (.bool false),
                    Fact.eq (.bool false),
                    Fact.eq (.bool false),
                    Fact.eq undef,
                    Fact.eq undef,
                    Fact.eq undef,
                    Fact.eq undef,
                    Fact.eq undef,
                    Fact.eq undef,
                    Fact.eq undef,
                    Fact.eq (.bool false)]
                  [[], [], [], [(0, 51), (1, 52), (2, 53)], [(3, 54)], [(4, 55)], [(5, 56)], [(6, 57), (5, 56)], [(5, 56), (7, 58)], [(8, 59)], [(9, 60)], [(9, 60)], [(10, 61), (11, 62), (9, 60)], [(9, 60), (12, 63)], [(13, 64)], [(14, 65)], [(14, 65)], [(15, 66), (16, 67), (14, 65)], [(17, 68), (14, 65)], [(18, 69), (14, 65)], [(14, 65)], [(19, 70), (20, 71), (14, 65)], [(14, 65), (21, 72)]]
                  [(0, 51), (1, 52), (2, 53), (3, 54), (4, 55), (5, 56), (6, 57), (7, 58), (8, 59), (9, 60), (10, 61), (11, 62), (12, 63), (13, 64), (14, 65), (15, 66), (16, 67), (17, 68), (18, 69), (19, 70), (20, 71), (21, 72), (22, 73)] (by kernel_rfl) (by kernel_rfl) ?_ ?_
                · refine ⟨?_, ?_, ?_, ?_, ?_, ?_, ?_, ?_, ?_, ?_, ?_, ?_, ?_, ?_, ?_, ?_, ?_, ?_, ?_, ?_, ?_, ?_, ?_, trivial⟩
                  · intro w1 hx1; change wpList _ _ _ _ _ _; exact ob_move rfl rfl rfl rfl rfl
                  · intro w1 hx1; change wpList _ _ _ _ _ _; exact ob_move rfl rfl rfl rfl rfl
                  · intro w1 hx1; change wpList _ _ _ _ _ _; exact ob_move rfl rfl rfl rfl rfl
                  · intro w1 hx1; rintro _ rfl; rintro _ rfl; rintro _ rfl; change wpList _ _ _ _ _ _; go_wp2_with fail; (with_reducible refine (HW.out _ (HX5.out.trans hx1)).mono ?_); rintro e w7 ⟨rfl, hx2⟩; go_wp2_with fail; exact ⟨rfl, hx2, rfl, rfl⟩
                  · intro w1 hx1; rintro _ rfl; change wpList _ _ _ _ _ _; go_wp2_with fail; exact ⟨rfl, Ext.refl _, rfl, rfl⟩
                  · intro w1 hx1; rintro _ rfl; change wpList _ _ _ _ _ _; exact ob_move rfl rfl rfl rfl rfl
                  · intro w1 hx1; rintro _ rfl; change wpList _ _ _ _ _ _; exact ob_move rfl rfl rfl rfl rfl
                  · intro w1 hx1; rintro _ rfl; rintro _ rfl; change wpList _ _ _ _ _ _; go_wp2_with fail; (with_reducible refine (HMAY.out _ (HX5b.out.trans hx1)).mono ?_); rintro e w7 ⟨rfl, hx2⟩; go_wp2_with fail; exact ⟨rfl, hx2, rfl, rfl⟩
                  · intro w1 hx1; rintro _ rfl; rintro _ rfl; change wpList _ _ _ _ _ _; exact ob_pick rfl rfl rfl rfl rfl rfl
                  · intro w1 hx1; rintro _ rfl; change wpList _ _ _ _ _ _; exact ob_move rfl rfl rfl rfl rfl
                  · intro w1 hx1; rintro _ rfl; change wpList _ _ _ _ _ _; exact ob_move rfl rfl rfl rfl rfl
                  · intro w1 hx1; rintro _ rfl; change wpList _ _ _ _ _ _; have m0 := hx1.cell z0'; have m1 := hx1.cell z1'; go_wp2_with fail; exact ⟨rfl, Ext.refl _, rfl, rfl⟩
                  · intro w1 hx1; rintro _ rfl; rintro _ rfl; rintro _ rfl; change wpList _ _ _ _ _ _; go_wp2_with fail; (with_reducible refine (HM1.out _ (HX5b.out.trans hx1)).mono ?_); rintro e w7 ⟨rfl, hx2⟩; go_wp2_with fail; exact ⟨rfl, hx2, rfl, rfl⟩
                  · intro w1 hx1; rintro _ rfl; rintro _ rfl; change wpList _ _ _ _ _ _; exact ob_pick rfl rfl rfl rfl rfl rfl
                  · intro w1 hx1; rintro _ rfl; change wpList _ _ _ _ _ _; exact ob_move rfl rfl rfl rfl rfl
                  · intro w1 hx1; rintro _ rfl; change wpList _ _ _ _ _ _; exact ob_skip rfl rfl rfl rfl
                  · intro w1 hx1; rintro _ rfl; change wpList _ _ _ _ _ _; exact ob_skip rfl rfl rfl rfl
                  · intro w1 hx1; rintro _ rfl; rintro _ rfl; rintro _ rfl; change wpList _ _ _ _ _ _; exact ob_skip rfl rfl rfl rfl
                  · intro w1 hx1; rintro _ rfl; rintro _ rfl; change wpList _ _ _ _ _ _; exact ob_skip rfl rfl rfl rfl
                  · intro w1 hx1; rintro _ rfl; rintro _ rfl; change wpList _ _ _ _ _ _; exact ob_skip rfl rfl rfl rfl
                  · intro w1 hx1; rintro _ rfl; change wpList _ _ _ _ _ _; exact ob_skip rfl rfl rfl rfl
                  · intro w1 hx1; rintro _ rfl; rintro _ rfl; rintro _ rfl; change wpList _ _ _ _ _ _; exact ob_skip rfl rfl rfl rfl
                  · intro w1 hx1; rintro _ rfl; rintro _ rfl; change wpList _ _ _ _ _ _; exact ob_pick rfl rfl rfl rfl rfl rfl
                · intro w1 hx1; rintro _ rfl; rintro _ rfl; rintro _ rfl; rintro _ rfl; rintro _ rfl; rintro _ rfl; rintro _ rfl; rintro _ rfl; rintro _ rfl; rintro _ rfl; rintro _ rfl; rintro _ rfl; rintro _ rfl; rintro _ rfl; rintro _ rfl; rintro _ rfl; rintro _ rfl; rintro _ rfl; rintro _ rfl; rintro _ rfl; rintro _ rfl; rintro _ rfl; rintro _ rfl; refine depsThen_nil ?_; dsimp only; simp only [Act.put, List.setIfInBounds_toArray, List.set_cons_zero, List.set_cons_succ]
                  have HX6 := Lib.hid (HX5.out.trans hx1)
                  clear y2' z0' z1' hx1
                  go_wp2_with fail
                  go_roundw
                  case rel => exact ⟨k + 1, hlt, by go_num, by rw [HTK.out]; first | rfl | simp, HX6.out⟩
                  case measure => simp [intOf]; omega
              | true =>
                cases m2 with
                | false =>
                  refine wp_region_facts [Fact.eq (.pointer (some ⟨b, 0, none⟩)),
                      Fact.eq (.int .i64 link),
                      Fact.eq (.slice ap pl cp),
                      Fact.eq (.bool false),
                      Fact.eq (.bool true),
                      Fact.eq (.bool true),
                      Fact.eq (.slice ap pl cp),
                      Fact.eq (.bool true),
                      Fact.eq (.bool true),
                      Fact.eq (.bool true),
                      Fact.eq (.slice ap pl cp),
                      Fact.eq (.agg #[.string (strOf key), .slice av ll cv]),
                      Fact.eq (.bool true),
                      Fact.eq (.bool true),
                      Fact.eq (.bool true),
                      Fact.eq (.slice (some ⟨B, o, none⟩) n co),
                      Fact.eq (.int .i64 k),
                      Fact.eq (.pointer (some ⟨B, o + k * 3, none⟩)),
                      Fact.eq (.pointer (some ⟨B, o + k * 3 + 2, none⟩)),
                      Fact.eq (.slice aq nq cq),
                      Fact.eq (.agg #[.string (strOf key), .slice av ll cv]),
                      Fact.eq (.bool false),
                      Fact.eq (.bool false)]
                    [[], [], [], [(0, 51), (1, 52), (2, 53)], [(3, 54)], [(4, 55)], [(5, 56)], [(6, 57), (5, 56)], [(5, 56), (7, 58)], [(8, 59)], [(9, 60)], [(9, 60)], [(10, 61), (11, 62), (9, 60)], [(9, 60), (12, 63)], [(13, 64)], [(14, 65)], [(14, 65)], [(15, 66), (16, 67), (14, 65)], [(17, 68), (14, 65)], [(18, 69), (14, 65)], [(14, 65)], [(19, 70), (20, 71), (14, 65)], [(14, 65), (21, 72)]]
                    [(0, 51), (1, 52), (2, 53), (3, 54), (4, 55), (5, 56), (6, 57), (7, 58), (8, 59), (9, 60), (10, 61), (11, 62), (12, 63), (13, 64), (14, 65), (15, 66), (16, 67), (17, 68), (18, 69), (19, 70), (20, 71), (21, 72), (22, 73)] (by kernel_rfl) (by kernel_rfl) ?_ ?_
                  · refine ⟨?_, ?_, ?_, ?_, ?_, ?_, ?_, ?_, ?_, ?_, ?_, ?_, ?_, ?_, ?_, ?_, ?_, ?_, ?_, ?_, ?_, ?_, ?_, trivial⟩
                    · intro w1 hx1; change wpList _ _ _ _ _ _; exact ob_move rfl rfl rfl rfl rfl
                    · intro w1 hx1; change wpList _ _ _ _ _ _; exact ob_move rfl rfl rfl rfl rfl
                    · intro w1 hx1; change wpList _ _ _ _ _ _; exact ob_move rfl rfl rfl rfl rfl
                    · intro w1 hx1; rintro _ rfl; rintro _ rfl; rintro _ rfl; change wpList _ _ _ _ _ _; go_wp2_with fail; (with_reducible refine (HW.out _ (HX5.out.trans hx1)).mono ?_); rintro e w7 ⟨rfl, hx2⟩; go_wp2_with fail; exact ⟨rfl, hx2, rfl, rfl⟩
                    · intro w1 hx1; rintro _ rfl; change wpList _ _ _ _ _ _; go_wp2_with fail; exact ⟨rfl, Ext.refl _, rfl, rfl⟩
                    · intro w1 hx1; rintro _ rfl; change wpList _ _ _ _ _ _; exact ob_move rfl rfl rfl rfl rfl
                    · intro w1 hx1; rintro _ rfl; change wpList _ _ _ _ _ _; exact ob_move rfl rfl rfl rfl rfl
                    · intro w1 hx1; rintro _ rfl; rintro _ rfl; change wpList _ _ _ _ _ _; go_wp2_with fail; (with_reducible refine (HMAY.out _ (HX5b.out.trans hx1)).mono ?_); rintro e w7 ⟨rfl, hx2⟩; go_wp2_with fail; exact ⟨rfl, hx2, rfl, rfl⟩
                    · intro w1 hx1; rintro _ rfl; rintro _ rfl; change wpList _ _ _ _ _ _; exact ob_pick rfl rfl rfl rfl rfl rfl
                    · intro w1 hx1; rintro _ rfl; change wpList _ _ _ _ _ _; exact ob_move rfl rfl rfl rfl rfl
                    · intro w1 hx1; rintro _ rfl; change wpList _ _ _ _ _ _; exact ob_move rfl rfl rfl rfl rfl
                    · intro w1 hx1; rintro _ rfl; change wpList _ _ _ _ _ _; have m0 := hx1.cell z0'; have m1 := hx1.cell z1'; go_wp2_with fail; exact ⟨rfl, Ext.refl _, rfl, rfl⟩
                    · intro w1 hx1; rintro _ rfl; rintro _ rfl; rintro _ rfl; change wpList _ _ _ _ _ _; go_wp2_with fail; (with_reducible refine (HM1.out _ (HX5b.out.trans hx1)).mono ?_); rintro e w7 ⟨rfl, hx2⟩; go_wp2_with fail; exact ⟨rfl, hx2, rfl, rfl⟩
                    · intro w1 hx1; rintro _ rfl; rintro _ rfl; change wpList _ _ _ _ _ _; exact ob_pick rfl rfl rfl rfl rfl rfl
                    · intro w1 hx1; rintro _ rfl; change wpList _ _ _ _ _ _; exact ob_move rfl rfl rfl rfl rfl
                    · intro w1 hx1; rintro _ rfl; change wpList _ _ _ _ _ _; exact ob_move rfl rfl rfl rfl rfl
                    · intro w1 hx1; rintro _ rfl; change wpList _ _ _ _ _ _; exact ob_move rfl rfl rfl rfl rfl
                    · intro w1 hx1; rintro _ rfl; rintro _ rfl; rintro _ rfl; change wpList _ _ _ _ _ _; go_wp2_with fail; exact ⟨rfl, Ext.refl _, rfl, rfl⟩
                    · intro w1 hx1; rintro _ rfl; rintro _ rfl; change wpList _ _ _ _ _ _; go_wp2_with fail; exact ⟨rfl, Ext.refl _, rfl, rfl⟩
                    · intro w1 hx1; rintro _ rfl; rintro _ rfl; change wpList _ _ _ _ _ _; have m0 := hx1.cell y2'; go_wp2_with fail; exact ⟨rfl, Ext.refl _, rfl, rfl⟩
                    · intro w1 hx1; rintro _ rfl; change wpList _ _ _ _ _ _; have m0 := hx1.cell z0'; have m1 := hx1.cell z1'; go_wp2_with fail; exact ⟨rfl, Ext.refl _, rfl, rfl⟩
                    · intro w1 hx1; rintro _ rfl; rintro _ rfl; rintro _ rfl; change wpList _ _ _ _ _ _; go_wp2_with fail; (with_reducible refine (HM2.out _ (HX5b.out.trans hx1)).mono ?_); rintro e w7 ⟨rfl, hx2⟩; go_wp2_with fail; exact ⟨rfl, hx2, rfl, rfl⟩
                    · intro w1 hx1; rintro _ rfl; rintro _ rfl; change wpList _ _ _ _ _ _; exact ob_pick rfl rfl rfl rfl rfl rfl
                  · intro w1 hx1; rintro _ rfl; rintro _ rfl; rintro _ rfl; rintro _ rfl; rintro _ rfl; rintro _ rfl; rintro _ rfl; rintro _ rfl; rintro _ rfl; rintro _ rfl; rintro _ rfl; rintro _ rfl; rintro _ rfl; rintro _ rfl; rintro _ rfl; rintro _ rfl; rintro _ rfl; rintro _ rfl; rintro _ rfl; rintro _ rfl; rintro _ rfl; rintro _ rfl; rintro _ rfl; refine depsThen_nil ?_; dsimp only; simp only [Act.put, List.setIfInBounds_toArray, List.set_cons_zero, List.set_cons_succ]
                    have HX6 := Lib.hid (HX5.out.trans hx1)
                    clear y2' z0' z1' hx1
                    go_wp2_with fail
                    go_roundw
                    case rel => exact ⟨k + 1, hlt, by go_num, by rw [HTK.out]; first | rfl | simp, HX6.out⟩
                    case measure => simp [intOf]; omega
                | true => exact absurd ((HIN.out rfl).symm.trans (HOV.out rfl rfl rfl)) (by decide)
    · obtain rfl : k = n := by omega
      have hI : decide ((k : Int) < (k : Int)) = false := decide_eq_false (by omega)
      have hall : us.take k = us := List.take_of_length_le (by have := HN.out; omega)
      rw [hall, HSH.out]
      have hwv : (wv == wv) = true := beq_self_eq_true _
      go_wp2_with (first
        | (go_at_call 16; (with_reducible refine (HW.out _ hx.out).mono ?_); rintro e w8 ⟨rfl, hx8⟩; have HX8 := Lib.hid (HX2.out.trans (hx.out.trans hx8)); clear hx8)
        | (go_at_call 10; (with_reducible refine (wakes_any _).mono ?_); rintro e w9 ⟨rfl, hx9⟩; have HX9 := Lib.hid (HX8.out.trans hx9); clear hx9))
      go_ret
      exact ⟨rfl, HX9.out⟩
end Go.Proofs.YtabegbelkfhbcaaGreat
