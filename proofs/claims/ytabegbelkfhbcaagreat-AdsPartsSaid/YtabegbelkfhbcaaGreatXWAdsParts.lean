/- The walk through AdsParts. -/
import Derived.Test.YtabegbelkfhbcaaGreatPk13
namespace Go.Proofs.YtabegbelkfhbcaaGreat
open Go.RowKit Go.MapKept

theorem TabR.otherP {w w' : World} {c cm bm : Nat} {T : List KN} (h : TabR w c cm T) (hg : w.grownBy w' (some bm)) (h1 : c ≠ bm) (h2 : cm ≠ bm) (hb : MapAt w bm) : TabR w' c cm T :=
  ⟨(hg.block c (Array.getElem?_eq_some_iff.1 h.box).1 (fun e => h1 (Option.some.inj e))).trans h.box, h.map.grown hg (fun e => h2 (Option.some.inj e).symm), fun k hk => predR_grown (h.preds k hk) hg hb⟩
theorem AdsR.at {W : World} {a : Option Addr} {n cap : Nat} {us : List KN} (h : AdsR W (.slice a n cap) us) {k : Nat} (hk : k < us.length) :
    ∃ B o ah nh ch, a = some ⟨B, o, none⟩ ∧ us[k].h = .slice ah nh ch ∧ W.cell? ⟨B, o + k * 3, none⟩ = some (.int .i64 us[k].pub) ∧ W.cell? ⟨B, o + k * 3 + 1, none⟩ = some (.int .u64 (us[k].ver : Nat)) ∧ W.cell? ⟨B, o + k * 3 + 2, none⟩ = some (.slice ah nh ch) := by
  obtain ⟨a', c', e, _, _⟩ := Row.shape h.1
  cases e
  have g0 := flat_get adC 3 adC_len us k hk
  have hp : 0 < us.length := by omega
  obtain ⟨B, o, rfl⟩ := Row.base h.1 hp (by decide)
  obtain ⟨ah, ch, hh, _, _⟩ := (h.2 _ (List.getElem_mem hk)).shape
  have at_ : ∀ j u, (adC us[k])[j]? = some u → j < 3 → W.cell? ⟨B, o + k * 3 + j, none⟩ = some u := fun j u hj h5 => by
    have := Row.cellAt h.1 (j := k * 3 + j) (u := u) ((g0 j h5).trans hj) hp
    rwa [← Nat.add_assoc] at this
  exact ⟨B, o, ah, _, ch, rfl, hh, by simpa using at_ 0 _ rfl (by decide), at_ 1 _ rfl (by decide), at_ 2 _ (by rw [← hh]; rfl) (by decide)⟩
def cntK (T : List KN) (x : Int) : Nat := (T.filter fun k => decide (k.link < x)).length
theorem cnt_step (T : List KN) (x : Int) : cntK T (x + 1) = cntK T x + (T.filter fun k => k.link == x).length := by
  unfold cntK
  induction T with
  | nil => rfl
  | cons k r ih =>
    simp only [List.filter_cons]
    by_cases h1 : k.link < x
    · have h2 : k.link < x + 1 := by omega
      have h3 : (k.link == x) = false := beq_eq_false_iff_ne.2 (by omega)
      simp only [h1, h2, h3, decide_true, if_true, Bool.false_eq_true, if_false, List.length_cons, ih]
      omega
    · by_cases h2 : k.link = x
      · have h3 : k.link < x + 1 := by omega
        have h4 : (k.link == x) = true := beq_iff_eq.2 h2
        simp only [h1, h3, h4, decide_true, decide_false, if_true, Bool.false_eq_true, if_false, List.length_cons, ih]
        omega
      · have h3 : ¬ k.link < x + 1 := by omega
        have h4 : (k.link == x) = false := beq_eq_false_iff_ne.2 h2
        simp only [h1, h3, h4, decide_false, Bool.false_eq_true, if_false, ih]
theorem cnt_lo {T : List KN} (h : okT T) : cntK T (-1) = 0 := by
  unfold cntK
  rw [List.length_eq_zero_iff, List.filter_eq_nil_iff]
  intro k hk
  have := (h k hk).2.2.1
  simp only [decide_eq_true_eq]; omega
theorem cnt_hi {T : List KN} (h : okT T) : cntK T 64 = T.length := by
  unfold cntK
  rw [List.filter_eq_self.2]
  intro k hk
  exact decide_eq_true (h k hk).2.2.2
theorem cnt_le (T : List KN) (x : Int) : cntK T x ≤ T.length := List.length_filter_le _ _
theorem say_len {us ks : List KN} (h : us.map sayK = ks.map sayK) : us.length = ks.length := by
  have := congrArg List.length h
  rwa [List.length_map, List.length_map] at this
theorem say_get {us ks : List KN} (h : us.map sayK = ks.map sayK) {i : Nat} (hi : i < us.length) : ∃ hk : i < ks.length, us[i].pub = ks[i].pub ∧ us[i].ver = ks[i].ver ∧ us[i].p = ks[i].p := by
  have hk : i < ks.length := by rw [← say_len h]; exact hi
  refine ⟨hk, ?_⟩
  have e : (us.map sayK)[i]? = (ks.map sayK)[i]? := by rw [h]
  rw [List.getElem?_map, List.getElem?_map, List.getElem?_eq_getElem hi, List.getElem?_eq_getElem hk] at e
  simp only [Option.map_some, Option.some.injEq, sayK, Prod.mk.injEq] at e
  exact e
theorem ris_all {T ks : List KN} (h : RisK T (fun _ => true) ks) : ks.length = T.length := by rw [h.len, List.filter_eq_self.2 (fun _ _ => rfl)]
theorem ris_up {T ks : List KN} {q : KN → Bool} (h : RisK T q ks) {i : Nat} (hi : i + 1 < ks.length) : ks[i].pub < ks[i + 1].pub := (List.pairwise_iff_getElem.1 h.2) i (i + 1) (by omega) hi (by omega)
theorem adsR_len {w : World} {v : Value} {us : List KN} (h : AdsR w v us) : ∃ a c, v = .slice a us.length c ∧ us.length ≤ c ∧ c ≤ 9223372036854775807 := by
  obtain ⟨a, c, e, h1, h2⟩ := Row.shape h.1
  exact ⟨a, c, e, h1, h2⟩

set_option maxRecDepth 100000 in
set_option maxHeartbeats 16000000 in
theorem adsParts_walk (W : World) (v0 : Value) (us0 : List OA) (h0 : OAR W v0 us0) (link : Int) :
    Calls Tryz.prog 5 #[v0, .int .i64 link] W fun e W' => e = .returned (.bool true) ∧ Ext W W' := by
  have HTB := Lib.hid (table_any _ v0 us0 h0)
  obtain ⟨a0, c0', rfl, _, _⟩ := Row.shape h0.row
  clear h0
  generalize us0.length = ul at *
  go_enter Tryz.func5, Tryz.ntmps5
  go_upto_region 2 with (go_at_call 7; (with_reducible refine HTB.out.mono ?_); rintro e w1 ⟨b, bm, T, rfl, ht, hok, hl, hb1, hb2, hx⟩; have HT1 := Lib.hid ht; have HOK := Lib.hid hok; have HLN : Hid (T.length ≤ 40) := hl; have HBM := Lib.hid hb2; have HX1 := Lib.hid hx; clear ht hok hl hb1 hb2 hx HTB)
  have HLT : Hid (T.length ≤ 1000000) := Nat.le_trans HLN.out (by decide)
  go_upto_region 3 with (go_at_call 13; (with_reducible refine (tall_any w1 b bm T HT1.out HOK.out.may HLT.out).mono ?_); rintro e w2 ⟨v6, uA, kA, rfl, h1, h2, h3, hx⟩; have HA := Lib.hid h1; have HS := Lib.hid h2; have HR := Lib.hid h3; have HT2 := Lib.hid (HT1.out.ext hx); have HX2 := Lib.hid (HX1.out.trans hx); clear h1 h2 h3 hx HT1 HX1)
  obtain ⟨aA, cA, rfl, hcA, hmA⟩ := adsR_len HA.out
  have hnA : uA.length = T.length := (say_len HS.out).trans (ris_all HR.out)
  obtain ⟨n, hn⟩ : ∃ n, n = uA.length := ⟨_, rfl⟩
  have HN := Lib.hid hn
  have HNT : Hid (n = T.length) := hn.trans hnA
  have hn40 : n ≤ 40 := by have := HNT.out; have := HLN.out; omega
  rw [← hn] at hcA ⊢ HA
  clear hn hnA
  go_wp2_with fail
  go_loopw [7, 8] (fun m i wr => ∃ x : Int, -1 ≤ x ∧ x ≤ 64 ∧ i = .int .i64 x ∧ m = .int .i64 (cntK T x : Nat) ∧ Hid (Ext w2 wr)) (fun _ i _ => (64 - intOf i).toNat)
  case atStart => exact ⟨-1, by decide, by decide, rfl, by rw [cnt_lo HOK.out]; rfl, Ext.refl _⟩
  case round =>
    obtain ⟨x, hx1, hx64, rfl, rfl, hx⟩ := hrel
    by_cases hlt : x < 64
    · have hI : decide (x < 64) = true := decide_eq_true hlt
      have hcs := cnt_step T x
      have hcl := cnt_le T x
      have hcl2 := cnt_le T (x + 1)
      have hL := HLN.out
      go_upto_region 6 with (go_at_call 18; (with_reducible refine (over_any wr b bm T (HT2.out.ext hx.out) HOK.out.may HLT.out x).mono ?_); rintro e w3 ⟨v3, u3, k3, rfl, h1, h2, h3, hx3⟩; obtain ⟨a3, c3, rfl, _, _⟩ := adsR_len h1; have hl3 : u3.length = (T.filter fun k => k.link == x).length := (say_len h2).trans h3.len; have HX3 := Lib.hid (hx.out.trans hx3); clear h1 h2 h3 hx3)
      have hsum : (cntK T x : Int) + ((T.filter fun k => k.link == x).length : Int) = (cntK T (x + 1) : Nat) := by omega
      have HSUM := Lib.hid hsum
      clear hl3 hx
      go_wp2_with fail
      go_roundw
      case rel => exact ⟨x + 1, by omega, by omega, by go_num, by first | rfl | exact congrArg (Value.int .i64) HSUM.out | go_num, HX3.out⟩
      case measure => simp [intOf]; omega
    · obtain rfl : x = 64 := by omega
      rw [cnt_hi HOK.out, ← HNT.out]
      have hI : decide ((64 : Int) < 64) = false := by decide
      have hnn : ((n : Int) == (n : Int)) = true := beq_self_eq_true _
      have hnn2 : ((n : Int) != (n : Int)) = false := by rw [bne, hnn]; rfl
      clear hx1 hx64 hlt
      have HXa := Lib.hid (HX2.out.trans hx.out)
      have HTa := Lib.hid (HT2.out.ext hx.out)
      have HAa := Lib.hid (HA.out.ext hx.out)
      clear HX2 HT2 HA hx hnn
      obtain ⟨wa, hwa⟩ : ∃ x : World, x = wr := ⟨_, rfl⟩
      rw [← hwa] at HXa HTa HAa
      have HWA : Hid (Ext wa wr) := by show Ext _ _; rw [hwa]; exact Ext.refl _
      clear hwa
      go_wp2_with fail
      go_loopw [9] (fun i wr => ∃ k : Nat, k ≤ n ∧ i = .int .i64 k ∧ Hid (Ext wa wr)) (fun i _ => n - (intOf i).toNat)
      case atStart => exact ⟨0, Nat.zero_le _, rfl, HWA.out⟩
      case round =>
        clear HWA
        obtain ⟨k, hk, rfl, hx⟩ := hrel
        by_cases hlt : k < n
        · have hI : decide ((k : Int) < (n : Int)) = true := decide_eq_true (by omega)
          have hkN : (k : Int) < (n : Int) := by omega
          have hkl : k < uA.length := by have := HN.out; omega
          obtain ⟨B, o, ah, nh, ch, rfl, hh, f0, f1, f2⟩ := (HAa.out.ext hx.out).at hkl
          obtain ⟨hkk, e1, e2, e3⟩ := say_get HS.out hkl
          have hkT : kA[k] ∈ T := (HR.out.mem.1 (List.getElem_mem hkk)).1
          have hpx := (HAa.out.ext hx.out).2 _ (List.getElem_mem hkl)
          rw [hh] at hpx
          have hgot := got_some (getF_mem HTa.out.pubs hkT)
          have hlk := HOK.out _ hkT
          have hprev : ∀ j : Nat, k = j + 1 → ∃ pj : Int, wr.cell? ⟨B, o + j * 3, none⟩ = some (.int .i64 pj) ∧ pj < uA[k].pub := fun j hj => by
            have hjl : j < uA.length := by omega
            obtain ⟨B', o', _, _, _, eB, _, g0, _, _⟩ := (HAa.out.ext hx.out).at hjl
            cases eB
            obtain ⟨hjk, d1, _, _⟩ := say_get HS.out hjl
            subst hj
            exact ⟨_, g0, by rw [d1, e1]; exact ris_up HR.out hkk⟩
          rw [← e1] at hgot
          have hby : ∀ w', Ext wr w' → Calls Tryz.prog 8 #[.pointer (some ⟨b, 0, none⟩), .int .i64 uA[k].pub] w' fun e w'' => ∃ h', e = .returned (.tuple #[.int .i64 kA[k].link, .agg #[.int .i64 uA[k].pub, .int .u64 (uA[k].ver : Nat), h'], .bool true]) ∧ PredR w'' h' uA[k].p ∧ Ext w' w'' := fun w' hxw => by
            have h := bypub_any w' b bm T (HTa.out.ext (hx.out.trans hxw)) HOK.out.may uA[k].pub
            rw [hgot.1, hgot.2, ← e1, ← e2, ← e3] at h
            exact h
          have HBY := Lib.hid hby
          have HPX := Lib.hid hpx
          generalize kA[k].link = gl at *
          have q1 : decide (gl < -1) = false := decide_eq_false (by have := hlk.2.2.1; omega)
          have q2 : decide ((64 : Int) ≤ gl) = false := decide_eq_false (by have := hlk.2.2.2; omega)
          clear hby hpx hgot hlk hkT e1 e2 e3 hh hkk
          generalize uA[k] = x at *
          obtain ⟨xl, xp, xv, xq, xh⟩ := x
          dsimp only at *
          go_upto_region 13 with fail
          go_cut [59] from 44 to 59 (fun v59 wx => v59 = .bool false ∧ Ext wr wx)
          case first =>
            cases k with
            | zero =>
              refine wp_region_facts [Fact.eq (.int .i64 ((0 : Nat) : Int)),
                  Fact.eq (.bool false),
                  Fact.eq (.bool false),
                  Fact.eq undef,
                  Fact.eq undef,
                  Fact.eq undef,
                  Fact.eq undef,
                  Fact.eq undef,
                  Fact.eq undef,
                  Fact.eq undef,
                  Fact.eq undef,
                  Fact.eq undef,
                  Fact.eq undef,
                  Fact.eq undef,
                  Fact.eq undef,
                  Fact.eq (.bool false)]
                [[], [(0, 44)], [(1, 45)], [(2, 46)], [(2, 46)], [(4, 48), (2, 46)], [(3, 47), (5, 49), (2, 46)], [(6, 50), (2, 46)], [(7, 51), (2, 46)], [(2, 46)], [(2, 46)], [(9, 53), (10, 54), (2, 46)], [(11, 55), (2, 46)], [(12, 56), (2, 46)], [(8, 52), (13, 57), (2, 46)], [(2, 46), (14, 58)]]
                [(0, 44), (1, 45), (2, 46), (3, 47), (4, 48), (5, 49), (6, 50), (7, 51), (8, 52), (9, 53), (10, 54), (11, 55), (12, 56), (13, 57), (14, 58), (15, 59)] (by kernel_rfl) (by kernel_rfl) ?_ ?_
              · refine ⟨?_, ?_, ?_, ?_, ?_, ?_, ?_, ?_, ?_, ?_, ?_, ?_, ?_, ?_, ?_, ?_, trivial⟩
                · intro w1 hx1; change wpList _ _ _ _ _ _; exact ob_move rfl rfl rfl rfl rfl
                · intro w1 hx1; rintro _ rfl; change wpList _ _ _ _ _ _; go_wp2_with fail; exact ⟨rfl, Ext.refl _, rfl, rfl⟩
                · intro w1 hx1; rintro _ rfl; change wpList _ _ _ _ _ _; exact ob_move rfl rfl rfl rfl rfl
                · intro w1 hx1; rintro _ rfl; change wpList _ _ _ _ _ _; exact ob_skip rfl rfl rfl rfl
                · intro w1 hx1; rintro _ rfl; change wpList _ _ _ _ _ _; exact ob_skip rfl rfl rfl rfl
                · intro w1 hx1; rintro _ rfl; rintro _ rfl; change wpList _ _ _ _ _ _; exact ob_skip rfl rfl rfl rfl
                · intro w1 hx1; rintro _ rfl; rintro _ rfl; rintro _ rfl; change wpList _ _ _ _ _ _; exact ob_skip rfl rfl rfl rfl
                · intro w1 hx1; rintro _ rfl; rintro _ rfl; change wpList _ _ _ _ _ _; exact ob_skip rfl rfl rfl rfl
                · intro w1 hx1; rintro _ rfl; rintro _ rfl; change wpList _ _ _ _ _ _; exact ob_skip rfl rfl rfl rfl
                · intro w1 hx1; rintro _ rfl; change wpList _ _ _ _ _ _; exact ob_skip rfl rfl rfl rfl
                · intro w1 hx1; rintro _ rfl; change wpList _ _ _ _ _ _; exact ob_skip rfl rfl rfl rfl
                · intro w1 hx1; rintro _ rfl; rintro _ rfl; rintro _ rfl; change wpList _ _ _ _ _ _; exact ob_skip rfl rfl rfl rfl
                · intro w1 hx1; rintro _ rfl; rintro _ rfl; change wpList _ _ _ _ _ _; exact ob_skip rfl rfl rfl rfl
                · intro w1 hx1; rintro _ rfl; rintro _ rfl; change wpList _ _ _ _ _ _; exact ob_skip rfl rfl rfl rfl
                · intro w1 hx1; rintro _ rfl; rintro _ rfl; rintro _ rfl; change wpList _ _ _ _ _ _; exact ob_skip rfl rfl rfl rfl
                · intro w1 hx1; rintro _ rfl; rintro _ rfl; change wpList _ _ _ _ _ _; exact ob_pick rfl rfl rfl rfl rfl rfl
              · intro w1 hx1; rintro _ rfl; rintro _ rfl; rintro _ rfl; rintro _ rfl; rintro _ rfl; rintro _ rfl; rintro _ rfl; rintro _ rfl; rintro _ rfl; rintro _ rfl; rintro _ rfl; rintro _ rfl; rintro _ rfl; rintro _ rfl; rintro _ rfl; rintro _ rfl; refine depsThen_nil ?_; dsimp only; simp only [Act.put, List.setIfInBounds_toArray, List.set_cons_zero, List.set_cons_succ]
                go_wp2_with fail
                go_meet
                exact ⟨rfl, hx1⟩
            | succ j =>
              obtain ⟨pj, g0, hpj⟩ := hprev j rfl
              have hJ : ((j + 1 : Nat) : Int) - 1 = (j : Int) := by omega
              have hjN : (j : Int) < (n : Int) := by omega
              have hcm : decide (xp ≤ pj) = false := decide_eq_false (by omega)
              have h0j : decide ((0 : Int) < ((j + 1 : Nat) : Int)) = true := decide_eq_true (by omega)
              refine wp_region_facts [Fact.eq (.int .i64 ((j + 1 : Nat) : Int)),
                  Fact.eq (.bool true),
                  Fact.eq (.bool true),
                  Fact.eq (.slice (some ⟨B, o, none⟩) n cA),
                  Fact.eq (.int .i64 ((j + 1 : Nat) : Int)),
                  Fact.eq (.int .i64 (j : Int)),
                  Fact.eq (.pointer (some ⟨B, o + j * 3, none⟩)),
                  Fact.eq (.pointer (some ⟨B, o + j * 3, none⟩)),
                  Fact.eq (.int .i64 pj),
                  Fact.eq (.slice (some ⟨B, o, none⟩) n cA),
                  Fact.eq (.int .i64 ((j + 1 : Nat) : Int)),
                  Fact.eq (.pointer (some ⟨B, o + (j + 1) * 3, none⟩)),
                  Fact.eq (.pointer (some ⟨B, o + (j + 1) * 3, none⟩)),
                  Fact.eq (.int .i64 xp),
                  Fact.eq (.bool false),
                  Fact.eq (.bool false)]
                [[], [(0, 44)], [(1, 45)], [(2, 46)], [(2, 46)], [(4, 48), (2, 46)], [(3, 47), (5, 49), (2, 46)], [(6, 50), (2, 46)], [(7, 51), (2, 46)], [(2, 46)], [(2, 46)], [(9, 53), (10, 54), (2, 46)], [(11, 55), (2, 46)], [(12, 56), (2, 46)], [(8, 52), (13, 57), (2, 46)], [(2, 46), (14, 58)]]
                [(0, 44), (1, 45), (2, 46), (3, 47), (4, 48), (5, 49), (6, 50), (7, 51), (8, 52), (9, 53), (10, 54), (11, 55), (12, 56), (13, 57), (14, 58), (15, 59)] (by kernel_rfl) (by kernel_rfl) ?_ ?_
              · refine ⟨?_, ?_, ?_, ?_, ?_, ?_, ?_, ?_, ?_, ?_, ?_, ?_, ?_, ?_, ?_, ?_, trivial⟩
                · intro w1 hx1; change wpList _ _ _ _ _ _; exact ob_move rfl rfl rfl rfl rfl
                · intro w1 hx1; rintro _ rfl; change wpList _ _ _ _ _ _; go_wp2_with fail; exact ⟨rfl, Ext.refl _, rfl, rfl⟩
                · intro w1 hx1; rintro _ rfl; change wpList _ _ _ _ _ _; exact ob_move rfl rfl rfl rfl rfl
                · intro w1 hx1; rintro _ rfl; change wpList _ _ _ _ _ _; exact ob_move rfl rfl rfl rfl rfl
                · intro w1 hx1; rintro _ rfl; change wpList _ _ _ _ _ _; exact ob_move rfl rfl rfl rfl rfl
                · intro w1 hx1; rintro _ rfl; rintro _ rfl; change wpList _ _ _ _ _ _; go_wp2_with fail; exact ⟨rfl, Ext.refl _, rfl, rfl⟩
                · intro w1 hx1; rintro _ rfl; rintro _ rfl; rintro _ rfl; change wpList _ _ _ _ _ _; go_wp2_with fail; exact ⟨rfl, Ext.refl _, rfl, rfl⟩
                · intro w1 hx1; rintro _ rfl; rintro _ rfl; change wpList _ _ _ _ _ _; go_wp2_with fail; exact ⟨rfl, Ext.refl _, rfl, rfl⟩
                · intro w1 hx1; rintro _ rfl; rintro _ rfl; change wpList _ _ _ _ _ _; have m := hx1.cell g0; go_wp2_with fail; exact ⟨rfl, Ext.refl _, rfl, rfl⟩
                · intro w1 hx1; rintro _ rfl; change wpList _ _ _ _ _ _; exact ob_move rfl rfl rfl rfl rfl
                · intro w1 hx1; rintro _ rfl; change wpList _ _ _ _ _ _; exact ob_move rfl rfl rfl rfl rfl
                · intro w1 hx1; rintro _ rfl; rintro _ rfl; rintro _ rfl; change wpList _ _ _ _ _ _; go_wp2_with fail; exact ⟨rfl, Ext.refl _, rfl, rfl⟩
                · intro w1 hx1; rintro _ rfl; rintro _ rfl; change wpList _ _ _ _ _ _; go_wp2_with fail; exact ⟨rfl, Ext.refl _, rfl, rfl⟩
                · intro w1 hx1; rintro _ rfl; rintro _ rfl; change wpList _ _ _ _ _ _; have m := hx1.cell f0; go_wp2_with fail; exact ⟨rfl, Ext.refl _, rfl, rfl⟩
                · intro w1 hx1; rintro _ rfl; rintro _ rfl; rintro _ rfl; change wpList _ _ _ _ _ _; go_wp2_with fail; exact ⟨rfl, Ext.refl _, rfl, rfl⟩
                · intro w1 hx1; rintro _ rfl; rintro _ rfl; change wpList _ _ _ _ _ _; exact ob_pick rfl rfl rfl rfl rfl rfl
              · intro w1 hx1; rintro _ rfl; rintro _ rfl; rintro _ rfl; rintro _ rfl; rintro _ rfl; rintro _ rfl; rintro _ rfl; rintro _ rfl; rintro _ rfl; rintro _ rfl; rintro _ rfl; rintro _ rfl; rintro _ rfl; rintro _ rfl; rintro _ rfl; rintro _ rfl; refine depsThen_nil ?_; dsimp only; simp only [Act.put, List.setIfInBounds_toArray, List.set_cons_zero, List.set_cons_succ]
                go_wp2_with fail
                go_meet
                exact ⟨rfl, hx1⟩
          case rest =>
            obtain ⟨rfl, hx1⟩ := hcut
            have HXb := Lib.hid (hx.out.trans hx1)
            have hg0 := hx1.cell f0
            have hg1 := hx1.cell f1
            have hg2 := hx1.cell f2
            have HPb := Lib.hid (HPX.out.ext hx1)
            have HBYb := Lib.hid (HBY.out _ hx1)
            clear hprev HPX HBY hx hx1 f0 f1 f2
            go_upto_region 16 with (go_at_call 8; (with_reducible refine HBYb.out.mono ?_); rintro e w5 ⟨h5, rfl, hr, hx5⟩; obtain ⟨a5, n5, c5, rfl⟩ : ∃ a n c, h5 = .slice a n c := (by obtain ⟨a, c, e, _⟩ := hr.shape; exact ⟨a, _, c, e⟩); have HR5 := Lib.hid hr; have HX5 := Lib.hid (HXb.out.trans hx5); have f0 := hx5.cell hg0; have f1 := hx5.cell hg1; have f2 := hx5.cell hg2; have HP5 := Lib.hid (HPb.out.ext hx5); clear hr hx5 hg0 hg1 hg2 HBYb HXb HPb)
            obtain ⟨hxb, hbb⟩ := boxes1 w5 (.cells #[.int .i64 xp, .int .u64 (xv : Nat), .slice a5 n5 c5] 30)
            have y0 := cell_of_row _ _ 0 _ _ _ hbb
            have y1 := cell_of_row _ _ 1 _ _ _ hbb
            have y2 := cell_of_row _ _ 2 _ _ _ hbb
            have g0 := hxb.cell f0
            have g1 := hxb.cell f1
            have g2 := hxb.cell f2
            have HX6 := Lib.hid (HX5.out.trans hxb)
            have HR6 := Lib.hid (HR5.out.ext hxb)
            have HP6 := Lib.hid (HP5.out.ext hxb)
            clear hxb hbb f0 f1 f2 HX5 HR5 HP5
            generalize w5.heap.size = bx at *
            generalize w5.alloc (.cells #[.int .i64 xp, .int .u64 (xv : Nat), .slice a5 n5 c5] 30) = w6 at *
            refine wp_region_facts [Fact.eq (.bool true),
                Fact.eq (.bool false),
                Fact.eq (.bool false),
                Fact.eq (.agg #[.int .i64 xp, .int .u64 (xv : Nat), .slice a5 n5 c5]),
                Fact.eq (.slice (some ⟨B, o, none⟩) n cA),
                Fact.eq (.int .i64 k),
                Fact.eq (.pointer (some ⟨B, o + k * 3, none⟩)),
                Fact.eq (.agg #[.int .i64 xp, .int .u64 (xv : Nat), .slice ah nh ch]),
                Fact.eq (.bool true),
                Fact.eq (.bool false),
                Fact.eq (.bool false),
                Fact.eq (.bool false),
                Fact.eq (.int .i64 gl),
                Fact.eq (.bool false),
                Fact.eq (.bool false),
                Fact.eq (.bool false),
                Fact.eq (.int .i64 gl),
                Fact.eq (.bool false),
                Fact.eq (.bool false)]
              [[], [(0, 71)], [(1, 72)], [(2, 73)], [(2, 73)], [(2, 73)], [(4, 75), (5, 76), (2, 73)], [(6, 77), (2, 73)], [(3, 74), (7, 78), (2, 73)], [(8, 79), (2, 73)], [(2, 73), (9, 80)], [(10, 81)], [(11, 82)], [(12, 83), (11, 82)], [(11, 82), (13, 84)], [(14, 85)], [(15, 86)], [(16, 87), (15, 86)], [(15, 86), (17, 88)]]
              [(0, 71), (1, 72), (2, 73), (3, 74), (4, 75), (5, 76), (6, 77), (7, 78), (8, 79), (9, 80), (10, 81), (11, 82), (12, 83), (13, 84), (14, 85), (15, 86), (16, 87), (17, 88), (18, 89)] (by kernel_rfl) (by kernel_rfl) ?_ ?_
            · refine ⟨?_, ?_, ?_, ?_, ?_, ?_, ?_, ?_, ?_, ?_, ?_, ?_, ?_, ?_, ?_, ?_, ?_, ?_, ?_, trivial⟩
              · intro w1 hx1; change wpList _ _ _ _ _ _; exact ob_move rfl rfl rfl rfl rfl
              · intro w1 hx1; rintro _ rfl; change wpList _ _ _ _ _ _; go_wp2_with fail; exact ⟨rfl, Ext.refl _, rfl, rfl⟩
              · intro w1 hx1; rintro _ rfl; change wpList _ _ _ _ _ _; exact ob_move rfl rfl rfl rfl rfl
              · intro w1 hx1; rintro _ rfl; change wpList _ _ _ _ _ _; have m0 := hx1.cell y0; have m1 := hx1.cell y1; have m2 := hx1.cell y2; go_wp2_with fail; exact ⟨rfl, Ext.refl _, rfl, rfl⟩
              · intro w1 hx1; rintro _ rfl; change wpList _ _ _ _ _ _; exact ob_move rfl rfl rfl rfl rfl
              · intro w1 hx1; rintro _ rfl; change wpList _ _ _ _ _ _; exact ob_move rfl rfl rfl rfl rfl
              · intro w1 hx1; rintro _ rfl; rintro _ rfl; rintro _ rfl; change wpList _ _ _ _ _ _; go_wp2_with fail; exact ⟨rfl, Ext.refl _, rfl, rfl⟩
              · intro w1 hx1; rintro _ rfl; rintro _ rfl; change wpList _ _ _ _ _ _; have m0 := hx1.cell g0; have m1 := hx1.cell g1; have m2 := hx1.cell g2; go_wp2_with fail; exact ⟨rfl, Ext.refl _, rfl, rfl⟩
              · intro w1 hx1; rintro _ rfl; rintro _ rfl; rintro _ rfl; change wpList _ _ _ _ _ _; go_wp2_with fail; (with_reducible refine (adsame_yes w1 xp xv _ _ xq (HR6.out.ext hx1) (HP6.out.ext hx1)).mono ?_); rintro e w7 ⟨rfl, hx2⟩; go_wp2_with fail; exact ⟨rfl, hx2, rfl, rfl⟩
              · intro w1 hx1; rintro _ rfl; rintro _ rfl; change wpList _ _ _ _ _ _; go_wp2_with fail; exact ⟨rfl, Ext.refl _, rfl, rfl⟩
              · intro w1 hx1; rintro _ rfl; rintro _ rfl; change wpList _ _ _ _ _ _; exact ob_pick rfl rfl rfl rfl rfl rfl
              · intro w1 hx1; rintro _ rfl; change wpList _ _ _ _ _ _; exact ob_move rfl rfl rfl rfl rfl
              · intro w1 hx1; rintro _ rfl; change wpList _ _ _ _ _ _; exact ob_move rfl rfl rfl rfl rfl
              · intro w1 hx1; rintro _ rfl; rintro _ rfl; change wpList _ _ _ _ _ _; go_wp2_with fail; exact ⟨rfl, Ext.refl _, rfl, rfl⟩
              · intro w1 hx1; rintro _ rfl; rintro _ rfl; change wpList _ _ _ _ _ _; exact ob_pick rfl rfl rfl rfl rfl rfl
              · intro w1 hx1; rintro _ rfl; change wpList _ _ _ _ _ _; exact ob_move rfl rfl rfl rfl rfl
              · intro w1 hx1; rintro _ rfl; change wpList _ _ _ _ _ _; exact ob_move rfl rfl rfl rfl rfl
              · intro w1 hx1; rintro _ rfl; rintro _ rfl; change wpList _ _ _ _ _ _; go_wp2_with fail; exact ⟨rfl, Ext.refl _, rfl, rfl⟩
              · intro w1 hx1; rintro _ rfl; rintro _ rfl; change wpList _ _ _ _ _ _; exact ob_pick rfl rfl rfl rfl rfl rfl
            · intro w1 hx1; rintro _ rfl; rintro _ rfl; rintro _ rfl; rintro _ rfl; rintro _ rfl; rintro _ rfl; rintro _ rfl; rintro _ rfl; rintro _ rfl; rintro _ rfl; rintro _ rfl; rintro _ rfl; rintro _ rfl; rintro _ rfl; rintro _ rfl; rintro _ rfl; rintro _ rfl; rintro _ rfl; rintro _ rfl; refine depsThen_nil ?_; dsimp only; simp only [Act.put, List.setIfInBounds_toArray, List.set_cons_zero, List.set_cons_succ]
              have HX7 := Lib.hid (HX6.out.trans hx1)
              clear g0 g1 g2 y0 y1 y2 hx1 HX6 HR6 HP6
              go_wp2_with fail
              go_roundw
              case rel => exact ⟨k + 1, hlt, by go_num, HX7.out⟩
              case measure => simp [intOf]; omega
        · obtain rfl : k = n := by omega
          have hI : decide ((k : Int) < (k : Int)) = false := decide_eq_false (by omega)
          have HXb := Lib.hid (HXa.out.trans hx.out)
          have HTb := Lib.hid (HTa.out.ext hx.out)
          clear HXa HTa HAa hx
          go_upto_region 19 with (go_at_call 12; (with_reducible refine (copy_any _ b bm T HTb.out).mono ?_); rintro e w10 ⟨cb, cm, rfl, hc, hcb, hcm, hxc⟩; have HC10 := Lib.hid hc; have HCM : Hid (cm ≠ bm ∧ cb ≠ bm) := ⟨fun e => by have := HTb.out.map.lt; omega, fun e => by have := HTb.out.map.lt; omega⟩; have HT10 := Lib.hid (HTb.out.ext hxc); have HX10 := Lib.hid (HXb.out.trans hxc); clear hxc hc hcb hcm HTb HXb)
          go_upto_region 20 with (go_at_call 18; (with_reducible refine (over_any w10 b bm T HT10.out HOK.out.may HLT.out link).mono ?_); rintro e w11 ⟨vO, uO, kO, rfl, h1, h2, h3, hx3⟩; have HO := Lib.hid h1; have HSO := Lib.hid h2; have HRO := Lib.hid h3; have HT11 := Lib.hid (HT10.out.ext hx3); have HC11 := Lib.hid (HC10.out.ext hx3); have HX11 := Lib.hid (HX10.out.trans hx3); clear h1 h2 h3 hx3 HT10 HC10 HX10)
          obtain ⟨aO, cO, rfl, hcO, hmO⟩ := adsR_len HO.out
          go_upto_region 21 with (go_at_call 15; (with_reducible refine (forget_any w11 b bm T HT11.out HLT.out link).mono ?_); rintro e w12 ⟨vF, kF, rfl, hr, ho, ht, hg⟩; have HRF := Lib.hid hr; have HF := Lib.hid (pubRow ho); have HT12 := Lib.hid ht; have HX12 := Lib.hid (ext_grown HX11.out hg HBM.out); have HC12 := Lib.hid (HC11.out.otherP hg HCM.out.2 HCM.out.1 HT11.out.map.isMap); have HO12 : Hid (AdsR w12 (.slice aO uO.length cO) uO) := ⟨row_grown HO.out.1 hg HT11.out.map.isMap, fun x hm => predR_grown (HO.out.2 x hm) hg HT11.out.map.isMap⟩; clear hr ho ht hg HT11 HC11 HX11 HO)
          obtain rfl : kF = kO := HRF.out.unique HRO.out (fun _ => Iff.rfl)
          obtain ⟨m, hm⟩ : ∃ m, m = uO.length := ⟨_, rfl⟩
          have HM := Lib.hid hm
          have hmk : m = kF.length := hm.trans (say_len HSO.out)
          have HMK := Lib.hid hmk
          rw [← hm] at HO12 hcO ⊢
          have hpart : (T.filter fun k => k.link == link).length + (T.filter fun k => !(k.link == link)).length = T.length := by
            have := List.length_eq_countP_add_countP (fun k : KN => k.link == link) (l := T)
            rw [List.countP_eq_length_filter, List.countP_eq_length_filter] at this
            have e : (T.filter fun a => decide ¬(a.link == link) = true) = T.filter fun k => !(k.link == link) := List.filter_congr fun x _ => by cases (x.link == link) <;> rfl
            rw [e] at this
            exact this.symm
          have hmle : m ≤ k ∧ (T.filter fun k => !(k.link == link)).length = k - m := by
            have h1 := HRF.out.len
            have h2 := HNT.out
            omega
          obtain ⟨r, hr⟩ : ∃ r : Nat, (k : Int) - (m : Int) = (r : Int) := ⟨k - m, by omega⟩
          have hrl : (T.filter fun k => !(k.link == link)).length = r := by omega
          have hm40 : m ≤ 40 := by omega
          have HRL := Lib.hid hrl
          have HOK' : Hid (okT (T.filter fun k => !(k.link == link))) := fun x hx => HOK.out x (List.mem_filter.1 hx).1
          have HGOT : Hid (∀ i (hi : i < kF.length), getF (T.filter fun k => !(k.link == link)) kF[i].pub = none) := fun i hi => by
            have hkT := HRF.out.mem.1 (List.getElem_mem hi)
            refine getF_no fun y hy e => ?_
            have hy2 := List.mem_filter.1 hy
            have h1 := getF_mem (T := T) (eK_pubs HC12.out.map.keys.2) hkT.1
            have h2 := getF_mem (T := T) (eK_pubs HC12.out.map.keys.2) hy2.1
            rw [e, h1] at h2
            cases h2
            rw [hkT.2] at hy2
            exact absurd hy2.2 (by decide)
          have HLT' : Hid ((T.filter fun k => !(k.link == link)).length ≤ 1000000) := Nat.le_trans (List.length_filter_le _ _) HLT.out
          have HZ : Hid (((T.filter fun k => !(k.link == link)).filter fun k => k.link == link) = []) := List.filter_eq_nil_iff.2 fun x hx => by
            have := (List.mem_filter.1 hx).2
            cases h : (x.link == link) with
            | false => exact Bool.false_ne_true
            | true => rw [h] at this; cases this
          clear hm hpart hmle hrl hmk HRO
          generalize (T.filter fun k => !(k.link == link)) = T' at *
          obtain ⟨aF, cF, rfl, hcF, hmF⟩ := Row.shape HF.out
          unfold maxLen at hmF
          have hFm := HMK.out
          rw [← hFm] at HF hcF ⊢
          clear hFm
          have n1 : ((m : Int) == (m : Int)) = true := beq_self_eq_true _
          have n2 : ((m : Int) != (m : Int)) = false := by rw [bne, n1]; rfl
          have n3 : ((r : Int) == (r : Int)) = true := beq_self_eq_true _
          have n4 : ((r : Int) != (r : Int)) = false := by rw [bne, n3]; rfl
          have n5 : ((k : Int) == (k : Int)) = true := beq_self_eq_true _
          have n6 : ((k : Int) != (k : Int)) = false := by rw [bne, n5]; rfl
          go_upto_region 23 with (first
            | (go_at_call 18; (with_reducible refine (over_any w12 b bm T' HT12.out HOK'.out.may HLT'.out link).mono ?_); rintro e w13 ⟨v13, u13, k13, rfl, h1, h2, h3, hx3⟩; obtain ⟨a13, c13, rfl⟩ : ∃ a c, v13 = .slice a 0 c := (by obtain ⟨a, c, e, _, _⟩ := adsR_len h1; have h4 := (say_len h2).trans h3.len; rw [HZ.out] at h4; exact ⟨a, c, by rw [e, h4]; rfl⟩); have HT13 := Lib.hid (HT12.out.ext hx3); have HX13 := Lib.hid hx3; clear h1 h2 h3 hx3)
            | (go_at_call 13; first
              | ((with_reducible refine (tall_any _ b bm T' HT13.out HOK'.out.may HLT'.out).mono ?_); rintro e w14 ⟨v14, u14, k14, rfl, h1, h2, h3, hx3⟩; obtain ⟨a14, c14, rfl⟩ : ∃ a c, v14 = .slice a r c := (by obtain ⟨a, c, e, _, _⟩ := adsR_len h1; have h4 := (say_len h2).trans (ris_all h3); rw [HRL.out] at h4; exact ⟨a, c, by rw [e, h4]⟩); have HX14 := Lib.hid (HX13.out.trans hx3); clear h1 h2 h3 hx3 HT13 HX13)
              | ((with_reducible refine (tall_any _ cb cm T (HC12.out.ext HX14.out) HOK.out.may HLT.out).mono ?_); rintro e w15 ⟨v15, u15, k15, rfl, h1, h2, h3, hx3⟩; obtain ⟨a15, c15, rfl⟩ : ∃ a c, v15 = .slice a k c := (by obtain ⟨a, c, e, _, _⟩ := adsR_len h1; have h4 := (say_len h2).trans (ris_all h3); rw [← HNT.out] at h4; exact ⟨a, c, by rw [e, h4]⟩); have HX15 := Lib.hid (HX14.out.trans hx3); clear h1 h2 h3 hx3 HX14)))
          clear n1 n2 n3 n4 n5 n6 HC12 HR HS HN HNT hnn2 HRL hr
          go_wp2_with fail
          go_loopw [16] (fun i wr => ∃ j : Nat, j ≤ m ∧ i = .int .i64 j ∧ Hid (Ext w12 wr)) (fun i _ => m - (intOf i).toNat)
          case atStart => exact ⟨0, Nat.zero_le _, rfl, HX15.out⟩
          case round =>
            clear HX15
            obtain ⟨j, hj, rfl, hx⟩ := hrel
            by_cases hjm : j < m
            · have hI3 : decide ((j : Int) < (m : Int)) = true := decide_eq_true (by omega)
              have hjM : (j : Int) < (m : Int) := by omega
              have hjk : j < kF.length := by have := HMK.out; omega
              have hjo : j < uO.length := by have := HM.out; omega
              obtain ⟨B, o, rfl, f0⟩ := Row.cell (Row.ext HF.out hx.out) (j := j) (u := .int .i64 kF[j].pub) (by rw [List.getElem?_map, List.getElem?_eq_getElem hjk]; rfl) (by omega)
              obtain ⟨B2, o2, _, _, _, rfl, _, g0, _, _⟩ := (HO12.out.ext hx.out).at hjo
              obtain ⟨_, e1, _, _⟩ := say_get HSO.out hjo
              rw [e1] at g0
              have hby := bypub_none _ b bm T' (HT12.out.ext hx.out) HOK'.out.may kF[j].pub (HGOT.out j hjk)
              have HBY := Lib.hid hby
              clear hby e1
              generalize kF[j].pub = xp at *
              have z1 : (xp == xp) = true := beq_self_eq_true _
              have z2 : (xp != xp) = false := by rw [bne, z1]; rfl
              go_upto_region 27 with (go_at_call 8; (with_reducible refine HBY.out.mono ?_); rintro e w16 ⟨a16, n16, c16, rfl, _, hx5⟩; have HX16 := Lib.hid (hx.out.trans hx5); have f1 := hx5.cell f0; have g1 := hx5.cell g0; clear hx5 f0 g0 HBY)
              have hxb := (Ext.refl w16).alloc (.cells #[.int .i64 0, .int .u64 0, .slice a16 n16 c16] 30)
              have f2 := hxb.cell f1
              have g2 := hxb.cell g1
              have HX17 := Lib.hid (HX16.out.trans hxb)
              clear hxb f1 g1 HX16 hx
              generalize w16.alloc (.cells #[.int .i64 0, .int .u64 0, .slice a16 n16 c16] 30) = w17 at *
              refine wp_region_facts [Fact.eq (.bool false),
                  Fact.eq (.bool false),
                  Fact.eq (.slice (some ⟨B, o, none⟩) m cF),
                  Fact.eq (.int .i64 j),
                  Fact.eq (.pointer (some ⟨B, o + j, none⟩)),
                  Fact.eq (.int .i64 xp),
                  Fact.eq (.slice (some ⟨B2, o2, none⟩) m cO),
                  Fact.eq (.int .i64 j),
                  Fact.eq (.pointer (some ⟨B2, o2 + j * 3, none⟩)),
                  Fact.eq (.pointer (some ⟨B2, o2 + j * 3, none⟩)),
                  Fact.eq (.int .i64 xp),
                  Fact.eq (.bool false),
                  Fact.eq (.bool false)]
                [[], [(0, 145)], [(1, 146)], [(1, 146)], [(2, 147), (3, 148), (1, 146)], [(4, 149), (1, 146)], [(1, 146)], [(1, 146)], [(6, 151), (7, 152), (1, 146)], [(8, 153), (1, 146)], [(9, 154), (1, 146)], [(5, 150), (10, 155), (1, 146)], [(1, 146), (11, 156)]]
                [(0, 145), (1, 146), (2, 147), (3, 148), (4, 149), (5, 150), (6, 151), (7, 152), (8, 153), (9, 154), (10, 155), (11, 156), (12, 157)] (by kernel_rfl) (by kernel_rfl) ?_ ?_
              · refine ⟨?_, ?_, ?_, ?_, ?_, ?_, ?_, ?_, ?_, ?_, ?_, ?_, ?_, trivial⟩
                · intro w1 hx1; change wpList _ _ _ _ _ _; exact ob_move rfl rfl rfl rfl rfl
                · intro w1 hx1; rintro _ rfl; change wpList _ _ _ _ _ _; exact ob_move rfl rfl rfl rfl rfl
                · intro w1 hx1; rintro _ rfl; change wpList _ _ _ _ _ _; exact ob_move rfl rfl rfl rfl rfl
                · intro w1 hx1; rintro _ rfl; change wpList _ _ _ _ _ _; exact ob_move rfl rfl rfl rfl rfl
                · intro w1 hx1; rintro _ rfl; rintro _ rfl; rintro _ rfl; change wpList _ _ _ _ _ _; go_wp2_with fail; exact ⟨rfl, Ext.refl _, rfl, rfl⟩
                · intro w1 hx1; rintro _ rfl; rintro _ rfl; change wpList _ _ _ _ _ _; have m0 := hx1.cell f2; go_wp2_with fail; exact ⟨rfl, Ext.refl _, rfl, rfl⟩
                · intro w1 hx1; rintro _ rfl; change wpList _ _ _ _ _ _; exact ob_move rfl rfl rfl rfl rfl
                · intro w1 hx1; rintro _ rfl; change wpList _ _ _ _ _ _; exact ob_move rfl rfl rfl rfl rfl
                · intro w1 hx1; rintro _ rfl; rintro _ rfl; rintro _ rfl; change wpList _ _ _ _ _ _; go_wp2_with fail; exact ⟨rfl, Ext.refl _, rfl, rfl⟩
                · intro w1 hx1; rintro _ rfl; rintro _ rfl; change wpList _ _ _ _ _ _; go_wp2_with fail; exact ⟨rfl, Ext.refl _, rfl, rfl⟩
                · intro w1 hx1; rintro _ rfl; rintro _ rfl; change wpList _ _ _ _ _ _; have m0 := hx1.cell g2; go_wp2_with fail; exact ⟨rfl, Ext.refl _, rfl, rfl⟩
                · intro w1 hx1; rintro _ rfl; rintro _ rfl; rintro _ rfl; change wpList _ _ _ _ _ _; go_wp2_with fail; exact ⟨rfl, Ext.refl _, rfl, rfl⟩
                · intro w1 hx1; rintro _ rfl; rintro _ rfl; change wpList _ _ _ _ _ _; exact ob_pick rfl rfl rfl rfl rfl rfl
              · intro w1 hx1; rintro _ rfl; rintro _ rfl; rintro _ rfl; rintro _ rfl; rintro _ rfl; rintro _ rfl; rintro _ rfl; rintro _ rfl; rintro _ rfl; rintro _ rfl; rintro _ rfl; rintro _ rfl; rintro _ rfl; refine depsThen_nil ?_; dsimp only; simp only [Act.put, List.setIfInBounds_toArray, List.set_cons_zero, List.set_cons_succ]
                have HX18 := Lib.hid (HX17.out.trans hx1)
                clear f2 g2 hx1 HX17
                go_wp2_with fail
                go_roundw
                case rel => exact ⟨j + 1, hjm, by go_num, HX18.out⟩
                case measure => simp [intOf]; omega
            · obtain rfl : j = m := by omega
              have hI3 : decide ((j : Int) < (j : Int)) = false := decide_eq_false (by omega)
              have HT19 := Lib.hid (HT12.out.ext hx.out)
              have HX19 := Lib.hid (HX12.out.trans hx.out)
              go_wp2_with (first
                | (go_at_call 15; (with_reducible refine (forget_any _ b bm T' HT19.out HLT'.out link).mono ?_); rintro e w20 ⟨v20, k20, rfl, hr20, ho20, _, hg20⟩; obtain ⟨a20, c20, rfl⟩ : ∃ a c, v20 = .slice a 0 c := (by obtain ⟨a, c, e, _, _⟩ := Row.shape (pubRow ho20); have h4 := hr20.len; rw [HZ.out] at h4; exact ⟨a, c, by rw [e, h4]; rfl⟩); have HX20 := Lib.hid (ext_grown HX19.out hg20 HBM.out); clear hr20 ho20 hg20)
                | (go_at_call 10; (with_reducible refine (wakes_any _).mono ?_); rintro e w21 ⟨rfl, hx21⟩; have HX21 := Lib.hid (HX20.out.trans hx21); clear hx21))
              go_ret
              exact ⟨rfl, HX21.out⟩
end Go.Proofs.YtabegbelkfhbcaaGreat
