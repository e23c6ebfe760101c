/- An index of predicates (08): Remove.
The document's index of predicates (08): Remove, Get.
An index of predicates (08) by what it holds: each call.
The law's small makers N, S, E, A; what literals hold; awake.
The document's index of predicates (08): the same numbers; what the law's examples say.
An index of predicates (08): what the law's examples say. -/
import Derived.Test.YtckigoeomkphhaaGreatPk11
import Derived.Test.YtckigoeomkphhaaGreatPk7
import Derived.Test.YtckigoeomkphhaaGreatPk10
import Derived.Test.YtckigoeomkphhaaGreatPk5
namespace Go.Proofs.YtckigoeomkphhaaGreat
open Go.RowKit Go.MapKept
variable {w w1 w2 w' : World} {base b bp bq : Nat} {S : List PE} {Q : List PQ}

theorem MapE.uniq {w : World} {b : Nat} {d d' : TypeDesc} {E E' : List (Value × Value)} (h : MapE w b d E) (k : MapE w b d' E') : E = E' := by
  obtain ⟨es, c, h1, _, _, rfl⟩ := h
  obtain ⟨es', c', h2, _, _, rfl⟩ := k
  rw [h1] at h2
  cases h2
  rfl
theorem wpList_putRX {P : Program} {ops : Array Oper} {Q : Exit → Act → World → Prop} {a : Act} {w : World} {rest : List Oper} {o : Oper} (hg : o.guard = none) (m x v : Operand) (t : TypeId) (hop : o.op = .mapUpdate t m x v)
    {k e : TypeId} {d : TypeDesc} (ht : P.underlying t = some (.map k e)) (hd : P.underlying k = some d) {r b j : Nat} {E left : List (Value × Value)} {u : Value} (key val : Value) (hm : a.eval m = .map (some b)) (hx : a.eval x = key) (hv : a.eval v = val) (h : RangeE w r b d E left) (hj : E[j]? = some (key, u)) (hn : ∀ p ∈ left, p.1 ≠ key)
    (hK : ∀ w', But b w w' → RangeE w' r b d (E.set j (key, val)) left → wpList P ops Q rest (a.put o.dst undef) w') : wpList P ops Q (o :: rest) a w := by
  subst hx; subst hv
  exact wpList_putR hg m x v t hop ht hd hm h hj hn hK
theorem eS_del {w : World} {bp : Nat} {d : TypeDesc} {S : List PE} {id : Int} (hn : (S.map PE.id).Nodup)
    (h : ((∀ x ∈ eS S, x.1 ≠ Value.int .i64 id) ∧ MapE w bp d (eS S)) ∨ ∃ (j : Nat) (u : Value), (eS S)[j]? = some (Value.int .i64 id, u) ∧ MapE w bp d ((eS S).eraseIdx j)) : MapE w bp d (eS (S.filter fun k => !decide (k.id = id))) := by
  rcases h with ⟨h1, h2⟩ | ⟨j, u, h1, h2⟩
  · have e : (S.filter fun k => !decide (k.id = id)) = S := List.filter_eq_self.2 fun k hk => by
      have : ¬ k.id = id := fun e => h1 _ (List.mem_map.2 ⟨k, hk, rfl⟩) (by rw [e])
      simp [this]
    rw [e]; exact h2
  · obtain ⟨hj, hid, _⟩ := eS_at h1
    have e : ∀ (S : List PE) (j : Nat) (hj : j < S.length), (S.map PE.id).Nodup → S[j].id = id → (S.filter fun k => !decide (k.id = id)) = S.eraseIdx j := by
      intro S
      induction S with
      | nil => intro j hj; cases hj
      | cons x r ih =>
        intro j hj hn hid
        have hn := List.nodup_cons.1 hn
        cases j with
        | zero =>
          have hx : x.id = id := hid
          rw [List.filter_cons_of_neg (by simpa using hx), List.eraseIdx_cons_zero]
          refine List.filter_eq_self.2 fun k hk => ?_
          have : ¬ k.id = id := fun e => hn.1 (by rw [hx, ← e]; exact List.mem_map.2 ⟨k, hk, rfl⟩)
          simp [this]
        | succ j =>
          have hj2 : j < r.length := by simpa using hj
          have hx : ¬ x.id = id := fun e => hn.1 (by rw [e, ← hid]; exact List.mem_map.2 ⟨r[j], List.getElem_mem hj2, rfl⟩)
          rw [List.filter_cons_of_pos (by simpa using hx), List.eraseIdx_cons_succ, ih j hj2 hn.2 hid]
    rw [e S j hj hn hid]
    unfold eS at h2 ⊢
    rw [map_eraseIdx']; exact h2
theorem sS_del (S : List PE) (id : Int) : sS (S.filter fun k => !decide (k.id = id)) = delS (sS S) id := by
  unfold sS delS
  exact (List.filter_map (f := fun k : PE => (k.id, k.p)) (p := fun k : Int × List C => !decide (k.1 = id)) (l := S)).symm
theorem filter_pcK (l : List PC) (id : Int) : (l.filter fun x => !(x.id == id)).map pcK = (l.map pcK).filter fun x => !decide (x.1 = id) := by
  rw [List.filter_map]
  refine congrArg (List.map pcK) (List.filter_congr fun x _ => ?_)
  show (!(x.id == id)) = !decide (x.id = id)
  cases h : (x.id == id) with
  | true => rw [decide_eq_true (beq_iff_eq.1 h)]
  | false => rw [decide_eq_false (beq_eq_false_iff_ne.1 h)]
/-- What Remove leaves. -/
def DelR (w w' : World) (base b bp bq : Nat) (S : List PE) (id : Int) : Prop := ∃ S' Q', IdxR w' base b bp bq S' Q' ∧ sS S' = delS (sS S) id ∧ TurnX base bp bq w w'
def inK (left : List (Value × Value)) (nm : List UInt8) : Prop := ∃ v, (Value.string (strOf nm), v) ∈ left
/-- What Remove's range keeps: left, the names that are still to come. -/
structure RemI (w5 wr : World) (base bq r : Nat) (Q : List PQ) (id : Int) (Q1 : List PQ) (left : List (Value × Value)) : Prop where
  rng : RangeE wr r bq .string (eQ Q1) left
  parts : PartsR wr base bq Q1
  todo : ∀ nm, inK left nm → lookQ Q1 nm = lookQ Q nm
  done : ∀ nm, ¬ inK left nm → lookQ Q1 nm = (lookQ Q nm).filter fun x => !(x.id == id)
  turn : TurnT (fun q => q = bq) 77 base w5 wr
theorem mem_name {left : List (Value × Value)} {E : List PQ} (hs : left.Sublist (eQ E)) {k v : Value} (h : (k, v) ∈ left) : ∃ q ∈ E, k = .string (strOf q.nm) ∧ v = q.v := by
  obtain ⟨q, hq, e⟩ := List.mem_map.1 (hs.subset h)
  exact ⟨q, hq, (congrArg Prod.fst e).symm, (congrArg Prod.snd e).symm⟩
theorem SetO.kept {b base n : Nat} {w w' : World} {x : CS} {v : Value} {xs : List Value} (h : SetO b w x) (hv : w.ownsRow base 77 8 v n xs) (hg : w.grownBy w' v.ownBlock) : SetO b w' x := own_keep h hg (own_apart hv h (by decide))

set_option maxRecDepth 100000 in
set_option maxHeartbeats 16000000 in
theorem remove_any (w : World) (base b bp bq : Nat) (S : List PE) (Q : List PQ) (hi : IdxR w base b bp bq S Q) (hbase : base ≤ w.heap.size) (hpq : bp ≠ bq) (h6 : ∀ k ∈ S, k.p.length ≤ 6) (h256 : S.length ≤ 256) (id : Int) :
    Calls Tryz.prog 9 #[.pointer (some ⟨b, 0, none⟩), .int .i64 id] w fun e w' => e = .returned (.int .i64 (delE (sS S) id)) ∧ DelR w w' base b bp bq S id := by
  obtain ⟨hx0, hb3⟩ := boxes1 w (.cells #[.int .i64 id] 3)
  have hi0 := hi.ext hx0
  have tb0 := cell_of_row _ _ 0 _ _ _ hi0.box
  have i0 := cell_of_row _ _ 0 _ _ _ hb3
  have HLK : Hid (∀ W, Ext (w.alloc (.cells #[.int .i64 id] 3)) W → (Instr.lookup 69 (.map (some bp)) (.int .i64 id) true).run Tryz.prog W = .ok (.tuple #[valS S id, .bool (hasS (sS S) id)]) W) := fun W hW => (mp_look (hi0.ext hW).mp id).1
  obtain ⟨va, vc, hve, _, _⟩ := (hi.val id).pred.shape
  rw [hve] at HLK
  have HI := Lib.hid hi
  have HI0 := Lib.hid hi0
  have HX0 := Lib.hid hx0
  have HB3 := Lib.hid hb3
  have H6 := Lib.hid h6
  have H256 : Hid (S.length ≤ 256) := h256
  have hbx : w.heap.size < (w.alloc (.cells #[.int .i64 id] 3)).heap.size := by rw [World.size_alloc]; exact Nat.lt_succ_self _
  have HBX := Lib.hid hbx
  obtain ⟨pl, hpl⟩ : ∃ pl, pl = (predS S id).length := ⟨_, rfl⟩
  rw [← hpl] at HLK
  have hq := eqmap_nil
  clear hi hi0 hx0 hb3 h6 h256 hve hpl hbx
  go_enter Tryz.func9, Tryz.ntmps9
  go_upto_region 3 with fail
  generalize hw0 : w.alloc (.cells #[.int .i64 id] 3) = w0 at *
  obtain ⟨bi, hbi⟩ : ∃ bi, bi = w.heap.size := ⟨_, rfl⟩
  rw [← hbi] at i0 HB3 HBX ⊢
  have HBI := Lib.hid hbi
  clear hbi hw0 hq
  refine wp_region_facts [Fact.eq (.pointer (some ⟨b, 0, none⟩)),
      Fact.eq (.pointer (some ⟨b, 0, none⟩)),
      Fact.eq (.pointer (some ⟨b, 0, none⟩)),
      Fact.eq (.map (some bp)),
      Fact.eq (.int .i64 id),
      Fact.eq (.tuple #[.slice va pl vc, .bool (hasS (sS S) id)]),
      Fact.eq (.tuple #[.slice va pl vc, .bool (hasS (sS S) id)]),
      Fact.eq (.slice va pl vc),
      Fact.eq (.bool (hasS (sS S) id)),
      Fact.eq (.slice va pl vc),
      Fact.eq (.bool (hasS (sS S) id))]
    [[], [(0, 19)], [(1, 20)], [(2, 21)], [], [(3, 22), (4, 23)], [(5, 24)], [(6, 18)], [(6, 18)], [(7, 25)], [(8, 26)]]
    [(0, 19), (1, 20), (2, 21), (3, 22), (4, 23), (5, 24), (6, 18), (7, 25), (8, 26), (9, 5), (10, 6)] (by kernel_rfl) (by kernel_rfl) ?_ ?_
  · refine ⟨?_, ?_, ?_, ?_, ?_, ?_, ?_, ?_, ?_, ?_, ?_, trivial⟩
    · intro w1 hx1; change wpList _ _ _ _ _ _; exact ob_move rfl rfl rfl rfl rfl
    · intro w1 hx1; rintro _ rfl; change wpList _ _ _ _ _ _; go_wp2_with fail; exact ⟨rfl, Ext.refl _, rfl, rfl⟩
    · intro w1 hx1; rintro _ rfl; change wpList _ _ _ _ _ _; go_wp2_with fail; exact ⟨rfl, Ext.refl _, rfl, rfl⟩
    · intro w1 hx1; rintro _ rfl; change wpList _ _ _ _ _ _; have m0 := hx1.cell tb0; go_wp2_with fail; exact ⟨rfl, Ext.refl _, rfl, rfl⟩
    · intro w1 hx1; change wpList _ _ _ _ _ _; have m0 := hx1.cell i0; go_wp2_with fail; exact ⟨rfl, Ext.refl _, rfl, rfl⟩
    · intro w1 hx1; rintro _ rfl; rintro _ rfl; change wpList _ _ _ _ _ _; have k1 := HLK.out w1 hx1; go_wp2_with fail; exact ⟨rfl, Ext.refl _, rfl, rfl⟩
    · intro w1 hx1; rintro _ rfl; change wpList _ _ _ _ _ _; exact ob_move rfl rfl rfl rfl rfl
    · intro w1 hx1; rintro _ rfl; change wpList _ _ _ _ _ _; go_wp2_with fail; exact ⟨rfl, Ext.refl _, rfl, rfl⟩
    · intro w1 hx1; rintro _ rfl; change wpList _ _ _ _ _ _; go_wp2_with fail; exact ⟨rfl, Ext.refl _, rfl, rfl⟩
    · intro w1 hx1; rintro _ rfl; change wpList _ _ _ _ _ _; exact ob_assign rfl rfl rfl rfl rfl
    · intro w1 hx1; rintro _ rfl; change wpList _ _ _ _ _ _; exact ob_assign rfl rfl rfl rfl rfl
  · intro w1 hx1; rintro _ rfl; rintro _ rfl; rintro _ rfl; rintro _ rfl; rintro _ rfl; rintro _ rfl; rintro _ rfl; rintro _ rfl; rintro _ rfl; rintro _ rfl; rintro _ rfl; refine depsThen_nil ?_; dsimp only; simp only [Act.put, List.setIfInBounds_toArray, List.set_cons_zero, List.set_cons_succ]
    have HI1 := Lib.hid (HI0.out.ext hx1)
    have HX1 := Lib.hid (HX0.out.trans hx1)
    have HB1 := Lib.hid (block_later HB3.out hx1)
    have HBX1 : Hid (bi < w1.heap.size) := Nat.lt_of_lt_of_le HBX.out hx1.size
    clear tb0 i0 HLK HI0 HX0 HB3 hx1 HBX
    have tb0 := cell_of_row _ _ 0 _ _ _ HI1.out.box
    have i0 := cell_of_row _ _ 0 _ _ _ HB1.out
    cases hh : hasS (sS S) id with
    | false =>
      have he : delE (sS S) id = 6 := by unfold delE; rw [hh]; rfl
      have hres : DelR w w1 base b bp bq S id := ⟨S, Q, HI1.out, by rw [delS_no hh], TurnT.of_ext HX1.out⟩
      have HE := Lib.hid he
      have HRES := Lib.hid hres
      clear he hres hh
      go_wp2_with fail
      go_ret
      exact ⟨by rw [HE.out]; rfl, HRES.out⟩
    | true =>
      have he : delE (sS S) id = 0 := by unfold delE; rw [hh]; rfl
      have HE := Lib.hid he
      clear he hh
      obtain ⟨wA, hwA⟩ : ∃ z : World, z = w1 := ⟨_, rfl⟩
      subst hwA
      go_upto_region 6 with fail
      refine wp_region_chain 5 [Fact.eq (.pointer (some ⟨b, 0, none⟩)),
          Fact.eq (.pointer (some ⟨b, 0, none⟩)),
          Fact.eq (.pointer (some ⟨b, 0, none⟩)),
          Fact.eq (.map (some bp)),
          Fact.eq (.int .i64 id)]
        [[], [(0, 29)], [(1, 30)], [(2, 31)], []]
        [(0, 29), (1, 30), (2, 31), (3, 32), (4, 33)] (by kernel_rfl) (by kernel_rfl) ?_ ?_
      · refine ⟨?_, ?_, ?_, ?_, ?_, trivial⟩
        · intro w1 hx1; change wpList _ _ _ _ _ _; exact ob_move rfl rfl rfl rfl rfl
        · intro w1 hx1; rintro _ rfl; change wpList _ _ _ _ _ _; go_wp2_with fail; exact ⟨rfl, Ext.refl _, rfl, rfl⟩
        · intro w1 hx1; rintro _ rfl; change wpList _ _ _ _ _ _; go_wp2_with fail; exact ⟨rfl, Ext.refl _, rfl, rfl⟩
        · intro w1 hx1; rintro _ rfl; change wpList _ _ _ _ _ _; have m0 := hx1.cell tb0; go_wp2_with fail; exact ⟨rfl, Ext.refl _, rfl, rfl⟩
        · intro w1 hx1; change wpList _ _ _ _ _ _; have m0 := hx1.cell i0; go_wp2_with fail; exact ⟨rfl, Ext.refl _, rfl, rfl⟩
      · intro w1 hx1; rintro _ rfl; rintro _ rfl; rintro _ rfl; rintro _ rfl; rintro _ rfl; refine depsThen_nil ?_; dsimp only; simp only [Act.put, List.setIfInBounds_toArray, List.set_cons_zero, List.set_cons_succ, List.drop_succ_cons, List.drop_zero]
        have HI2 := Lib.hid (HI1.out.ext hx1)
        have HX2 := Lib.hid (HX1.out.trans hx1)
        have HB2 := Lib.hid (block_later HB1.out hx1)
        clear tb0 i0 HI1 HX1 HB1 hx1
        go_upto_region 7 with (refine wpList_del rfl (.tmp 32) (.tmp 33) 69 3 rfl Tryz.underlying69 Tryz.underlying3 rfl HI2.out.mp rfl ?_; intro w5 hbut hput; have HBUT := Lib.hid hbut; have HPUT := Lib.hid hput; clear hbut hput)
        have hmap1 := HI2.out.maps
        have ht5 : TurnX base bp bq w1 w5 := But.ofM HBUT.out (.inl rfl)
        have hmp5 := eS_del HI2.out.ids HPUT.out
        have hpr5 : ∀ k ∈ (S.filter fun k => !decide (k.id = id)), PredT base w5 k.h k.p := fun k hk => (HI2.out.turnP ht5).2 k (List.mem_filter.1 hk).1
        have hpt5 : PartsR w5 base bq Q := HI2.out.parts.keep HBUT.out.grown (fun e => hpq (Option.some.inj e)) fun k e => .inr fun cs t fr hcs => by
          cases e
          obtain ⟨es, c, hh⟩ := hmap1 _ (.inl rfl)
          rw [hh] at hcs; cases hcs
        have hbox5 := (HI2.out.turnP ht5).1
        have hbi5 : w5.heap[bi]? = some (.cells #[.int .i64 id] 3 (0, 0)) := (HBUT.out.block bi fun e => by
          obtain ⟨es, c, hh⟩ := hmap1 _ (.inl rfl)
          rw [← e, HB2.out] at hh; cases hh).trans HB2.out
        have hmap5 : ∀ q, Two2 bp bq q → ∃ es c, w5.heap[q]? = some (.map es c) := by
          rintro q (rfl | rfl)
          · obtain ⟨es, c, h, _⟩ := hmp5; exact ⟨es, c, h⟩
          · obtain ⟨es, c, h, _⟩ := hpt5.mq; exact ⟨es, c, h⟩
        have HT5 := Lib.hid ((TurnT.of_ext HX2.out : TurnX base bp bq w w1).trans ht5)
        have HMP5 := Lib.hid hmp5
        have HPR5 := Lib.hid hpr5
        have HPT5 := Lib.hid hpt5
        have HBOX5 := Lib.hid hbox5
        have HBI5 := Lib.hid hbi5
        have HMAP5 := Lib.hid hmap5
        have HW5 : Hid (base ≤ w5.heap.size) := Nat.le_trans hbase HT5.out.size
        have HCONT : Hid (∀ nm, (lookQ Q nm).map pcK = partsOf (sS S) nm) := HI2.out.cont
        clear hmap1 ht5 hmp5 hpr5 hpt5 hbox5 hbi5 hmap5 HBUT HPUT HI2 HX2 HB2
        have tb1 := cell_of_row _ _ 1 _ _ _ HBOX5.out
        go_wp2_with (at_range; refine wpList_rangeE rfl (.tmp 37) 70 rfl Tryz.underlying70 rfl HPT5.out.mq ?_; intro w6 hrg hx; have HRG := Lib.hid hrg; have HX6 := Lib.hid hx; clear hrg hx)
        go_frame
        go_loopw [7, 8] (fun _ _ wr => ∃ Q1 left, Hid (RemI w5 wr base bq w5.heap.size Q id Q1 left)) (fun _ _ wr => wr.rangeLeft bq w5.heap.size)
        case atStart => exact ⟨Q, _, ⟨HRG.out, HPT5.out.ext HX6.out, fun _ _ => rfl, fun nm hn => by
          have hno : ∀ q ∈ Q, q.nm ≠ nm := fun q hq e => hn ⟨q.v, by rw [← e]; exact List.mem_map.2 ⟨q, hq, rfl⟩⟩
          rw [(lookQ_no hno).1]; rfl, TurnT.of_ext HX6.out⟩⟩
        case round =>
          clear HRG HX6 tb1
          obtain ⟨Q1, left, hI⟩ := hrel
          go_wp2_with (at_next; refine wpList_nextE rfl (.tmp 38) rfl rfl hI.out.rng ?_ ?_)
          · intro hl0
            have hres : DelR w wr base b bp bq S id := by
              have hin : ∀ nm, ¬ inK left nm := fun nm ⟨v, hv⟩ => by rw [hl0] at hv; cases hv
              have hb9 := hI.out.turn.box HBOX5.out (fun hm => by
                obtain ⟨es, cc, hh⟩ := HMAP5.out b (.inr hm)
                have := HBOX5.out
                rw [hh] at this; cases this) (by decide)
              refine ⟨S.filter fun k => !decide (k.id = id), Q1, ⟨hb9, MapE.turn hI.out.turn HMP5.out hpq, fun z hz => (HPR5.out z hz).turn hI.out.turn (fun q hq => .inl (HMAP5.out q (.inr hq))) (by decide) (by decide), hI.out.parts, fun nm => ?_⟩, sS_del S id, HT5.out.trans (hI.out.turn.mono fun q hq => .inr hq)⟩
              rw [hI.out.done nm (hin nm), filter_pcK, HCONT.out, sS_del]
              exact (partsOf_without (sS S) id nm).symm
            have HRES := Lib.hid hres
            clear hres hI hl0
            go_wp2_with fail
            go_ret
            exact ⟨by rw [HE.out]; rfl, HRES.out⟩
          · intro kv vv left' w6 hperm hin hrg6 hbut hen
            obtain ⟨q0, hq0, rfl, rfl⟩ := mem_name (List.Sublist.refl _) hin
            have hQn := hI.out.parts.names
            have hE := hI.out.rng.map.keys.2
            have hsub := hI.out.rng.sub
            have hndL : (left.map (·.1)).Nodup := List.Nodup.sublist (List.Sublist.map _ hsub) hE
            have hnd2 : (((Value.string (strOf q0.nm), q0.v) :: left').map (·.1)).Nodup := (hperm.map _).nodup_iff.1 hndL
            have hk0 : ∀ p ∈ left', p.1 ≠ Value.string (strOf q0.nm) := fun p hp e => (List.nodup_cons.1 hnd2).1 (by show Value.string (strOf q0.nm) ∈ List.map (·.1) left'; rw [← e]; exact List.mem_map.2 ⟨p, hp, rfl⟩)
            have hin0 : inK left q0.nm := ⟨q0.v, hperm.mem_iff.2 List.mem_cons_self⟩
            have hinK : ∀ nm, inK left' nm → inK left nm ∧ nm ≠ q0.nm := fun nm ⟨v, hv⟩ => ⟨⟨v, hperm.mem_iff.2 (List.mem_cons_of_mem _ hv)⟩, fun e => hk0 _ hv (by rw [e])⟩
            have hinN : ∀ nm, nm ≠ q0.nm → ¬ inK left' nm → ¬ inK left nm := fun nm hne hn ⟨v, hv⟩ => by
              rcases List.mem_cons.1 (hperm.mem_iff.1 hv) with e | hv
              · exact hne (str_inj (congrArg Prod.fst e))
              · exact hn ⟨v, hv⟩
            obtain ⟨hlq, hvq⟩ := lookQ_at hQn hq0
            have hr5 : w5.heap.size ≠ bq := hI.out.rng.ne
            have hP6 : PartsR w6 base bq Q1 := hI.out.parts.keep (But.grown hbut) (fun e => hr5 (Option.some.inj e)) fun k e => .inr fun cs t fr hcs => by
              cases e
              obtain ⟨es, clock, since, seen, c0, _, _, _, _, h5, _⟩ := hI.out.rng
              rw [h5] at hcs; cases hcs
            have hT6 : TurnT (fun q => q = bq) 77 base w5 w6 := hI.out.turn.skip (But.grown hbut) fun k e => by cases e; exact Nat.le_refl _
            have hrow := hP6.rows q0 hq0
            have hsets := hP6.sets q0 hq0
            obtain ⟨va, vc, hve, hvc, hvm⟩ := own_shape hrow
            have hib := hT6.box HBOX5.out (fun hm => by
              obtain ⟨es, cc, hh⟩ := HMAP5.out b (.inr hm)
              have := HBOX5.out
              rw [hh] at this; cases this) (by decide)
            have hbi6 := hT6.box HBI5.out (fun hm => by
              obtain ⟨es, cc, hh⟩ := HMAP5.out bi (.inr hm)
              have := HBI5.out
              rw [hh] at this; cases this) (by decide)
            have ib1 := cell_of_row _ _ 1 _ _ _ hib
            have i6 := cell_of_row _ _ 0 _ _ _ hbi6
            have hll : q0.l.length ≤ 1000000 := by
              have h1 := congrArg List.length (HCONT.out q0.nm)
              rw [List.length_map, ← hI.out.todo _ hin0, hlq] at h1
              rw [h1]
              have h2 := parts_le (R := sS S) (m := 6) (fun q hq => by unfold sS at hq; obtain ⟨z, hz, rfl⟩ := List.mem_map.1 hq; exact H6.out z hz) q0.nm
              rw [sS_len] at h2
              have := H256.out
              omega
            have HML := Lib.hid hI.out.rng.left_eq
            have HLL := Lib.hid hperm.length_eq
            have HRG6 := Lib.hid hrg6
            have HK0 := Lib.hid hk0
            have HTODO : Hid (∀ nm, inK left' nm → lookQ Q1 nm = lookQ Q nm) := fun nm hn => hI.out.todo nm (hinK nm hn).1
            have HTNE : Hid (∀ nm, inK left' nm → nm ≠ q0.nm) := fun nm hn => (hinK nm hn).2
            have HDONE : Hid (∀ nm, nm ≠ q0.nm → ¬ inK left' nm → lookQ Q1 nm = (lookQ Q nm).filter fun x => !(x.id == id)) := fun nm hne hn => hI.out.done nm (hinN nm hne hn)
            have HL0 : Hid (lookQ Q q0.nm = q0.l) := by show _ = _; rw [← hI.out.todo _ hin0, hlq]
            obtain ⟨j0, hj0, hje⟩ := List.getElem_of_mem hq0
            have HJ0 : Hid ((eQ Q1)[j0]? = some (Value.string (strOf q0.nm), q0.v)) := by show _ = _; unfold eQ; rw [List.getElem?_map, List.getElem?_eq_getElem hj0, hje]; rfl
            have HVQ := Lib.hid hvq
            have HP6 := Lib.hid hP6
            have HT6 := Lib.hid hT6
            have HSETS := Lib.hid hsets
            rw [hve] at hen hrow
            have HVE := Lib.hid hve
            have HLM := Lib.hid hll
            have HNI0 : Hid (∀ u n (xs : List Value), u.ownBlock = some bi → ¬ w6.ownsRow base 77 8 u n xs) := fun u n xs hu ho => own_ne ho hbi6 (by decide) hu
            clear hin hinN hinK hin0 hk0 hndL hnd2 hsub hE hperm hrg6 hbut hI hP6 hT6 hsets hll hvq hlq hQn hje hj0
            obtain ⟨vn, hvn⟩ : ∃ vn, vn = q0.l.length := ⟨_, rfl⟩
            have HVN := Lib.hid hvn
            rw [← hvn] at hen hrow hvc
            have HROW := Lib.hid hrow
            unfold maxLen at hvm
            have HNR : Hid (∀ q, (Value.slice va vn vc).ownBlock ≠ some q → some q ∉ [none, none, none, none, none, none, none, (Value.slice va vn vc).ownBlock]) := fun q hq hm => by
              simp only [List.mem_cons, List.not_mem_nil, or_false, reduceCtorEq, false_or] at hm
              exact hq hm.symm
            have HNB := Lib.hid (HNR.out b (own_ne HROW.out hib (by decide)))
            have hnbi := own_ne HROW.out hbi6 (by decide)
            have HNI := Lib.hid (HNR.out bi hnbi)
            have HNBI := Lib.hid hnbi
            clear hrow hvn hnbi hib hbi6
            go_upto_region 10 with fail
            refine Rr.wp_region_rows_chain 8 [none, none, none, none, none, none, none, (Value.slice va vn vc).ownBlock] [Rr.FactB.eq (.pointer (some ⟨b, 0, none⟩)),
                Rr.FactB.eq (.pointer (some ⟨b, 0, none⟩)),
                Rr.FactB.eq (.pointer (some ⟨b, 1, none⟩)),
                Rr.FactB.eq (.map (some bq)),
                Rr.FactB.eq (.string (strOf q0.nm)),
                Rr.FactB.eq (.slice va vn vc),
                Rr.FactB.eq (.func (.func 30) #[] #[.pointer (some ⟨bi, 0, none⟩)]),
                Rr.FactB.ownL base 77 8 (q0.l.filter fun x => !(x.id == id)).length ((q0.l.filter fun x => !(x.id == id)).flatMap ptC) (Value.slice va vn vc).ownBlock w6.heap.size]
              [Rr.FactB.any, Rr.FactB.any, Rr.FactB.any, Rr.FactB.any, Rr.FactB.any, Rr.FactB.any, Rr.FactB.any, (Rr.FactB.own base 77 8 vn (q0.l.flatMap ptC) none).at (.slice va vn vc), Rr.FactB.any]
              [[], [(0, 44)], [(1, 45)], [(2, 46)], [], [], [], [(5, 49), (6, 50)]]
              [(0, 44), (1, 45), (2, 46), (3, 47), (4, 48), (5, 49), (6, 50), (7, 51)] (by kernel_rfl) (by kernel_rfl) ?_ ?_ ?_ ?_ ?_
            · refine ⟨?_, ?_, ?_, ?_, ?_, ?_, ?_, ?_, trivial⟩
              · exact fun _ _ h => h
              · exact fun _ _ h => h
              · exact fun _ _ h => h
              · exact fun _ _ h => h
              · exact fun _ _ h => h
              · exact fun _ _ h => h
              · exact fun _ _ h => h
              · change ∀ row ∈ ([none, none, none, none, none, none, none, none] : List (Option Nat)), ¬ (Rr.FactB.ownL base 77 8 (q0.l.filter fun x => !(x.id == id)).length ((q0.l.filter fun x => !(x.id == id)).flatMap ptC) (Value.slice va vn vc).ownBlock w6.heap.size).bad row; exact (List.forall_mem_cons.2 ⟨Rr.ownL_none, (List.forall_mem_cons.2 ⟨Rr.ownL_none, (List.forall_mem_cons.2 ⟨Rr.ownL_none, (List.forall_mem_cons.2 ⟨Rr.ownL_none, (List.forall_mem_cons.2 ⟨Rr.ownL_none, (List.forall_mem_cons.2 ⟨Rr.ownL_none, (List.forall_mem_cons.2 ⟨Rr.ownL_none, (List.forall_mem_cons.2 ⟨Rr.ownL_none, (fun _ h => absurd h List.not_mem_nil)⟩)⟩)⟩)⟩)⟩)⟩)⟩)⟩)
            · refine ⟨?_, ?_, ?_, ?_, ?_, ?_, ?_, ?_, ?_, trivial⟩
              · exact fun _ _ h => h
              · exact fun _ _ h => h
              · exact fun _ _ h => h
              · exact fun _ _ h => h
              · exact fun _ _ h => h
              · exact fun _ _ h => h
              · exact fun _ _ h => h
              · change ∀ row ∈ ([none, none, none, none, none, none, none, none] : List (Option Nat)), ¬ ((Rr.FactB.own base 77 8 vn (q0.l.flatMap ptC) none).at (.slice va vn vc)).bad row; exact (List.forall_mem_cons.2 ⟨(Rr.at_calm Rr.own_none'), (List.forall_mem_cons.2 ⟨(Rr.at_calm Rr.own_none'), (List.forall_mem_cons.2 ⟨(Rr.at_calm Rr.own_none'), (List.forall_mem_cons.2 ⟨(Rr.at_calm Rr.own_none'), (List.forall_mem_cons.2 ⟨(Rr.at_calm Rr.own_none'), (List.forall_mem_cons.2 ⟨(Rr.at_calm Rr.own_none'), (List.forall_mem_cons.2 ⟨(Rr.at_calm Rr.own_none'), (List.forall_mem_cons.2 ⟨(Rr.at_calm Rr.own_none'), (fun _ h => absurd h List.not_mem_nil)⟩)⟩)⟩)⟩)⟩)⟩)⟩)⟩)
              · exact fun _ _ h => h
            · intro f hf; simp only [List.mem_cons, List.not_mem_nil, or_false] at hf; rcases hf with rfl | rfl | rfl | rfl | rfl | rfl | rfl | rfl | rfl
              · exact True.intro
              · exact True.intro
              · exact True.intro
              · exact True.intro
              · exact True.intro
              · exact True.intro
              · exact True.intro
              · exact ⟨own_ext HROW.out ((Ext.refl _).drew), fun _ _ h => nomatch h⟩
              · exact True.intro
            · refine ⟨?_, ?_, ?_, ?_, ?_, ?_, ?_, ?_, trivial⟩
              · intro w1 hx1 hg1; change wpList _ _ _ _ _ _; refine Rr.lift (fun _ _ h => Rr.grew_of h) ?_; exact ob_move rfl rfl rfl rfl rfl
              · intro w1 hx1 hg1; rintro _ rfl; change wpList _ _ _ _ _ _; refine Rr.lift (fun _ _ h => Rr.grew_of h) ?_; go_wp2_with fail; exact ⟨rfl, Ext.refl _, rfl, rfl⟩
              · intro w1 hx1 hg1; rintro _ rfl; change wpList _ _ _ _ _ _; refine Rr.lift (fun _ _ h => Rr.grew_of h) ?_; go_wp2_with fail; exact ⟨rfl, Ext.refl _, rfl, rfl⟩
              · intro w1 hx1 hg1; rintro _ rfl; change wpList _ _ _ _ _ _; refine Rr.lift (fun _ _ h => Rr.grew_of h) ?_; have m0 := hx1.cell ib1 HNB.out; go_wp2_with fail; exact ⟨rfl, Ext.refl _, rfl, rfl⟩
              · intro w1 hx1 hg1; change wpList _ _ _ _ _ _; refine Rr.lift (fun _ _ h => Rr.grew_of h) ?_; exact ob_move rfl rfl rfl rfl rfl
              · intro w1 hx1 hg1; change wpList _ _ _ _ _ _; refine Rr.lift (fun _ _ h => Rr.grew_of h) ?_; exact ob_move rfl rfl rfl rfl rfl
              · intro w1 hx1 hg1; change wpList _ _ _ _ _ _; refine Rr.lift (fun _ _ h => Rr.grew_of h) ?_; go_wp2_with fail; exact ⟨rfl, Ext.refl _, rfl, rfl⟩
              · intro w1 hx1 hg1; rintro _ rfl; rintro _ rfl; change wpList _ _ _ _ _ _; have i7 := hx1.cell i6 HNI.out; have hg7 := hx1.grown (row := (Value.slice va vn vc).ownBlock) (fun q hq => by simp only [List.mem_cons, List.not_mem_nil, or_false, reduceCtorEq, false_or] at hq; exact hq.symm); have ho7 : w1.ownsRow base 77 8 (.slice va vn vc) q0.l.length (q0.l.flatMap ptC) := (by rw [← HVN.out]; exact hg1.1); have hs7 : ∀ x ∈ q0.l, SetO base w1 x.x := fun x hx => SetO.kept (HSETS.out x hx) HROW.out hg7; have hdel := deletePt_any w1 base _ q0.l ho7 (fun x hx => (hs7 x hx).set) (fun W hW x hx => (SetO.kept (hs7 x hx) ho7 hW).set) HLM.out 30 #[.pointer (some ⟨bi, 0, none⟩)] (fun x => x.id == id) ent_rem1 (fun W x sa sc hW _ _ => rem1_any W x.id x.x.c sa sc bi id (cell_same i7 (hW.block bi (World.block_lt_of_cell? w1 _ i7) (fun e => HNBI.out e.symm)))); go_wp2_with fail; (with_reducible refine hdel.mono ?_); rintro e w2 ⟨v', rfl, hvb, ho, hg⟩; go_wp2_with fail; exact ⟨rfl, hg, rfl, ho, .inl hvb⟩
            · intro w1 hx1; intro hgs; rintro _ rfl; rintro _ rfl; rintro _ rfl; rintro _ rfl; rintro _ rfl; rintro _ rfl; rintro _ rfl; intro v51 h51; refine depsThen_nil ?_; dsimp only; simp only [Act.put, List.setIfInBounds_toArray, List.set_cons_zero, List.set_cons_succ, List.drop_succ_cons, List.drop_zero]
              replace h51 : (Rr.FactB.ownL base 77 8 (q0.l.filter fun x => !(x.id == id)).length ((q0.l.filter fun x => !(x.id == id)).flatMap ptC) (Value.slice va vn vc).ownBlock w6.heap.size).p v51 w1 := h51
              clear hgs
              obtain ⟨ho51, hl51⟩ := h51
              obtain ⟨a51, c51, rfl, _, _⟩ := own_shape ho51
              have hg7 := hx1.grown (row := (Value.slice va vn vc).ownBlock) fun q hq => by
                simp only [List.mem_cons, List.not_mem_nil, or_false, reduceCtorEq, false_or] at hq
                exact hq.symm
              have hnm : ∀ q, (∃ es c, w6.heap[q]? = some (.map es c)) → (Value.slice va vn vc).ownBlock ≠ some q := fun q ⟨es, c, h⟩ e => own_noMap HROW.out e h
              have hmq6 : ∃ es c, w6.heap[bq]? = some (.map es c) := by obtain ⟨es, c, h, _⟩ := HP6.out.mq; exact ⟨es, c, h⟩
              have hrng1 := HRG6.out.grown hg7 (hnm bq hmq6) (fun e => by
                obtain ⟨es, clock, since, seen, c0, _, _, _, _, h5, _⟩ := HRG6.out
                rcases HROW.out.2 with ⟨e2, _⟩ | ⟨g, cap, cur, e2, _, hgh, _⟩
                · rw [e2] at e; simp [Value.ownBlock] at e
                · rw [e2] at e
                  simp only [Value.ownBlock, Option.some.injEq] at e
                  rw [e, h5] at hgh; cases hgh)
              have HO51 := Lib.hid ho51
              have HL51 := Lib.hid hl51
              have HG7 := Lib.hid hg7
              have HRNG1 := Lib.hid hrng1
              clear ho51 hl51 hg7 hnm hmq6 hrng1 hx1 ib1 i6 HNB HNI HNR HNBI HNI0 HRG6
              have hJ1 := HJ0.out
              go_wp2_with (refine wpList_putRX rfl (.tmp 47) (.tmp 48) (.tmp 51) 70 rfl Tryz.underlying70 Tryz.underlying9 (.string (strOf q0.nm)) (.slice a51 (q0.l.filter fun x => !(x.id == id)).length c51) rfl rfl rfl HRNG1.out HJ0.out HK0.out ?_; intro w9 hbut9 hput9; have HBUT := Lib.hid hbut9; have HPUT := Lib.hid hput9; clear hbut9 hput9)
              have hsets1 : ∀ y ∈ q0.l.filter (fun x => !(x.id == id)), SetO base w1 y.x := fun y hy => SetO.kept (HSETS.out y (List.mem_filter.1 hy).1) HROW.out HG7.out
              obtain ⟨Q2, hP2, hL2⟩ := HP6.out.store q0.nm (.slice a51 (q0.l.filter fun x => !(x.id == id)).length c51) (q0.l.filter fun x => !(x.id == id)) HO51.out hsets1 (by rw [HVQ.out, HVE.out, ← HVN.out]; exact HG7.out) (by rw [HVQ.out, HVE.out, ← HVN.out]; exact HL51.out) HBUT.out (.inr ⟨j0, q0.v, HJ0.out, HPUT.out.map⟩)
              have hEe := MapE.uniq HPUT.out.map hP2.mq
              have hnew : RemI w5 w9 base bq w5.heap.size Q id Q2 left' := by
                refine ⟨by rw [← hEe]; exact HPUT.out, hP2, fun nm hn => ?_, fun nm hn => ?_, (HT6.out.trans (TurnT.of_row HROW.out (Nat.le_refl _) HG7.out)).trans (But.ofM HBUT.out rfl)⟩
                · rw [hL2, if_neg (HTNE.out nm hn), HTODO.out nm hn]
                · by_cases e : nm = q0.nm
                  · subst e
                    rw [hL2, if_pos rfl, HL0.out]
                  · rw [hL2, if_neg e, HDONE.out nm e hn]
              have HNEW := Lib.hid hnew
              clear hsets1 hP2 hL2 hEe hnew HBUT HPUT HO51 HL51 HG7 HRNG1 HP6 HT6 HROW HSETS HVQ HVE HVN hJ1
              dsimp only [Act.put]
              go_roundw
              case rel => exact ⟨_, _, HNEW.out⟩
              case measure => rw [HNEW.out.rng.left_eq, HML.out, HLL.out]; exact Nat.lt_succ_self _
end Go.Proofs.YtckigoeomkphhaaGreat

namespace Go.Proofs.YtckigoeomkphhaaGreat
open Go.RowKit

set_option maxRecDepth 100000 in
set_option maxHeartbeats 16000000 in
theorem rdel_any (w : World) (base rb : Nat) (lv : Value) (L : List PE) (hr : RefI w base rb lv L) (hbase : base ≤ w.heap.size) (S : SP) (hS : RelSL S (sS L)) (hl256 : L.length ≤ 256) (id : Int) :
    Calls Tryz.prog 16 #[.pointer (some ⟨rb, 0, none⟩), .int .i64 id] w fun e w' => e = .returned (.int .i64 (delE S id)) ∧ (∃ lv' L', RefI w' base rb lv' L' ∧ RelSL (delS S id) (sS L') ∧ L'.length ≤ 256) ∧ w.grownBy w' (some rb) := by
  have hhas := rhas_any w base rb lv L hr S hS id
  cases hh : hasS S id with
  | false =>
    rw [hh] at hhas
    have hres : ∀ w', Ext w w' → ((∃ lv' L', RefI w' base rb lv' L' ∧ RelSL (delS S id) (sS L') ∧ L'.length ≤ 256) ∧ w.grownBy w' (some rb)) := fun w' hx =>
      ⟨⟨lv, L, hr.ext hx, by rw [delS_no hh]; exact hS, hl256⟩, ⟨hx.os, hx.tape, hx.output, hx.size, fun k hk _ => hx.block k hk⟩⟩
    have he : delE S id = 6 := by unfold delE; rw [hh]; rfl
    have HRES := Lib.hid hres
    have HHAS := Lib.hid hhas
    have HE := Lib.hid he
    clear hres hhas hr hS hh he
    go_enter Tryz.func16, Tryz.ntmps16
    go_wp2_with (go_at_call 40; (with_reducible refine HHAS.out.mono ?_); rintro e w2 ⟨rfl, hx2⟩; have HX2 := Lib.hid hx2; clear hx2)
    go_ret
    exact ⟨by rw [HE.out]; rfl, HRES.out _ HX2.out⟩
  | true =>
    rw [hh] at hhas
    have he : delE S id = 0 := by unfold delE; rw [hh]; rfl
    obtain ⟨la, lc, rfl, hlc, hlm⟩ := own_shape hr.row
    unfold maxLen at hlm
    obtain ⟨n, hnn⟩ : ∃ n, n = L.length := ⟨_, rfl⟩
    have HNN := Lib.hid hnn
    rw [← hnn] at hr hlc hl256
    have HR := Lib.hid hr
    have HS := Lib.hid hS
    have HHAS := Lib.hid hhas
    have HE := Lib.hid he
    have HH := Lib.hid hh
    clear hhas hr hS hh he hnn
    go_enter Tryz.func16, Tryz.ntmps16
    go_upto_region 3 with (go_at_call 40; (with_reducible refine HHAS.out.mono ?_); rintro e w2 ⟨rfl, hx2⟩; have HX2 := Lib.hid hx2; clear hx2)
    have hat := rat_any w2 base rb _ L (HR.out.ext HX2.out) id
    have HAT := Lib.hid hat
    clear hat
    go_upto_region 5 with (go_at_call 41; (with_reducible refine HAT.out.mono ?_); rintro e w3 ⟨i, rfl, hA, hx3⟩; have HA := Lib.hid hA; have HX3 := Lib.hid (HX2.out.trans hx3); clear hA hx3)
    obtain ⟨hiS, hie⟩ := (HA.out.has HS.out).1 (hasS_iff.1 HH.out)
    have hin : i < n := by rw [sS_len] at hiS; have := HNN.out; omega
    have HIE := Lib.hid hie
    have hL3 := HR.out.ext HX3.out
    have HL3 := Lib.hid hL3
    have hrl := hL3.row
    rw [← HNN.out] at hrl
    have HRL := Lib.hid hrl
    clear hL3 hrl HAT HHAS hie
    have rb0 := cell_of_row _ _ 0 _ _ _ HL3.out.box
    have h1a : ∀ u ∈ (L.take i).flatMap itC, u.oneCell' = true := itC_one fun k hk => HR.out.one k (List.mem_of_mem_take hk)
    have h1b : ∀ u ∈ ((L.take n).drop (i + 1)).flatMap itC, u.oneCell' = true := itC_one fun k hk => HR.out.one k (List.mem_of_mem_take (List.mem_of_mem_drop hk))
    have H1A := Lib.hid h1a
    have H1B := Lib.hid h1b
    clear h1a h1b
    have hb3 : base ≤ w3.heap.size := Nat.le_trans hbase HX3.out.size
    go_upto_region 6 with (first
      | (refine itCut (.tmp 18) none (some (.tmp 19)) L n 0 i rfl rfl (Row.of_own HRL.out) rfl ⟨_, _, rfl, by omega, by omega⟩ (Nat.zero_le _) (by omega) ?_; intro v39 h39; rw [List.drop_zero, Nat.sub_zero] at h39; obtain ⟨a39, c39, rfl, _, _⟩ := Row.shape h39; have H39 := Lib.hid h39; clear h39)
      | (at_builtin; refine wpList_append_row 41 57 (.tmp 14) (.tmp 20) rfl w3.heap.size _ 2 32 Tryz.underlying41 info_item rfl (by decide) rfl (.slice none 0 0) 0 [] rfl (own_none _ _ _ _) i ((L.take i).flatMap itC) H39.out H1A.out (by omega) (by unfold maxLen; omega) (Nat.le_refl _) ?_; intro v40 w4 hown4 hg4; have HO4 := Lib.hid hown4; have HX4 := Lib.hid ((Ext.refl w3).grown_none (v := .slice none 0 0) hg4 (fun q hq => by cases hq)); clear hown4 hg4))
    have hown4 : w4.ownsRow w3.heap.size 57 2 v40 i ((L.take i).flatMap itC) := by have h := HO4.out; rw [Nat.zero_add, List.nil_append] at h; exact h
    obtain ⟨a40, c40, rfl, _, _⟩ := own_shape hown4
    have HO6 := Lib.hid hown4
    have HL6 := Lib.hid (HL3.out.ext HX4.out)
    have HRL6 := Lib.hid (own_ext HRL.out HX4.out)
    clear rb0
    have rb0 := cell_of_row _ _ 0 _ _ _ HL6.out.box
    have zb0 := frozen_of_row _ _ 0 _ _ HL6.out.box
    have hb6 : w3.heap.size ≤ w4.heap.size := HX4.out.size
    clear hown4 HO4 H39 HL3
    go_upto_region 7 with (first
      | (refine itCut (.tmp 27) (some (.tmp 29)) none L n (i + 1) n rfl rfl (Row.of_own HRL6.out) ⟨_, _, rfl, by omega, by omega⟩ rfl (by omega) (Nat.le_refl _) ?_; intro v54 h54; obtain ⟨a54, c54, rfl, _, _⟩ := Row.shape h54; have H54 := Lib.hid h54; clear h54)
      | (at_builtin; refine wpList_append_row 41 57 (.tmp 23) (.tmp 30) rfl w3.heap.size _ 2 32 Tryz.underlying41 info_item rfl (by decide) rfl (.slice a40 i c40) i ((L.take i).flatMap itC) rfl HO6.out (n - (i + 1)) (((L.take n).drop (i + 1)).flatMap itC) H54.out H1B.out (by omega) (by unfold maxLen; omega) hb6 ?_; intro v55 w7 hown7 hg7; have HO7 := Lib.hid hown7; have HX7 := Lib.hid (HX4.out.grown_none hg7 (own_base HO6.out)); clear hown7 hg7; obtain ⟨a55, c55, rfl, _, _⟩ := own_shape HO7.out; have rb7 := cell_of_row _ _ 0 _ _ _ ((HR.out.ext HX3.out).ext HX7.out).box; have zb7 := frozen_of_row _ _ 0 _ _ ((HR.out.ext HX3.out).ext HX7.out).box))
    go_wp2_with fail
    go_ret
    have hln : L.length = n := HNN.out.symm
    have hfin : w7.ownsRow base 57 2 (.slice a55 (i + (n - (i + 1))) c55) (L.take i ++ L.drop (i + 1)).length ((L.take i ++ L.drop (i + 1)).flatMap itC) := by
      have h := own_low HO7.out hb3
      have e1 : L.take n = L := List.take_of_length_le (by omega)
      have e2 : (L.take i ++ L.drop (i + 1)).length = i + (n - (i + 1)) := by rw [List.length_append, List.length_take, List.length_drop]; omega
      have e3 : (L.take i ++ L.drop (i + 1)).flatMap itC = (L.take i).flatMap itC ++ ((L.take n).drop (i + 1)).flatMap itC := by rw [e1, List.flatMap_append]
      rw [e2, e3]; exact h
    have hset := (HR.out.ext (HX3.out.trans HX7.out)).set (Ext.refl w7) hfin (fun k hk => by
      rcases List.mem_append.1 hk with hk | hk
      · exact (HR.out.preds k (List.mem_of_mem_take hk)).ext (HX3.out.trans HX7.out)
      · exact (HR.out.preds k (List.mem_of_mem_drop hk)).ext (HX3.out.trans HX7.out))
    refine ⟨by rw [HE.out]; rfl, ⟨_, _, hset.1, ?_, ?_⟩, ⟨hset.2.os.trans (HX3.out.trans HX7.out).os, hset.2.tape.trans (HX3.out.trans HX7.out).tape, hset.2.output.trans (HX3.out.trans HX7.out).output, Nat.le_trans (HX3.out.trans HX7.out).size hset.2.size, fun q hq hne => (hset.2.block q (Nat.lt_of_lt_of_le hq (HX3.out.trans HX7.out).size) hne).trans ((HX3.out.trans HX7.out).block q hq)⟩⟩
    · have hdel := HS.out.del hiS HIE.out
      have e : sS (L.take i ++ L.drop (i + 1)) = (sS L).take i ++ (sS L).drop (i + 1) := by unfold sS; rw [List.map_append, List.map_take, List.map_drop]
      rw [e]; exact hdel
    · rw [List.length_append, List.length_take, List.length_drop]; omega

theorem AtSL.unique {L : SP} {id : Int} {i j : Nat} (h : AtSL L id i) (k : AtSL L id j) : i = j := by
  rcases Nat.lt_trichotomy i j with h1 | h1 | h1
  · have h2 := k.le
    exact absurd (k.low i (by omega) h1) (h.high (by omega))
  · exact h1
  · have h2 := h.le
    exact absurd (h.low j (by omega) h1) (k.high (by omega))
abbrev atF (L : SP) (id : Int) : Nat := L.findIdx fun k => !decide (k.1 < id)
theorem atF_at (L : SP) (id : Int) : AtSL L id (atF L id) := by
  refine ⟨List.findIdx_le_length, fun j hj h => ?_, fun h => ?_⟩
  · have := List.not_of_lt_findIdx h
    simpa using this
  · have := List.findIdx_getElem (p := fun k : Int × List C => !decide (k.1 < id)) (xs := L) (w := h)
    simpa using this
theorem rat_eq (w : World) (base rb : Nat) (lv : Value) (L : List PE) (hr : RefI w base rb lv L) (id : Int) :
    Calls Tryz.prog 41 #[.pointer (some ⟨rb, 0, none⟩), .int .i64 id] w fun e w' => e = .returned (.int .i64 (atF (sS L) id : Nat)) ∧ Ext w w' := by
  refine (rat_any w base rb lv L hr id).mono ?_
  rintro e w' ⟨i, rfl, hA, hx⟩
  rw [hA.unique (atF_at _ _)]
  exact ⟨rfl, hx⟩
theorem RefI.get {w : World} {base rb : Nat} {lv : Value} {L : List PE} (_h : RefI w base rb lv L) {S : SP} (hS : RelSL S (sS L)) {id : Int} {i : Nat} (hA : AtSL (sS L) id i) (hh : hasS S id = true) : ∃ hi : i < L.length, L[i].id = id := by
  obtain ⟨h1, h2⟩ := (hA.has hS).1 (hasS_iff.1 hh)
  have h3 : i < L.length := by rwa [sS_len] at h1
  exact ⟨h3, by rw [sS_fst h1 h3] at h2; exact h2⟩

set_option maxRecDepth 100000 in
set_option maxHeartbeats 8000000 in
theorem rget_no (w : World) (base rb : Nat) (lv : Value) (L : List PE) (hr : RefI w base rb lv L) (S : SP) (hS : RelSL S (sS L)) (id : Int) (hh : hasS S id = false) :
    Calls Tryz.prog 20 #[.pointer (some ⟨rb, 0, none⟩), .int .i64 id] w fun e w' => e = .returned (.tuple #[.slice none 0 0, .bool false]) ∧ Ext w w' := by
  have hhas := rhas_any w base rb lv L hr S hS id
  rw [hh] at hhas
  have HHAS := Lib.hid hhas
  clear hhas hr hS hh
  go_enter Tryz.func20, Tryz.ntmps20
  go_wp2_with (go_at_call 40; (with_reducible refine HHAS.out.mono ?_); rintro e w2 ⟨rfl, hx2⟩; have HX2 := Lib.hid hx2; clear hx2)
  go_ret2
  exact ⟨rfl, HX2.out⟩
set_option maxRecDepth 100000 in
set_option maxHeartbeats 8000000 in
theorem rget_yes (w : World) (base rb : Nat) (lv : Value) (L : List PE) (hr : RefI w base rb lv L) (S : SP) (hS : RelSL S (sS L)) (id : Int) (hh : hasS S id = true) :
    Calls Tryz.prog 20 #[.pointer (some ⟨rb, 0, none⟩), .int .i64 id] w fun e w' => ∃ k ∈ L, k.id = id ∧ e = .returned (.tuple #[k.h, .bool true]) ∧ Ext w w' := by
  have hhas := rhas_any w base rb lv L hr S hS id
  rw [hh] at hhas
  obtain ⟨la, lc, rfl, hlc, hlm⟩ := own_shape hr.row
  unfold maxLen at hlm
  obtain ⟨n, hnn⟩ : ∃ n, n = L.length := ⟨_, rfl⟩
  have HNN := Lib.hid hnn
  rw [← hnn] at hr hlc
  have HR := Lib.hid hr
  have HS := Lib.hid hS
  have HHAS := Lib.hid hhas
  have HH := Lib.hid hh
  clear hhas hr hS hh hnn
  go_enter Tryz.func20, Tryz.ntmps20
  go_upto_region 3 with (go_at_call 40; (with_reducible refine HHAS.out.mono ?_); rintro e w2 ⟨rfl, hx2⟩; have HX2 := Lib.hid hx2; clear hx2)
  have HR2 := Lib.hid (HR.out.ext HX2.out)
  have rb0 := cell_of_row _ _ 0 _ _ _ HR2.out.box
  have HAT : Hid (∀ W, Ext w2 W → Calls Tryz.prog 41 #[.pointer (some ⟨rb, 0, none⟩), .int .i64 id] W fun e w' => e = .returned (.int .i64 (atF (sS L) id : Nat)) ∧ Ext W w') := fun W hW => rat_eq W base rb _ L (HR2.out.ext hW) id
  obtain ⟨hi, hie⟩ := HR.out.get HS.out (atF_at (sS L) id) HH.out
  clear HHAS
  generalize atF (sS L) id = i at *
  have hin : i < n := by have := HNN.out; omega
  have hiN : (i : Int) < (n : Int) := by omega
  obtain ⟨B, o, rfl, f0, f1⟩ := HR2.out.at hi
  have hmem : L[i] ∈ L := List.getElem_mem hi
  have HMEM := Lib.hid hmem
  have HIE := Lib.hid hie
  clear hmem hie HR HR2
  generalize L[i] = k at *
  refine wp_region_facts [Fact.eq (.pointer (some ⟨rb, 0, none⟩)),
      Fact.eq (.pointer (some ⟨rb, 0, none⟩)),
      Fact.eq (.pointer (some ⟨rb, 0, none⟩)),
      Fact.eq (.slice (some ⟨B, o, none⟩) n lc),
      Fact.eq (.pointer (some ⟨rb, 0, none⟩)),
      Fact.eq (.int .i64 id),
      Fact.eq (.int .i64 i),
      Fact.eq (.pointer (some ⟨B, o + i * 2, none⟩)),
      Fact.eq (.pointer (some ⟨B, o + i * 2 + 1, none⟩)),
      Fact.eq k.h,
      Fact.eq k.h,
      Fact.eq ((.bool true))]
    [[], [(0, 10)], [(1, 11)], [(2, 12)], [], [], [(4, 14), (5, 15)], [(3, 13), (6, 16)], [(7, 17)], [(8, 18)], [(9, 19)], []]
    [(0, 10), (1, 11), (2, 12), (3, 13), (4, 14), (5, 15), (6, 16), (7, 17), (8, 18), (9, 19), (10, 4), (11, 5)] (by kernel_rfl) (by kernel_rfl) ?_ ?_
  · refine ⟨?_, ?_, ?_, ?_, ?_, ?_, ?_, ?_, ?_, ?_, ?_, ?_, trivial⟩
    · intro w1 hx1; change wpList _ _ _ _ _ _; exact ob_move rfl rfl rfl rfl rfl
    · intro w1 hx1; rintro _ rfl; change wpList _ _ _ _ _ _; go_wp2_with fail; exact ⟨rfl, Ext.refl _, rfl, rfl⟩
    · intro w1 hx1; rintro _ rfl; change wpList _ _ _ _ _ _; go_wp2_with fail; exact ⟨rfl, Ext.refl _, rfl, rfl⟩
    · intro w1 hx1; rintro _ rfl; change wpList _ _ _ _ _ _; have m0 := hx1.cell rb0; go_wp2_with fail; exact ⟨rfl, Ext.refl _, rfl, rfl⟩
    · intro w1 hx1; change wpList _ _ _ _ _ _; exact ob_move rfl rfl rfl rfl rfl
    · intro w1 hx1; change wpList _ _ _ _ _ _; exact ob_move rfl rfl rfl rfl rfl
    · intro w1 hx1; rintro _ rfl; rintro _ rfl; change wpList _ _ _ _ _ _; go_wp2_with fail; (with_reducible refine (HAT.out _ hx1).mono ?_); rintro e w7 ⟨rfl, hx2⟩; go_wp2_with fail; exact ⟨rfl, hx2, rfl, rfl⟩
    · intro w1 hx1; rintro _ rfl; rintro _ rfl; change wpList _ _ _ _ _ _; go_wp2_with fail; exact ⟨rfl, Ext.refl _, rfl, rfl⟩
    · intro w1 hx1; rintro _ rfl; change wpList _ _ _ _ _ _; go_wp2_with fail; exact ⟨rfl, Ext.refl _, rfl, rfl⟩
    · intro w1 hx1; rintro _ rfl; change wpList _ _ _ _ _ _; have m0 := hx1.cell f1; go_wp2_with fail; exact ⟨rfl, Ext.refl _, rfl, rfl⟩
    · intro w1 hx1; rintro _ rfl; change wpList _ _ _ _ _ _; exact ob_assign rfl rfl rfl rfl rfl
    · intro w1 hx1; change wpList _ _ _ _ _ _; exact ob_assign rfl rfl rfl rfl rfl
  · intro w1 hx1; rintro _ rfl; rintro _ rfl; rintro _ rfl; rintro _ rfl; rintro _ rfl; rintro _ rfl; rintro _ rfl; rintro _ rfl; rintro _ rfl; rintro _ rfl; rintro _ rfl; rintro _ rfl; refine depsThen_nil ?_; dsimp only; simp only [Act.put, List.setIfInBounds_toArray, List.set_cons_zero, List.set_cons_succ]
    go_wp2_with fail
    go_ret2
    exact ⟨k, HMEM.out, HIE.out, rfl, HX2.out.trans hx1⟩
end Go.Proofs.YtckigoeomkphhaaGreat

namespace Go.Proofs.YtckigoeomkphhaaGreat
open Go.RowKit Go.MapKept

/-- Block b is an index that holds R, in memory from base on. -/
structure Ix (w : World) (base b bp bq : Nat) (R : SP) : Prop where
  ex : ∃ S Q, IdxR w base b bp bq S Q ∧ sS S = R
  le : base ≤ w.heap.size
  ne : bp ≠ bq
  lo : base ≤ bp ∧ base ≤ bq
  six : ∀ k ∈ R, k.2.length ≤ 6
  few : R.length ≤ 256
  ids : ∀ k ∈ R, (Lit.int .i64 k.1).wf = true
  nrm : ∀ k ∈ R, mayP k.2 = true ∧ normP k.2 = k.2
variable {w w1 w2 w' : World} {base b bp bq : Nat} {R : SP}
theorem Ix.ext (h : Ix w base b bp bq R) (hx : Ext w w') : Ix w' base b bp bq R := by
  obtain ⟨S, Q, hi, e⟩ := h.ex
  exact ⟨⟨S, Q, hi.ext hx, e⟩, Nat.le_trans h.le hx.size, h.ne, h.lo, h.six, h.few, h.ids, h.nrm⟩
theorem turnX_ext {W : World} (h : TurnX base bp bq w w') (hx : Ext W w) (hb : W.heap.size ≤ base) (hl : base ≤ bp ∧ base ≤ bq) : Ext W w' :=
  TurnT.ext h hx hb fun k hk => by rcases hk with rfl | rfl <;> omega
theorem ix_new (w : World) : Calls Tryz.prog 7 #[] w fun e w' => ∃ b bp bq, e = .returned (.pointer (some ⟨b, 0, none⟩)) ∧ Ix w' w.heap.size b bp bq [] ∧ Ext w w' := by
  refine (new08_any w).mono ?_
  rintro e w' ⟨b, bp, bq, rfl, hi, h1, h2, h3, h4, h5, hx⟩
  exact ⟨b, bp, bq, rfl, ⟨⟨[], [], hi, rfl⟩, hx.size, h4, ⟨h2, h3⟩, fun _ h => (by cases h), Nat.zero_le _, fun _ h => (by cases h), fun _ h => (by cases h)⟩, hx⟩
theorem addE_zero {S : SP} {id : Int} {p : List C} (h : addE S id p = 0) : 0 ≤ id ∧ mayP p = true ∧ hasS S id = false ∧ S.length < 256 := by
  unfold addE at h
  split at h
  · cases h
  · split at h
    · cases h
    · split at h
      · cases h
      · split at h
        · cases h
        · rename_i h1 h2 h3 h4
          refine ⟨by omega, by cases hm : mayP p <;> simp_all, by cases hm : hasS S id <;> simp_all, by omega⟩
theorem mem_addS {S : SP} {id : Int} {p : List C} {k : Int × List C} (h : k ∈ addS S id p) : k ∈ S ∨ (addE S id p = 0 ∧ k = (id, normP p)) := by
  unfold addS at h
  split at h
  · rename_i e
    rcases List.mem_append.1 h with h | h
    · exact .inl h
    · exact .inr ⟨e, List.mem_singleton.1 h⟩
  · exact .inl h
theorem addS_len {S : SP} {id : Int} {p : List C} (h : S.length ≤ 256) : (addS S id p).length ≤ 256 := by
  unfold addS
  split
  · rename_i e
    have := (addE_zero e).2.2.2
    rw [List.length_append, List.length_singleton]; omega
  · exact h
theorem lens6 {S : List PE} (h : sS S = R) (hs : ∀ k ∈ R, k.2.length ≤ 6) : ∀ k ∈ S, k.p.length ≤ 6 := fun k hk => hs (k.id, k.p) (by rw [← h]; unfold sS; exact List.mem_map.2 ⟨k, hk, rfl⟩)
theorem sS_few {S : List PE} (h : sS S = R) (hf : R.length ≤ 256) : S.length ≤ 256 := by rw [← h, sS_len] at hf; exact hf
theorem ix_add (h : Ix w base b bp bq R) (id : Int) (hid : (Lit.int .i64 id).wf = true) (v : Value) (p : List C) (hp : PredR w v p) :
    Calls Tryz.prog 8 #[.pointer (some ⟨b, 0, none⟩), .int .i64 id, v] w fun e w' => e = .returned (.int .i64 (addE R id p)) ∧ Ix w' base b bp bq (addS R id p) ∧ TurnX base bp bq w w' := by
  obtain ⟨S, Q, hi, hs⟩ := h.ex
  refine (add_any w base b bp bq S Q hi h.le h.ne (lens6 hs h.six) (sS_few hs h.few) id v p hp).mono ?_
  rintro e w' ⟨rfl, S', Q', hi', hs', ht, _⟩
  rw [hs] at hs' ⊢
  refine ⟨rfl, ⟨⟨S', Q', hi', hs'⟩, Nat.le_trans h.le ht.size, h.ne, h.lo, fun k hk => ?_, addS_len h.few, fun k hk => ?_, fun k hk => ?_⟩, ht⟩
  · rcases mem_addS hk with hk | ⟨h0, rfl⟩
    · exact h.six k hk
    · have h1 := normP_len p
      have h2 := may_len (addE_zero h0).2.1
      show (normP p).length ≤ 6
      omega
  · rcases mem_addS hk with hk | ⟨h0, rfl⟩
    · exact h.ids k hk
    · exact hid
  · rcases mem_addS hk with hk | ⟨h0, rfl⟩
    · exact h.nrm k hk
    · exact ⟨normP_may (addE_zero h0).2.1, normP_idem p⟩
theorem ix_del (h : Ix w base b bp bq R) (id : Int) :
    Calls Tryz.prog 9 #[.pointer (some ⟨b, 0, none⟩), .int .i64 id] w fun e w' => e = .returned (.int .i64 (delE R id)) ∧ Ix w' base b bp bq (delS R id) ∧ TurnX base bp bq w w' := by
  obtain ⟨S, Q, hi, hs⟩ := h.ex
  refine (remove_any w base b bp bq S Q hi h.le h.ne (lens6 hs h.six) (sS_few hs h.few) id).mono ?_
  rintro e w' ⟨rfl, S', Q', hi', hs', ht⟩
  rw [hs] at hs' ⊢
  exact ⟨rfl, ⟨⟨S', Q', hi', hs'⟩, Nat.le_trans h.le ht.size, h.ne, h.lo, fun k hk => h.six k (List.mem_filter.1 hk).1, Nat.le_trans (List.length_filter_le _ _) h.few, fun k hk => h.ids k (List.mem_filter.1 hk).1, fun k hk => h.nrm k (List.mem_filter.1 hk).1⟩, ht⟩
theorem ix_looks (h : Ix w base b bp bq R) (key : List UInt8) (va : Value) (l : List AT) (hv : AttrR w va l) :
    Calls Tryz.prog 13 #[.pointer (some ⟨b, 0, none⟩), .agg #[.string (strOf key), va]] w fun e w' => e = .returned (.int .i64 ((pairsOf R l).length : Nat)) ∧ Ext w w' := by
  obtain ⟨S, Q, hi, hs⟩ := h.ex
  rw [← hs]
  exact looks_any w base b bp bq S Q hi (lens6 hs h.six) (sS_few hs h.few) key va l hv
theorem Ix.idsS {S : List PE} (h : Ix w base b bp bq R) (hs : sS S = R) : ∀ k ∈ S, (Lit.int .i64 k.id).wf = true := fun k hk => h.ids (k.id, k.p) (by rw [← hs]; unfold sS; exact List.mem_map.2 ⟨k, hk, rfl⟩)
theorem ix_match (h : Ix w base b bp bq R) (L : SP) (hL : RelSL R L) (key : List UInt8) (va : Value) (l : List AT) (hv : AttrR w va l) :
    Calls Tryz.prog 10 #[.pointer (some ⟨b, 0, none⟩), .agg #[.string (strOf key), va]] w fun e w' => ∃ (a : Option Addr) (cap : Nat), e = .returned (.slice a ((L.filter fun k => matchP k.2 l).map (·.1)).length cap) ∧ w'.ownsRow w.heap.size 3 1 (.slice a ((L.filter fun k => matchP k.2 l).map (·.1)).length cap) ((L.filter fun k => matchP k.2 l).map (·.1)).length (((L.filter fun k => matchP k.2 l).map (·.1)).flatMap iC1) ∧ Ext w w' := by
  obtain ⟨S, Q, hi, hs⟩ := h.ex
  refine (match_any w base b bp bq S Q hi (lens6 hs h.six) (sS_few hs h.few) (h.idsS hs) key va l hv).mono ?_
  rintro e w' ⟨v, r, rfl, ho, hr, _, hx⟩
  have e1 := hr L (by rw [hs]; exact hL)
  subst e1
  obtain ⟨a, cap, rfl, _, _⟩ := own_shape ho
  exact ⟨a, cap, rfl, ho, hx⟩
theorem ix_ids (h : Ix w base b bp bq R) (L : SP) (hL : RelSL R L) :
    Calls Tryz.prog 12 #[.pointer (some ⟨b, 0, none⟩)] w fun e w' => ∃ (a : Option Addr) (cap : Nat), e = .returned (.slice a (L.map (·.1)).length cap) ∧ w'.ownsRow w.heap.size 3 1 (.slice a (L.map (·.1)).length cap) (L.map (·.1)).length ((L.map (·.1)).flatMap iC1) ∧ Ext w w' := by
  obtain ⟨S, Q, hi, hs⟩ := h.ex
  refine (ids_any w base b bp bq S Q hi (sS_few hs h.few) (h.idsS hs)).mono ?_
  rintro e w' ⟨v, r, rfl, h1, h2, ho, hx⟩
  rw [hs] at h1
  have e1 := hL.ids h1 h2
  subst e1
  obtain ⟨a, cap, rfl, _, _⟩ := own_shape ho
  exact ⟨a, cap, rfl, ho, hx⟩
def predOf (R : SP) (id : Int) : List C := match R.find? (fun k => decide (k.1 = id)) with | none => [] | some k => k.2
theorem predS_of {S : List PE} (hs : sS S = R) (id : Int) : predS S id = predOf R id := by
  subst hs
  unfold predS predOf findS sS
  rw [List.find?_map]
  have e : ((fun k : Int × List C => decide (k.1 = id)) ∘ fun k : PE => (k.id, k.p)) = fun k => decide (k.id = id) := rfl
  rw [e]
  cases List.find? (fun k : PE => decide (k.id = id)) S <;> rfl
theorem predOf_mem {id : Int} (h : hasS R id = true) : (id, predOf R id) ∈ R := by
  obtain ⟨k, hk, e⟩ := hasS_iff.1 h
  have h1 : (R.find? fun k => decide (k.1 = id)).isSome = true := List.find?_isSome.2 ⟨k, hk, decide_eq_true e⟩
  obtain ⟨x, hx⟩ := Option.isSome_iff_exists.1 h1
  have h2 : x.1 = id := of_decide_eq_true (List.find?_some (p := fun k : Int × List C => decide (k.1 = id)) hx)
  have h3 := List.mem_of_find?_eq_some hx
  unfold predOf
  rw [hx, ← h2]
  exact h3
theorem ix_get_no (h : Ix w base b bp bq R) (id : Int) (hh : hasS R id = false) :
    Calls Tryz.prog 11 #[.pointer (some ⟨b, 0, none⟩), .int .i64 id] w fun e w' => e = .returned (.tuple #[.slice none 0 0, .bool false]) ∧ Ext w w' := by
  obtain ⟨S, Q, hi, hs⟩ := h.ex
  exact get_no w base b bp bq S Q hi id (by rw [hs]; exact hh)
theorem ix_get_yes (h : Ix w base b bp bq R) (id : Int) (hh : hasS R id = true) :
    Calls Tryz.prog 11 #[.pointer (some ⟨b, 0, none⟩), .int .i64 id] w fun e w' => ∃ (a : Option Addr) (cap : Nat) (us : List CS), e = .returned (.tuple #[.slice a us.length cap, .bool true]) ∧ us.map CS.c = predOf R id ∧ w'.ownsRow w.heap.size 52 7 (.slice a us.length cap) us.length (us.flatMap csC) ∧ (∀ x ∈ us, SetO w.heap.size w' x) ∧ Ext w w' := by
  obtain ⟨S, Q, hi, hs⟩ := h.ex
  refine (get_yes w base b bp bq S Q hi id (by rw [hs]; exact hh)).mono ?_
  rintro e w' ⟨a, cap, us, rfl, hu, h1, h2, hx⟩
  rw [predS_of hs] at hu
  obtain ⟨h3, h4⟩ := h.nrm _ (predOf_mem hh)
  unfold nfT at hu
  rw [if_pos h3, h4] at hu
  exact ⟨a, cap, us, rfl, hu, h1, h2, hx⟩

/-! None. -/
set_option maxHeartbeats 4000000 in
theorem nadd_any (w : World) (id : Int) : Calls Tryz.prog 8 #[.pointer none, .int .i64 id, .slice none 0 0] w fun e w' => e = .returned (.int .i64 2) ∧ Ext w w' := by
  go_enter Tryz.func8, Tryz.ntmps8
  go_wp2
  go_ret
  exact ⟨rfl, Ext.refl _⟩
set_option maxHeartbeats 4000000 in
theorem ndel_any (w : World) (id : Int) : Calls Tryz.prog 9 #[.pointer none, .int .i64 id] w fun e w' => e = .returned (.int .i64 2) ∧ Ext w w' := by
  go_enter Tryz.func9, Tryz.ntmps9
  go_wp2
  go_ret
  exact ⟨rfl, (Ext.refl w).alloc _⟩
set_option maxHeartbeats 4000000 in
theorem nget_any (w : World) (id : Int) : Calls Tryz.prog 11 #[.pointer none, .int .i64 id] w fun e w' => e = .returned (.tuple #[.slice none 0 0, .bool false]) ∧ Ext w w' := by
  go_enter Tryz.func11, Tryz.ntmps11
  go_wp2
  go_ret2
  exact ⟨rfl, Ext.refl _⟩
set_option maxHeartbeats 4000000 in
theorem nids_any (w : World) : Calls Tryz.prog 12 #[.pointer none] w fun e w' => e = .returned (.slice none 0 0) ∧ Ext w w' := by
  go_enter Tryz.func12, Tryz.ntmps12
  go_wp2
  go_ret
  exact ⟨rfl, Ext.refl _⟩
set_option maxHeartbeats 4000000 in
theorem nasked_any (w : World) (s : ByteArray) (a : Option Addr) (n c : Nat) (f : Fn) (x y : Array Value) : Calls Tryz.prog 31 #[.pointer none, .agg #[.string s, .slice a n c], .func f x y] w fun e w' => e = .returned (.tuple #[]) ∧ w' = w.alloc (.cells #[.string s, .slice a n c] 34) := by
  go_enter Tryz.func31, Tryz.ntmps31
  go_wp2
  exact bodyPost_ret (v := .tuple #[]) (by simp [results, Tryz.results31, go_sem]) rfl ⟨rfl, rfl⟩
set_option maxHeartbeats 4000000 in
theorem nlooks_any (w : World) (s : ByteArray) (a : Option Addr) (n c : Nat) : Calls Tryz.prog 13 #[.pointer none, .agg #[.string s, .slice a n c]] w fun e w' => e = .returned (.int .i64 0) ∧ Ext w w' := by
  obtain ⟨hx, hb1, hb2, hb3⟩ := boxes3 w (.cells #[.string s, .slice a n c] 34) (.cells #[.int .i64 0] 3) (.cells #[.string s, .slice a n c] 34)
  obtain ⟨_, hc1, hc2⟩ := boxes2 w (.cells #[.string s, .slice a n c] 34) (.cells #[.int .i64 0] 3)
  have e0 := cell_of_row _ _ 0 _ _ _ hc1
  have e1 := cell_of_row _ _ 1 _ _ _ hc1
  have f0 := cell_of_row _ _ 0 _ _ _ hb2
  have HX := Lib.hid hx
  clear hx hb1 hb2 hb3 hc1 hc2
  go_enter Tryz.func13, Tryz.ntmps13
  go_wp2_with (go_at_call 31; (with_reducible refine (nasked_any _ s a n c _ _ _).mono ?_); rintro e w5 ⟨rfl, rfl⟩)
  go_ret
  exact ⟨rfl, HX.out⟩
set_option maxHeartbeats 4000000 in
theorem nidxI_any (w : World) (g : Nat) (cb : Array Value) : Calls Tryz.prog 57 #[.slice none 0 0, .func (.func g) #[] cb] w fun e w' => e = .returned (.int .i64 (-1)) ∧ Ext w w' := by
  go_enter Tryz.func57, Tryz.ntmps57
  go_wp2_with fail
  refine wp_loop_rounds 1 ?_
  rw [rounds_succ]
  go_wp2_with fail
  go_ret
  exact ⟨rfl, Ext.refl _⟩
set_option maxHeartbeats 4000000 in
theorem ndelI_any (w : World) (g : Nat) (cb : Array Value) : Calls Tryz.prog 34 #[.slice none 0 0, .func (.func g) #[] cb] w fun e w' => e = .returned (.slice none 0 0) ∧ Ext w w' := by
  go_enter Tryz.func34, Tryz.ntmps34
  go_wp2_with (go_at_call 57; (with_reducible refine (nidxI_any _ g cb).mono ?_); rintro e w1 ⟨rfl, hx1⟩; have HX := Lib.hid hx1; clear hx1)
  go_ret
  exact ⟨rfl, HX.out⟩
set_option maxHeartbeats 4000000 in
theorem nmatch_any (w : World) (s : ByteArray) (a : Option Addr) (n c : Nat) : Calls Tryz.prog 10 #[.pointer none, .agg #[.string s, .slice a n c]] w fun e w' => e = .returned (.slice none 0 0) ∧ Ext w w' := by
  obtain ⟨hx4, hb1, hb2, hb3, hb4⟩ := boxes4 w (.cells #[.pointer none] 23) (.cells #[.string s, .slice a n c] 34) (.map #[] 0) (.cells #[.map (some (w.heap.size + 1 + 1))] 80)
  have hmk : (Instr.makeMap 80 none).run Tryz.prog ((w.alloc (.cells #[.pointer none] 23)).alloc (.cells #[.string s, .slice a n c] 34)) = .ok (.map (some (w.heap.size + 1 + 1))) (((w.alloc (.cells #[.pointer none] 23)).alloc (.cells #[.string s, .slice a n c] 34)).alloc (.map #[] 0)) := by
    have h := run_makeMap (P := Tryz.prog) 80 ((w.alloc (.cells #[.pointer none] 23)).alloc (.cells #[.string s, .slice a n c] 34))
    rw [World.size_alloc, World.size_alloc] at h
    exact h
  have e0 := cell_of_row _ _ 0 _ _ _ hb1
  have e1 := cell_of_row _ _ 0 _ _ _ hb2
  have e2 := cell_of_row _ _ 1 _ _ _ hb2
  have hx5 := (Ext.refl ((((w.alloc (.cells #[.pointer none] 23)).alloc (.cells #[.string s, .slice a n c] 34)).alloc (.map #[] 0)).alloc (.cells #[.map (some (w.heap.size + 1 + 1))] 80))).alloc (.cells #[.string s, .slice a n c] 34)
  have g0 := hx5.cell e0
  have HX := Lib.hid (hx4.trans hx5)
  clear hx4 hb1 hb2 hb3 hb4 hx5
  go_enter Tryz.func10, Tryz.ntmps10
  go_upto_region 3 with (go_at_call 31; (with_reducible refine (nasked_any _ s a n c _ _ _).mono ?_); rintro e w5 ⟨rfl, rfl⟩)
  go_wp2_with (first
    | (go_at_call 12; (with_reducible refine (nids_any _).mono ?_); rintro e w6 ⟨rfl, hx6⟩; have HX6 := Lib.hid hx6; clear hx6)
    | (go_at_call 34; (with_reducible refine (ndelI_any _ _ _).mono ?_); rintro e w7 ⟨rfl, hx7⟩; have HX7 := Lib.hid hx7; clear hx7))
  go_ret
  exact ⟨rfl, (HX.out.trans HX6.out).trans HX7.out⟩
end Go.Proofs.YtckigoeomkphhaaGreat

namespace Go.Proofs.YtckigoeomkphhaaGreat
open Go.RowKit Go.Sort

theorem set_lit (w : World) (l : List V) (hm : l.length ≤ maxLen) : SetR (w.alloc (.cells (l.flatMap vC).toArray 49)) (.slice (some ⟨w.heap.size, 0, none⟩) l.length l.length) l :=
  Row.of_own (World.ownsRow_lit (base := w.heap.size) (e := 49) (size := 4) w (l.flatMap vC).toArray l.length (Nat.le_refl _) hm (by simp only [List.size_toArray]; exact flat_len vC 4 vC_len l))
theorem pred_lit (w : World) (us : List CS) (hm : us.length ≤ maxLen) (hs : ∀ x ∈ us, SetR w x.h x.c.set) : PredR (w.alloc (.cells (us.flatMap csC).toArray 52)) (.slice (some ⟨w.heap.size, 0, none⟩) us.length us.length) (us.map CS.c) :=
  PredR.mk us (Row.of_own (World.ownsRow_lit (base := w.heap.size) (e := 52) (size := 7) w (us.flatMap csC).toArray us.length (Nat.le_refl _) hm (by simp only [List.size_toArray]; exact flat_len csC 7 csC_len us))) fun x hx => (hs x hx).ext ((Ext.refl w).alloc _)
theorem attr_lit (w : World) (l : List (List UInt8 × V)) (hm : l.length ≤ maxLen) : AttrR (w.alloc (.cells (l.flatMap aC).toArray 66)) (.slice (some ⟨w.heap.size, 0, none⟩) l.length l.length) l :=
  Row.of_own (World.ownsRow_lit (base := w.heap.size) (e := 66) (size := 5) w (l.flatMap aC).toArray l.length (Nat.le_refl _) hm (by simp only [List.size_toArray]; exact flat_len aC 5 aC_len l))

set_option maxRecDepth 100000 in
theorem lawN_any (w : World) (n : Int) : Calls Tryz.prog 24 #[.int .i64 n] w fun e w' => e = .returned (.agg #[.int .i64 1, .int .i64 n, .string ⟨#[]⟩, .bool false]) ∧ Ext w w' := by
  go_enter Tryz.func24, Tryz.ntmps24
  go_wp2
  have hR := heap_alloc_new w (.cells #[.int .i64 1, .int .i64 n, .string ⟨#[]⟩, .bool false] 49)
  have r0 := cell_of_row _ _ 0 _ _ _ hR
  have r1 := cell_of_row _ _ 1 _ _ _ hR
  have r2 := cell_of_row _ _ 2 _ _ _ hR
  have r3 := cell_of_row _ _ 3 _ _ _ hR
  refine bodyPost_ret (v := .agg #[.int .i64 1, .int .i64 n, .string ⟨#[]⟩, .bool false]) (by simp [results, Tryz.results24, go_sem, r0, r1, r2, r3]) rfl ⟨rfl, (Ext.refl w).alloc _⟩
set_option maxRecDepth 100000 in
theorem lawS_any (w : World) (s : ByteArray) : Calls Tryz.prog 27 #[.string s] w fun e w' => e = .returned (.agg #[.int .i64 2, .int .i64 0, .string s, .bool false]) ∧ Ext w w' := by
  go_enter Tryz.func27, Tryz.ntmps27
  go_wp2
  have hR := heap_alloc_new w (.cells #[.int .i64 2, .int .i64 0, .string s, .bool false] 49)
  have r0 := cell_of_row _ _ 0 _ _ _ hR
  have r1 := cell_of_row _ _ 1 _ _ _ hR
  have r2 := cell_of_row _ _ 2 _ _ _ hR
  have r3 := cell_of_row _ _ 3 _ _ _ hR
  refine bodyPost_ret (v := .agg #[.int .i64 2, .int .i64 0, .string s, .bool false]) (by simp [results, Tryz.results27, go_sem, r0, r1, r2, r3]) rfl ⟨rfl, (Ext.refl w).alloc _⟩
set_option maxRecDepth 100000 in
theorem lawE_any (w : World) (a : Option Addr) (n c : Nat) : Calls Tryz.prog 25 #[.slice a n c] w fun e w' => e = .returned (.agg #[.string ⟨#[]⟩, .slice a n c]) ∧ Ext w w' := by
  go_enter Tryz.func25, Tryz.ntmps25
  go_wp2
  have hR := heap_alloc_new w (.cells #[.string ⟨#[]⟩, .slice a n c] 34)
  have r0 := cell_of_row _ _ 0 _ _ _ hR
  have r1 := cell_of_row _ _ 1 _ _ _ hR
  refine bodyPost_ret (v := .agg #[.string ⟨#[]⟩, .slice a n c]) (by simp [results, Tryz.results25, go_sem, r0, r1]) rfl ⟨rfl, (Ext.refl w).alloc _⟩
set_option maxRecDepth 100000 in
theorem lawA_any (w : World) (s t : ByteArray) (k n : Int) (b : Bool) : Calls Tryz.prog 26 #[.string s, .agg #[.int .i64 k, .int .i64 n, .string t, .bool b]] w fun e w' => e = .returned (.agg #[.string s, .int .i64 k, .int .i64 n, .string t, .bool b]) ∧ Ext w w' := by
  go_enter Tryz.func26, Tryz.ntmps26
  go_wp2
  have hR := heap_alloc_new (w.alloc (.cells #[.int .i64 k, .int .i64 n, .string t, .bool b] 49)) (.cells #[.string s, .int .i64 k, .int .i64 n, .string t, .bool b] 66)
  rw [World.size_alloc] at hR
  have r0 := cell_of_row _ _ 0 _ _ _ hR
  have r1 := cell_of_row _ _ 1 _ _ _ hR
  have r2 := cell_of_row _ _ 2 _ _ _ hR
  have r3 := cell_of_row _ _ 3 _ _ _ hR
  have r4 := cell_of_row _ _ 4 _ _ _ hR
  refine bodyPost_ret (v := .agg #[.string s, .int .i64 k, .int .i64 n, .string t, .bool b]) (by simp [results, Tryz.results26, go_sem, r0, r1, r2, r3, r4]) rfl ⟨rfl, ((Ext.refl w).alloc _).alloc _⟩

/-! awake -/
def vN1 (n : Int) : V := ⟨1, n, [], false⟩
def aP : List C := [⟨[97], 7, vN1 5, []⟩, ⟨[97], 4, vN1 9, []⟩]
def aQ : List C := [⟨[98], 1, ⟨0, 0, [], false⟩, []⟩, ⟨[97], 9, ⟨0, 0, [], false⟩, [vN1 2, vN1 1, vN1 2]⟩, ⟨[98], 1, ⟨0, 0, [], false⟩, []⟩]
def aR : List C := [⟨[97], 9, ⟨0, 0, [], false⟩, [vN1 1, vN1 2]⟩, ⟨[98], 1, ⟨0, 0, [], false⟩, []⟩]
theorem aQ_may : mayP aQ = true := by kernel_rfl
theorem aQ_norm : normP aQ = aR := by kernel_rfl
theorem aR_same : decide (cmpP (normP aQ) aR = 0) = true := by kernel_rfl
theorem aP1 : matchP aP [([97], vN1 5)] = true := by kernel_rfl
theorem aP2 : matchP aP [([97], vN1 9)] = false := by kernel_rfl
theorem aP3 : matchP aP [([97], ⟨2, 0, [53], false⟩)] = false := by kernel_rfl
theorem aP4 : matchP aP [] = false := by kernel_rfl

end Go.Proofs.YtckigoeomkphhaaGreat

namespace Go.Proofs.YtckigoeomkphhaaGreat
open Go.RowKit Go.MapKept
variable {w w1 w2 w' : World} {base b bp bq : Nat} {R : SP}

theorem own_int {w : World} {b : Nat} {v : Value} {l : List Int} (h : w.ownsRow b 3 1 v l.length (l.flatMap iC1)) : IntR w v l := Row.of_own h
theorem int_lit (w : World) (l : List Int) (hm : l.length ≤ maxLen) : IntR (w.alloc (.cells (l.flatMap iC1).toArray 3)) (.slice (some ⟨w.heap.size, 0, none⟩) l.length l.length) l := by
  have h := World.ownsRow_lit (base := w.heap.size) (e := 3) (size := 1) w (l.flatMap iC1).toArray l.length (Nat.le_refl _) hm (by rw [List.size_toArray, flat_len iC1 1 iC1_len])
  exact Row.of_own h
set_option maxRecDepth 100000 in
set_option maxHeartbeats 4000000 in
theorem samei_any (w : World) (v1 v2 : Value) (l1 l2 : List Int) (h1 : IntR w v1 l1) (h2 : IntR w v2 l2) :
    Calls Tryz.prog 17 #[v1, v2] w fun e w' => e = .returned (.bool (decide (l1 = l2))) ∧ Ext w w' := by
  obtain ⟨a1, c1, rfl, hc1, hm1⟩ := Row.shape h1
  obtain ⟨a2, c2, rfl, hc2, hm2⟩ := Row.shape h2
  unfold maxLen at hm1 hm2
  by_cases hl : l1.length = l2.length
  · obtain ⟨n, hn⟩ : ∃ n, n = l1.length := ⟨_, rfl⟩
    have hn2 : l2.length = n := by omega
    have HN := Lib.hid hn
    have HN2 := Lib.hid hn2
    rw [hn2] at h2 hc2 ⊢
    rw [← hn] at h1 hc1 ⊢
    have H1 := Lib.hid h1
    have H2 := Lib.hid h2
    have t1 : ((n : Int) != (n : Int)) = false := by simp
    clear hn hn2 hl h1 h2
    go_enter Tryz.func17, Tryz.ntmps17
    go_wp2_with fail
    go_loopw [5] (fun i wr => ∃ k : Nat, k ≤ n ∧ i = .int .i64 k ∧ Hid (l1.take k = l2.take k) ∧ Hid (Ext w wr)) (fun i _ => n - (intOf i).toNat)
    case atStart => exact ⟨0, Nat.zero_le _, rfl, rfl, Ext.refl _⟩
    case round =>
      obtain ⟨k, hk, rfl, hsame, hx⟩ := hrel
      by_cases hlt : k < n
      · have hI : decide ((k : Int) < (n : Int)) = true := decide_eq_true (by omega)
        have hkN : (k : Int) < (n : Int) := by omega
        have k1 : k < l1.length := by have := HN.out; omega
        have k2 : k < l2.length := by have := HN2.out; omega
        obtain ⟨B1, o1, rfl, f1⟩ := (IntR.ext H1.out hx.out).at k1
        obtain ⟨B2, o2, rfl, f2⟩ := (IntR.ext H2.out hx.out).at k2
        by_cases he : l1[k] = l2[k]
        · have hnx : l1.take (k + 1) = l2.take (k + 1) := by rw [List.take_succ_eq_append_getElem k1, List.take_succ_eq_append_getElem k2, hsame.out, he]
          have HNX := Lib.hid hnx
          rw [← he] at f2
          clear he hnx
          generalize l1[k] = z at *
          have t2 : (z != z) = false := by simp
          go_upto_region 6 with fail
          go_region
          all_goals
            go_wp2_with fail
            go_roundw
            case rel => exact ⟨k + 1, hlt, by go_num, HNX.out, hx.out.drew⟩
            case measure => simp [intOf]; omega
        · have hne : l1 ≠ l2 := fun e => he (by simp [e])
          have HNE := Lib.hid hne
          have t2 : (l1[k] != l2[k]) = true := bne_iff_ne.2 he
          clear he hne
          generalize l1[k] = z at *
          generalize l2[k] = y at *
          go_upto_region 6 with fail
          go_region
          all_goals
            go_wp2_with fail
            go_ret
            exact ⟨by rw [decide_eq_false HNE.out]; rfl, hx.out.drew⟩
      · obtain rfl : k = n := by omega
        have hI : decide ((k : Int) < (k : Int)) = false := decide_eq_false (by omega)
        have heq : l1 = l2 := by
          have h := hsame.out
          rwa [List.take_of_length_le (by have := HN.out; omega), List.take_of_length_le (by have := HN2.out; omega)] at h
        have HEQ := Lib.hid heq
        clear heq
        go_wp2_with fail
        go_ret
        exact ⟨by rw [decide_eq_true HEQ.out]; rfl, hx.out⟩
  · have hne : l1 ≠ l2 := fun e => hl (by rw [e])
    have t1 : ((l1.length : Int) != (l2.length : Int)) = true := bne_iff_ne.2 (by omega)
    have HNE := Lib.hid hne
    clear hl hne h1 h2
    generalize l1.length = n1 at *
    generalize l2.length = n2 at *
    go_enter Tryz.func17, Tryz.ntmps17
    go_wp2_with fail
    go_ret
    exact ⟨by rw [decide_eq_false HNE.out]; rfl, Ext.refl _⟩
end Go.Proofs.YtckigoeomkphhaaGreat

namespace Go.Proofs.YtckigoeomkphhaaGreat
open Go.RowKit Go.MapKept
variable {w w1 w2 w' : World} {base b bp bq : Nat} {R : SP}

def mC1 : C := ⟨[97], 7, ⟨1, 1, [], false⟩, []⟩
def mC2 : C := ⟨[97], 4, ⟨1, 1, [], false⟩, []⟩
def mC3 : C := ⟨[98], 1, ⟨0, 0, [], false⟩, []⟩
def mE1 : List AT := [([97], ⟨1, 1, [], false⟩)]
def mE2 : List AT := [([97], ⟨1, 0, [], false⟩), ([98], ⟨2, 0, [], false⟩)]
def mR1 : SP := [(5, [mC1])]
def mR2 : SP := [(5, [mC1]), (2, [])]
def mR3 : SP := [(5, [mC1]), (2, []), (9, [mC2, mC3])]
def mL3 : SP := [(2, []), (5, [mC1]), (9, [mC2, mC3])]
theorem mS1 : addE [] 5 [mC1] = 0 ∧ addS [] 5 [mC1] = mR1 := by constructor <;> kernel_rfl
theorem mS2 : addE mR1 2 [] = 0 ∧ addS mR1 2 [] = mR2 := by constructor <;> kernel_rfl
theorem mS3 : addE mR2 9 [mC2, mC3] = 0 ∧ addS mR2 9 [mC2, mC3] = mR3 := by constructor <;> kernel_rfl
theorem mRel : RelSL mR3 mL3 := ⟨by unfold mR3 mL3; exact List.Perm.swap _ _ _, by unfold mL3; simp⟩
theorem mM1 : (mL3.filter fun k => matchP k.2 mE1).map (·.1) = [2, 5] := by kernel_rfl
theorem mM2 : (mL3.filter fun k => matchP k.2 mE2).map (·.1) = [2, 9] := by kernel_rfl
theorem mK1 : (pairsOf mR3 mE1).length = 2 := by kernel_rfl
theorem lit_pred (w : World) (us : List CS) (hm : us.length ≤ 100) (hs : ∀ x ∈ us, x.c.set = [] ∧ x.h = .slice none 0 0) : PredR (w.alloc (.cells (us.flatMap csC).toArray 52)) (.slice (some ⟨w.heap.size, 0, none⟩) us.length us.length) (us.map CS.c) :=
  pred_lit w us (by unfold maxLen; omega) fun x hx => by rw [(hs x hx).1, (hs x hx).2]; exact SetR.nil _

set_option maxRecDepth 100000 in
set_option maxHeartbeats 16000000 in
theorem awake08_any (w : World) : Calls Tryz.prog 6 #[] w fun e w' => e = .returned (.bool true) ∧ Ext w w' := by
  go_enter Tryz.func6, Tryz.ntmps6
  go_upto_region 2 with (go_at_call 7; (with_reducible refine (ix_new w).mono ?_); rintro e w1 ⟨b, bp, bq, rfl, hi, hx⟩; have HI := Lib.hid hi; have HX := Lib.hid hx; clear hi hx)
  have HLO := Lib.hid HI.out.lo
  go_wp2_with fail
  (with_reducible refine (lawN_any _ 1).mono ?_); rintro e w2 ⟨rfl, hx⟩
  have HI2 := Lib.hid (HI.out.ext hx); have HX2 := Lib.hid (HX.out.trans hx); clear hx HI HX
  have hp1 : PredR (w2.alloc (.cells #[.string ⟨#[97]⟩, .int .i64 7, .int .i64 1, .int .i64 1, .string ⟨#[]⟩, .bool false, .slice none 0 0] 52)) (.slice (some ⟨w2.heap.size, 0, none⟩) 1 1) [mC1] := lit_pred w2 [⟨mC1, .slice none 0 0⟩] (by decide) (by intro x hx; rw [List.mem_singleton.1 hx]; exact ⟨rfl, rfl⟩)
  have hxa : Ext w2 (w2.alloc (.cells #[.string ⟨#[97]⟩, .int .i64 7, .int .i64 1, .int .i64 1, .string ⟨#[]⟩, .bool false, .slice none 0 0] 52)) := (Ext.refl w2).alloc _
  have hca := ix_add (HI2.out.ext hxa) 5 (by decide) _ _ hp1
  rw [mS1.1, mS1.2] at hca
  have HCA := Lib.hid hca
  have HX3 := Lib.hid (HX2.out.trans hxa)
  clear hca hp1 hxa HI2 HX2
  go_wp2_with fail
  (with_reducible refine HCA.out.mono ?_); rintro e w3 ⟨rfl, hi, ht⟩
  have HI3 := Lib.hid hi; have HX4 := Lib.hid (turnX_ext ht HX3.out (Nat.le_refl _) HLO.out); clear hi ht HX3 HCA
  have hcb := ix_add HI3.out 2 (by decide) (.slice none 0 0) [] (PredR.nil _)
  rw [mS2.1, mS2.2] at hcb
  have HCB := Lib.hid hcb
  clear hcb
  go_wp2_with fail
  (with_reducible refine HCB.out.mono ?_); rintro e w4 ⟨rfl, hi, ht⟩
  have HI4 := Lib.hid hi; have HX5 := Lib.hid (turnX_ext ht HX4.out (Nat.le_refl _) HLO.out); clear hi ht HX4 HCB HI3
  go_wp2_with fail
  (with_reducible refine (lawN_any _ 1).mono ?_); rintro e w5 ⟨rfl, hx⟩
  have HI5 := Lib.hid (HI4.out.ext hx); have HX6 := Lib.hid (HX5.out.trans hx); clear hx HI4 HX5
  have hp3 : PredR (w5.alloc (.cells #[.string ⟨#[97]⟩, .int .i64 4, .int .i64 1, .int .i64 1, .string ⟨#[]⟩, .bool false, .slice none 0 0, .string ⟨#[98]⟩, .int .i64 1, .int .i64 0, .int .i64 0, .string ⟨#[]⟩, .bool false, .slice none 0 0] 52)) (.slice (some ⟨w5.heap.size, 0, none⟩) 2 2) [mC2, mC3] := lit_pred w5 [⟨mC2, .slice none 0 0⟩, ⟨mC3, .slice none 0 0⟩] (by decide) (by intro x hx; simp only [List.mem_cons, List.not_mem_nil, or_false] at hx; rcases hx with rfl | rfl <;> exact ⟨rfl, rfl⟩)
  have hxc : Ext w5 (w5.alloc (.cells #[.string ⟨#[97]⟩, .int .i64 4, .int .i64 1, .int .i64 1, .string ⟨#[]⟩, .bool false, .slice none 0 0, .string ⟨#[98]⟩, .int .i64 1, .int .i64 0, .int .i64 0, .string ⟨#[]⟩, .bool false, .slice none 0 0] 52)) := (Ext.refl w5).alloc _
  have hcc := ix_add (HI5.out.ext hxc) 9 (by decide) _ _ hp3
  rw [mS3.1, mS3.2] at hcc
  have HCC := Lib.hid hcc
  have HX7 := Lib.hid (HX6.out.trans hxc)
  clear hcc hp3 hxc HI5 HX6
  go_wp2_with fail
  (with_reducible refine HCC.out.mono ?_); rintro e w6 ⟨rfl, hi, ht⟩
  have HI6 := Lib.hid hi; have HX8 := Lib.hid (turnX_ext ht HX7.out (Nat.le_refl _) HLO.out); clear hi ht HX7 HCC
  go_wp2_with fail
  (with_reducible refine (lawN_any _ 1).mono ?_); rintro e w7 ⟨rfl, hx⟩
  have HI7 := Lib.hid (HI6.out.ext hx); have HX9 := Lib.hid (HX8.out.trans hx); clear hx HI6 HX8
  go_wp2_with fail
  (with_reducible refine (lawA_any _ _ _ _ _ _).mono ?_); rintro e w8 ⟨rfl, hx⟩
  have HI8 := Lib.hid (HI7.out.ext hx); have HXA := Lib.hid (HX9.out.trans hx); clear hx HI7 HX9
  have ha1 : AttrR (w8.alloc (.cells #[.string ⟨#[97]⟩, .int .i64 1, .int .i64 1, .string ⟨#[]⟩, .bool false] 66)) (.slice (some ⟨w8.heap.size, 0, none⟩) 1 1) mE1 := attr_lit w8 mE1 (by decide)
  have hxa : Ext w8 (w8.alloc (.cells #[.string ⟨#[97]⟩, .int .i64 1, .int .i64 1, .string ⟨#[]⟩, .bool false] 66)) := (Ext.refl w8).alloc _
  have HA1 := Lib.hid ha1
  have HIA := Lib.hid (HI8.out.ext hxa); have HXB := Lib.hid (HXA.out.trans hxa)
  clear ha1 hxa HI8 HXA
  go_wp2_with fail
  generalize hb8 : w8.heap.size = b8 at *
  generalize w8.alloc (.cells #[.string ⟨#[97]⟩, .int .i64 1, .int .i64 1, .string ⟨#[]⟩, .bool false] 66) = w9 at *
  clear hb8
  (with_reducible refine (lawE_any _ _ _ _).mono ?_); rintro e wA ⟨rfl, hx⟩
  have HIB := Lib.hid (HIA.out.ext hx); have HXC := Lib.hid (HXB.out.trans hx); have HA2 := Lib.hid (HA1.out.ext hx); clear hx HIA HXB HA1
  obtain ⟨hxb, hbb⟩ := boxes1 wA (.cells #[.string ⟨#[]⟩, .slice (some ⟨b8, 0, none⟩) 1 1] 34)
  have HBB := Lib.hid hbb
  have HIC := Lib.hid (HIB.out.ext hxb); have HXD := Lib.hid (HXC.out.trans hxb); have HA3 := Lib.hid (HA2.out.ext hxb)
  clear hxb hbb HIB HXC HA2
  go_upto_region 5 with fail
  generalize hbA : wA.heap.size = bA at *
  generalize wA.alloc (.cells #[.string ⟨#[]⟩, .slice (some ⟨b8, 0, none⟩) 1 1] 34) = wB at *
  clear hbA
  go_wp2_with fail
  (with_reducible refine (lawN_any _ 0).mono ?_); rintro e wC ⟨rfl, hx⟩
  have HID := Lib.hid (HIC.out.ext hx); have HXE := Lib.hid (HXD.out.trans hx); have HA4 := Lib.hid (HA3.out.ext hx); have HB4 := Lib.hid (block_later HBB.out hx); clear hx HIC HXD HA3 HBB
  go_wp2_with fail
  (with_reducible refine (lawA_any _ _ _ _ _ _).mono ?_); rintro e wD ⟨rfl, hx⟩
  have HIE := Lib.hid (HID.out.ext hx); have HXF := Lib.hid (HXE.out.trans hx); have HA5 := Lib.hid (HA4.out.ext hx); have HB5 := Lib.hid (block_later HB4.out hx); clear hx HID HXE HA4 HB4
  go_wp2_with fail
  (with_reducible refine (lawS_any _ _).mono ?_); rintro e wE ⟨rfl, hx⟩
  have HIF := Lib.hid (HIE.out.ext hx); have HXG := Lib.hid (HXF.out.trans hx); have HA6 := Lib.hid (HA5.out.ext hx); have HB6 := Lib.hid (block_later HB5.out hx); clear hx HIE HXF HA5 HB5
  go_wp2_with fail
  (with_reducible refine (lawA_any _ _ _ _ _ _).mono ?_); rintro e wF ⟨rfl, hx⟩
  have HIG := Lib.hid (HIF.out.ext hx); have HXH := Lib.hid (HXG.out.trans hx); have HA7 := Lib.hid (HA6.out.ext hx); have HB7 := Lib.hid (block_later HB6.out hx); clear hx HIF HXG HA6 HB6
  have he1 : AttrR (wF.alloc (.cells #[.string ⟨#[97]⟩, .int .i64 1, .int .i64 0, .string ⟨#[]⟩, .bool false, .string ⟨#[98]⟩, .int .i64 2, .int .i64 0, .string ⟨#[]⟩, .bool false] 66)) (.slice (some ⟨wF.heap.size, 0, none⟩) 2 2) mE2 := attr_lit wF mE2 (by decide)
  have hxc : Ext wF (wF.alloc (.cells #[.string ⟨#[97]⟩, .int .i64 1, .int .i64 0, .string ⟨#[]⟩, .bool false, .string ⟨#[98]⟩, .int .i64 2, .int .i64 0, .string ⟨#[]⟩, .bool false] 66)) := (Ext.refl wF).alloc _
  have HE1 := Lib.hid he1
  have HIH := Lib.hid (HIG.out.ext hxc); have HXI := Lib.hid (HXH.out.trans hxc); have HA8 := Lib.hid (HA7.out.ext hxc); have HB8 := Lib.hid (block_later HB7.out hxc)
  clear he1 hxc HIG HXH HA7 HB7
  go_wp2_with fail
  generalize hbF : wF.heap.size = bF at *
  generalize wF.alloc (.cells #[.string ⟨#[97]⟩, .int .i64 1, .int .i64 0, .string ⟨#[]⟩, .bool false, .string ⟨#[98]⟩, .int .i64 2, .int .i64 0, .string ⟨#[]⟩, .bool false] 66) = wG at *
  clear hbF
  (with_reducible refine (lawE_any _ _ _ _).mono ?_); rintro e wH ⟨rfl, hx⟩
  have HII := Lib.hid (HIH.out.ext hx); have HXJ := Lib.hid (HXI.out.trans hx); have HA9 := Lib.hid (HA8.out.ext hx); have HB9 := Lib.hid (block_later HB8.out hx); have HE2 := Lib.hid (HE1.out.ext hx); clear hx HIH HXI HA8 HB8 HE1
  obtain ⟨hxd, hbd⟩ := boxes1 wH (.cells #[.string ⟨#[]⟩, .slice (some ⟨bF, 0, none⟩) 2 2] 34)
  have HBD := Lib.hid hbd
  have HIJ := Lib.hid (HII.out.ext hxd); have HXK := Lib.hid (HXJ.out.trans hxd); have HAA := Lib.hid (HA9.out.ext hxd); have HBA := Lib.hid (block_later HB9.out hxd); have HE3 := Lib.hid (HE2.out.ext hxd)
  clear hxd hbd HII HXJ HA9 HB9 HE2
  go_upto_region 6 with fail
  generalize hbH : wH.heap.size = bH at *
  generalize wH.alloc (.cells #[.string ⟨#[]⟩, .slice (some ⟨bF, 0, none⟩) 2 2] 34) = wI at *
  clear hbH
  have c0 := cell_of_row _ _ 0 _ _ _ HBA.out
  have c1 := cell_of_row _ _ 1 _ _ _ HBA.out
  have d0 := cell_of_row _ _ 0 _ _ _ HBD.out
  have d1 := cell_of_row _ _ 1 _ _ _ HBD.out
  have hm1 := ix_match HIJ.out mL3 mRel [] _ mE1 HAA.out
  rw [mM1, show strOf [] = ⟨#[]⟩ from rfl] at hm1
  simp only [show ([2, 5] : List Int).length = 2 from rfl] at hm1
  have HM1 := Lib.hid hm1
  clear hm1
  go_wp2_with fail
  (with_reducible refine HM1.out.mono ?_); rintro e wJ ⟨am, cm, rfl, ho, hx⟩
  have HO := Lib.hid ho; have HIK := Lib.hid (HIJ.out.ext hx); have HXL := Lib.hid (HXK.out.trans hx); have HAB := Lib.hid (HAA.out.ext hx); have HE4 := Lib.hid (HE3.out.ext hx)
  have c0' := hx.cell c0
  have c1' := hx.cell c1
  have d0' := hx.cell d0
  have d1' := hx.cell d1
  clear ho hx c0 c1 d0 d1 HIJ HXK HAA HE3 HM1 HBA HBD
  have hi1 : IntR (wJ.alloc (.cells #[.int .i64 2, .int .i64 5] 3)) (.slice (some ⟨wJ.heap.size, 0, none⟩) 2 2) [2, 5] := int_lit wJ [2, 5] (by decide)
  have hxe : Ext wJ (wJ.alloc (.cells #[.int .i64 2, .int .i64 5] 3)) := (Ext.refl wJ).alloc _
  have hs1 := samei_any _ _ _ [2, 5] [2, 5] ((own_int (l := [2, 5]) HO.out).ext hxe) hi1
  rw [decide_eq_true (rfl : ([2, 5] : List Int) = [2, 5])] at hs1
  have HS1 := Lib.hid hs1
  clear hs1
  have HIL := Lib.hid (HIK.out.ext hxe); have HXM := Lib.hid (HXL.out.trans hxe); have HAC := Lib.hid (HAB.out.ext hxe); have HE5 := Lib.hid (HE4.out.ext hxe)
  have c0 := hxe.cell c0'
  have c1 := hxe.cell c1'
  have d0 := hxe.cell d0'
  have d1 := hxe.cell d1'
  clear hi1 hxe HIK HXL HAB HE4 c0' c1' d0' d1' HO
  go_wp2_with fail
  (with_reducible refine HS1.out.mono ?_); rintro e wK ⟨rfl, hx⟩
  have HIM := Lib.hid (HIL.out.ext hx); have HXN := Lib.hid (HXM.out.trans hx); have HAD := Lib.hid (HAC.out.ext hx); have HE6 := Lib.hid (HE5.out.ext hx)
  have c0' := hx.cell c0
  have c1' := hx.cell c1
  have d0' := hx.cell d0
  have d1' := hx.cell d1
  clear hx c0 c1 d0 d1 HIL HXM HAC HE5 HS1
  have hm2 := ix_match HIM.out mL3 mRel [] _ mE2 HE6.out
  rw [mM2, show strOf [] = ⟨#[]⟩ from rfl] at hm2
  simp only [show ([2, 9] : List Int).length = 2 from rfl] at hm2
  have HM2 := Lib.hid hm2
  clear hm2
  go_wp2_with fail
  (with_reducible refine HM2.out.mono ?_); rintro e wL ⟨an, cn, rfl, ho, hx⟩
  have HO := Lib.hid ho; have HIN := Lib.hid (HIM.out.ext hx); have HXO := Lib.hid (HXN.out.trans hx); have HAE := Lib.hid (HAD.out.ext hx)
  have c0 := hx.cell c0'
  have c1 := hx.cell c1'
  clear ho hx c0' c1' d0' d1' HIM HXN HAD HE6 HM2
  have hi2 : IntR (wL.alloc (.cells #[.int .i64 2, .int .i64 9] 3)) (.slice (some ⟨wL.heap.size, 0, none⟩) 2 2) [2, 9] := int_lit wL [2, 9] (by decide)
  have hxf : Ext wL (wL.alloc (.cells #[.int .i64 2, .int .i64 9] 3)) := (Ext.refl wL).alloc _
  have hs2 := samei_any _ _ _ [2, 9] [2, 9] ((own_int (l := [2, 9]) HO.out).ext hxf) hi2
  rw [decide_eq_true (rfl : ([2, 9] : List Int) = [2, 9])] at hs2
  have HS2 := Lib.hid hs2
  clear hs2
  have HIO := Lib.hid (HIN.out.ext hxf); have HXP := Lib.hid (HXO.out.trans hxf); have HAF := Lib.hid (HAE.out.ext hxf)
  have c0' := hxf.cell c0
  have c1' := hxf.cell c1
  clear hi2 hxf HIN HXO HAE c0 c1 HO
  go_wp2_with fail
  (with_reducible refine HS2.out.mono ?_); rintro e wM ⟨rfl, hx⟩
  have HIP := Lib.hid (HIO.out.ext hx); have HXQ := Lib.hid (HXP.out.trans hx); have HAG := Lib.hid (HAF.out.ext hx)
  have c0 := hx.cell c0'
  have c1 := hx.cell c1'
  clear hx c0' c1' HIO HXP HAF HS2
  have hk := ix_looks HIP.out [] _ mE1 HAG.out
  rw [mK1, show strOf [] = ⟨#[]⟩ from rfl] at hk
  have HK := Lib.hid hk
  clear hk
  go_wp2_with fail
  (with_reducible refine HK.out.mono ?_); rintro e wN ⟨rfl, hx⟩
  have HXR := Lib.hid (HXQ.out.trans hx)
  clear hx
  go_wp2_with fail
  go_ret
  exact ⟨rfl, HXR.out⟩
end Go.Proofs.YtckigoeomkphhaaGreat
