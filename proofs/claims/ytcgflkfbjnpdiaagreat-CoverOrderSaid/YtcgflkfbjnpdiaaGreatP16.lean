/- slices.Contains at strings; what no event matches: none; Covers.
Covers.
A block of the call's own that holds what it held, or what it is to hold: for a region that draws its order and stores there.
Regions: whole (eight bytes as a number), the closures of Some.
Regions: Some. (Four walks alike, printed by a program.) -/
import Derived.LoopTactic
import Derived.Laws.BitsAllLaws
import Derived.Test.YtcgflkfbjnpdiaaGreatP15
import Derived.Test.YtcgflkfbjnpdiaaGreatP6
import Derived.Test.YtcgflkfbjnpdiaaGreatP12
import Derived.Test.YtcgflkfbjnpdiaaGreatP9
import Derived.Test.YtcgflkfbjnpdiaaGreatP13
namespace Go.Proofs.YtcgflkfbjnpdiaaGreat
open Go.RowKit Go.Sort

set_option maxRecDepth 100000 in
set_option maxHeartbeats 2000000 in
theorem idx138_any (w : World) (v : Value) (l : List (List UInt8)) (h : StrR w v l) (s : List UInt8) :
    Calls Tryz.prog 84 #[v, .string (strOf s)] w fun e w' => e = .returned (.int .i64 (idxP (fun x => decide (x = s)) l)) ∧ w' = w := by
  obtain ⟨a, cap, rfl, hc, hm⟩ := Row.shape h
  unfold maxLen at hm
  have HH := Lib.hid h
  clear h
  generalize hN : l.length = n at *
  have HN := Lib.hid hN
  clear hN
  go_enter Tryz.func84, Tryz.ntmps84
  go_wp2_with fail
  go_loop [8] (fun i => ∃ k : Nat, k ≤ n ∧ i = .int .i64 k ∧ Hid (∀ x ∈ l.take k, decide (x = s) = false)) (fun i => n - (intOf i).toNat)
  case atStart => exact ⟨0, Nat.zero_le _, rfl, fun x hx => by simp at hx⟩
  case round =>
    obtain ⟨k, hk, rfl, hall⟩ := hrel
    by_cases hlt : k < n
    · have hI : decide ((k : Int) < (n : Int)) = true := decide_eq_true (by omega)
      have k1 : k < l.length := by rw [HN.out]; exact hlt
      obtain ⟨B, o, rfl, f0⟩ := StrR.at HH.out k1
      have hhit : decide (l[k] = s) = true → idxP (fun x => decide (x = s)) l = k := fun e => idxP_hit k1 hall.out e
      have hnext : decide (l[k] = s) = false → ∀ x ∈ l.take (k + 1), decide (x = s) = false := fun e x hx => by
        rw [List.take_succ_eq_append_getElem k1] at hx
        rcases List.mem_append.1 hx with hx | hx
        · exact hall.out x hx
        · rw [List.mem_singleton.1 hx]; exact e
      generalize l[k] = x at *
      by_cases hq : x = s
      · have hd : (s == x) = true := beq_iff_eq.2 hq.symm
        have hres := Lib.hid (hhit (decide_eq_true hq))
        clear hhit hnext hq
        go_wp2_with fail
        go_ret
        exact ⟨by rw [hres.out]; rfl, rfl⟩
      · have hd : (s == x) = false := beq_eq_false_iff_ne.2 (fun e => hq e.symm)
        have hne : ¬ strOf s = strOf x := fun e => hq (strOf_inj.1 e).symm
        have hres := Lib.hid (hnext (decide_eq_false hq))
        clear hhit hnext hq
        go_wp2_with fail
        go_round
        case rel => exact ⟨k + 1, hlt, by go_num, hres.out⟩
        case measure => simp [intOf]; omega
    · obtain rfl : k = n := by omega
      have hI : decide ((k : Int) < (k : Int)) = false := decide_eq_false (by omega)
      have hres : Hid (idxP (fun x => decide (x = s)) l = -1) := by
        show _ = _
        refine idxP_miss fun x hx => hall.out x ?_
        rw [List.take_of_length_le (by rw [HN.out]; exact Nat.le_refl _)]; exact hx
      go_wp2_with fail
      go_ret
      exact ⟨by rw [hres.out]; rfl, rfl⟩

theorem any_mem (l : List (List UInt8)) (s : List UInt8) : (l.any fun x => decide (x = s)) = decide (s ∈ l) := by
  rw [Bool.eq_iff_iff, List.any_eq_true, decide_eq_true_iff]
  exact ⟨fun ⟨x, hx, e⟩ => of_decide_eq_true e ▸ hx, fun h => ⟨s, h, decide_eq_true rfl⟩⟩
set_option maxRecDepth 100000 in
set_option maxHeartbeats 2000000 in
theorem contains94_any (w : World) (v : Value) (l : List (List UInt8)) (h : StrR w v l) (s : List UInt8) :
    Calls Tryz.prog 47 #[v, .string (strOf s)] w fun e w' => e = .returned (.bool (decide (s ∈ l))) ∧ w' = w := by
  have hcon := idx138_any w v l h s
  have hb := Lib.hid (idxP_any (fun x => decide (x = s)) l)
  have hm := Lib.hid (any_mem l s)
  generalize idxP (fun x => decide (x = s)) l = i at *
  obtain ⟨a, cap, rfl, hcc, hmm⟩ := Row.shape h
  go_enter Tryz.func47, Tryz.ntmps47
  go_wp2_with (go_at_call 84; refine hcon.mono ?_; rintro e w' ⟨rfl, rfl⟩)
  go_ret
  exact ⟨by rw [← hm.out, ← hb.out]; rfl, rfl⟩

theorem ent136 : ∀ args w, (callFunc 79 args).run Tryz.prog w = .ok (.enter 79 args) w := enters_of Tryz.func79 (by kernel_rfl) rfl
theorem ent93 : ∀ args w, (callFunc 45 args).run Tryz.prog w = .ok (.enter 45 args) w := enters_of Tryz.func45 (by kernel_rfl) rfl

set_option maxRecDepth 100000 in
set_option maxHeartbeats 4000000 in
theorem none136_any (w : World) (B : Nat) (vp : Value) (p : List C) (name : List UInt8) (hB : w.cell? ⟨B, 0, none⟩ = some vp) (hp : PredR w vp p) (hok : ∀ c ∈ p, okC c) :
    Calls Tryz.prog 79 (#[.string (strOf name)] ++ #[.pointer (some ⟨B, 0, none⟩)]) w fun e w' => e = .returned (.bool (askedF p name).empty) ∧ Ext w w' := by
  show Calls Tryz.prog 79 #[.string (strOf name), .pointer (some ⟨B, 0, none⟩)] w _
  have hcall := asked_any w vp p name hp hok
  obtain ⟨a, cap, rfl, hc, hmx⟩ := hp.shape
  have HC := Lib.hid hcall
  clear hcall hp hok
  generalize (if mayP p then (0 : Int) else 30) = er at *
  generalize p.length = N at *
  go_enter Tryz.func79, Tryz.ntmps79
  go_wp2_with fail
  refine HC.out.mono ?_
  rintro e y1 ⟨v, rfl, hv, hy1⟩
  obtain ⟨r1, e1, r2, e2, r3, e3, rfl, _, _, _⟩ := hv.ex
  obtain ⟨hxa, hD⟩ := boxes1 y1 (.cells #[.slice r1 (askedF p name).i.length e1, .slice r2 (askedF p name).s.length e2, .slice r3 (askedF p name).b.length e3, .bool (askedF p name).odd] 69)
  have hem := empty_any _ _ _ (hv.ext hxa)
  have HE := Lib.hid hem
  have q0 := cell_of_row _ _ 0 _ _ _ hD
  have q1 := cell_of_row _ _ 1 _ _ _ hD
  have q2 := cell_of_row _ _ 2 _ _ _ hD
  have q3 := cell_of_row _ _ 3 _ _ _ hD
  have hxw := hy1.trans hxa
  clear hv hD hem hxa hy1 HC
  generalize (askedF p name).i.length = m1 at *
  generalize (askedF p name).s.length = m2 at *
  generalize (askedF p name).b.length = m3 at *
  generalize (askedF p name).odd = mo at *
  go_wp2_with fail
  refine HE.out.mono ?_
  rintro e y2 ⟨rfl, hy2⟩
  go_wp2_with fail
  go_ret
  exact ⟨rfl, hxw.trans hy2⟩

set_option maxRecDepth 100000 in
set_option maxHeartbeats 4000000 in
theorem none_any (w : World) (vp : Value) (p : List C) (hp : PredR w vp p) (hok : ∀ c ∈ p, okC c) (hl : p.length ≤ 100000) :
    Calls Tryz.prog 43 #[vp] w fun e w' => e = .returned (.bool (noneF p)) ∧ Ext w w' := by
  obtain ⟨hx0, hB⟩ := boxes1 w (.cells #[vp] 23)
  have hnames := names_any _ vp p (hp.ext hx0) hl
  have hhas : ∀ W v, Ext w W → W.cell? ⟨w.heap.size, 0, none⟩ = some vp → StrR W v (namesF p) → Calls Tryz.prog 44 #[v, .func (.func 79) #[] #[.pointer (some ⟨w.heap.size, 0, none⟩)]] W fun e w' => e = .returned (.bool (noneF p)) ∧ Ext W w' := fun W v hW hb hv =>
    hasSt_any W v _ hv 79 #[.pointer (some ⟨w.heap.size, 0, none⟩)] (fun n => (askedF p n).empty) ent136 fun W' n hW' _ => none136_any W' w.heap.size vp p n (hW'.cell hb) (hp.ext (hW.trans hW')) hok
  have b0 := cell_of_row _ _ 0 _ _ _ hB
  obtain ⟨a, cap, rfl, hc, hmx⟩ := hp.shape
  have HN := Lib.hid hnames
  have HH := Lib.hid hhas
  clear hnames hhas hp hok hl hB
  generalize p.length = N at *
  go_enter Tryz.func43, Tryz.ntmps43
  go_wp2_with fail
  refine HN.out.mono ?_
  rintro e y1 ⟨v, rfl, hv, hy1⟩
  have hcall := HH.out y1 v (hx0.trans hy1) (hy1.cell b0) (Row.of_own hv)
  obtain ⟨aa, cc, rfl, _, _⟩ := Row.shape (Row.of_own hv)
  have HC := Lib.hid hcall
  have hxw := hx0.trans hy1
  clear hcall hv hy1 HN HH b0 hx0
  go_wp2_with fail
  refine HC.out.mono ?_
  rintro e y2 ⟨rfl, hy2⟩
  go_wp2_with fail
  go_ret
  exact ⟨rfl, hxw.trans hy2⟩
end Go.Proofs.YtcgflkfbjnpdiaaGreat

namespace Go.Proofs.YtcgflkfbjnpdiaaGreat
open Go.RowKit Go.Sort

set_option maxRecDepth 100000 in
set_option maxHeartbeats 8000000 in
theorem covers93_any (w : World) (B1 B2 B3 : Nat) (vp vq vo : Value) (p q : List C) (own : List (List UInt8)) (name : List UInt8) (h1 : w.cell? ⟨B1, 0, none⟩ = some vp) (h2 : w.cell? ⟨B2, 0, none⟩ = some vq) (h3 : w.cell? ⟨B3, 0, none⟩ = some vo)
    (hp : PredR w vp p) (hq : PredR w vq q) (ho : StrR w vo own) (kp : ∀ c ∈ p, okC c) (kq : ∀ c ∈ q, okC c) :
    Calls Tryz.prog 45 (#[.string (strOf name)] ++ #[.pointer (some ⟨B1, 0, none⟩), .pointer (some ⟨B2, 0, none⟩), .pointer (some ⟨B3, 0, none⟩)]) w fun e w' => e = .returned (.bool (!decide (name ∈ own) || !(askedF q name).within (askedF p name))) ∧ Ext w w' := by
  show Calls Tryz.prog 45 #[.string (strOf name), .pointer (some ⟨B1, 0, none⟩), .pointer (some ⟨B2, 0, none⟩), .pointer (some ⟨B3, 0, none⟩)] w _
  have hcp := fun W (hW : Ext w W) => asked_any W vp p name (hp.ext hW) kp
  have hcq := fun W (hW : Ext w W) => asked_any W vq q name (hq.ext hW) kq
  have hco := fun W (hW : Ext w W) => contains94_any W vo own (ho.ext hW) name
  obtain ⟨a1, cap1, rfl, _, _⟩ := hp.shape
  obtain ⟨a2, cap2, rfl, _, _⟩ := hq.shape
  obtain ⟨a3, cap3, rfl, _, _⟩ := Row.shape ho
  have HP := Lib.hid hcp
  have HQ := Lib.hid hcq
  have HO := Lib.hid hco
  have hfp := few_asked p name
  have hfq := few_asked q name
  have HFP := Lib.hid hfp
  have HFQ := Lib.hid hfq
  have HGP := Lib.hid (good_asked p name)
  clear hcp hcq hco hp hq ho kp kq hfp hfq
  generalize (if mayP p then (0 : Int) else 30) = ep at *
  generalize (if mayP q then (0 : Int) else 30) = eq at *
  generalize p.length = np at *
  generalize q.length = nq at *
  generalize askedF p name = P at *
  generalize askedF q name = Q at *
  generalize hA : decide (name ∈ own) = A at *
  clear hA
  generalize own.length = no at *
  go_enter Tryz.func45, Tryz.ntmps45
  go_wp2_with fail
  refine (HP.out w (Ext.refl w)).mono ?_
  rintro e y1 ⟨v, rfl, hv, hy1⟩
  obtain ⟨r1, e1, r2, e2, r3, e3, rfl, _, _, _⟩ := hv.ex
  obtain ⟨hxa, hD⟩ := boxes1 y1 (.cells #[.slice r1 P.i.length e1, .slice r2 P.s.length e2, .slice r3 P.b.length e3, .bool P.odd] 69)
  have hxw := hy1.trans hxa
  have HVP := Lib.hid (hv.ext hxa)
  have HD := Lib.hid hD
  have h2 := hxw.cell h2
  have h3 := hxw.cell h3
  clear hv hD hy1 hxa
  go_wp2_with fail
  refine (HQ.out _ hxw).mono ?_
  rintro e y2 ⟨v, rfl, hv, hy2⟩
  obtain ⟨s1, f1, s2, f2, s3, f3, rfl, _, _, _⟩ := hv.ex
  obtain ⟨hxb, hE⟩ := boxes1 y2 (.cells #[.slice s1 Q.i.length f1, .slice s2 Q.s.length f2, .slice s3 Q.b.length f3, .bool Q.odd] 69)
  have hxy := hy2.trans hxb
  have HVP := Lib.hid (HVP.out.ext hxy)
  have HVQ := Lib.hid (hv.ext hxb)
  have HD := Lib.hid (block_later HD.out hxy)
  have HE := Lib.hid hE
  have h3 := hxy.cell h3
  have hxw := hxw.trans hxy
  clear hv hE hy2 hxb hxy
  go_wp2_with fail
  refine (HO.out _ hxw).mono ?_
  rintro e y3 ⟨rfl, rfl⟩
  cases A
  · go_wp2_with fail
    go_ret
    exact ⟨rfl, hxw⟩
  · have hwi := within_any _ _ _ Q P HVQ.out HVP.out HFQ.out.1 HGP.out.full (HFQ.out.2.mono (by omega)) (HFP.out.2.mono (by omega))
    have HW := Lib.hid hwi
    have q0 := cell_of_row _ _ 0 _ _ _ HD.out
    have q1 := cell_of_row _ _ 1 _ _ _ HD.out
    have q2 := cell_of_row _ _ 2 _ _ _ HD.out
    have q3 := cell_of_row _ _ 3 _ _ _ HD.out
    have z0 := cell_of_row _ _ 0 _ _ _ HE.out
    have z1 := cell_of_row _ _ 1 _ _ _ HE.out
    have z2 := cell_of_row _ _ 2 _ _ _ HE.out
    have z3 := cell_of_row _ _ 3 _ _ _ HE.out
    clear hwi HVP HVQ HD HE HFP HFQ HGP HO HP HQ
    generalize P.i.length = m1 at *
    generalize P.s.length = m2 at *
    generalize P.b.length = m3 at *
    generalize P.odd = mo at *
    generalize Q.i.length = n1 at *
    generalize Q.s.length = n2 at *
    generalize Q.b.length = n3 at *
    generalize Q.odd = qo at *
    go_wp2_with fail
    refine HW.out.mono ?_
    rintro e y4 ⟨rfl, hy4⟩
    go_wp2_with fail
    go_ret
    exact ⟨rfl, hxw.trans hy4⟩

set_option maxRecDepth 100000 in
set_option maxHeartbeats 8000000 in
theorem covers_any (w : World) (vp vq : Value) (p q : List C) (hp : PredR w vp p) (hq : PredR w vq q) (kp : ∀ c ∈ p, okC c) (kq : ∀ c ∈ q, okC c) :
    Calls Tryz.prog 18 #[vp, vq] w fun e w' => e = .returned (.bool (coversF p q)) ∧ Ext w w' := by
  obtain ⟨hx0, hB1, hB2⟩ := boxes2 w (.cells #[vp] 23) (.cells #[vq] 23)
  have hmp := fun W (hW : Ext w W) => pmay_any W vp p (hp.ext hW)
  have hmq := fun W (hW : Ext w W) => pmay_any W vq q (hq.ext hW)
  have hnp := fun W (hW : Ext w W) (hl : p.length ≤ 100000) => names_any W vp p (hp.ext hW) hl
  have hnq := fun W (hW : Ext w W) (hl : q.length ≤ 100000) => names_any W vq q (hq.ext hW) hl
  have hno := fun W (hW : Ext w W) (hl : q.length ≤ 100000) => none_any W vq q (hq.ext hW) kq hl
  have hhas : ∀ W v vo B3, Ext w W → W.cell? ⟨w.heap.size, 0, none⟩ = some vp → W.cell? ⟨w.heap.size + 1, 0, none⟩ = some vq → W.cell? ⟨B3, 0, none⟩ = some vo → StrR W v (namesF p) → StrR W vo (namesF q) → Calls Tryz.prog 44 #[v, .func (.func 45) #[] #[.pointer (some ⟨w.heap.size, 0, none⟩), .pointer (some ⟨w.heap.size + 1, 0, none⟩), .pointer (some ⟨B3, 0, none⟩)]] W fun e w' => e = .returned (.bool ((namesF p).any fun n => !decide (n ∈ namesF q) || !(askedF q n).within (askedF p n))) ∧ Ext W w' := fun W v vo B3 hW k1 k2 k3 hv ho =>
    hasSt_any W v _ hv 45 #[.pointer (some ⟨w.heap.size, 0, none⟩), .pointer (some ⟨w.heap.size + 1, 0, none⟩), .pointer (some ⟨B3, 0, none⟩)] _ ent93 fun W' n hW' _ => covers93_any W' w.heap.size (w.heap.size + 1) B3 vp vq vo p q (namesF q) n (hW'.cell k1) (hW'.cell k2) (hW'.cell k3) (hp.ext (hW.trans hW')) (hq.ext (hW.trans hW')) (ho.ext hW') kp kq
  have b1 := cell_of_row _ _ 0 _ _ _ hB1
  have b2 := cell_of_row _ _ 0 _ _ _ hB2
  obtain ⟨a1, cap1, rfl, _, _⟩ := hp.shape
  obtain ⟨a2, cap2, rfl, _, _⟩ := hq.shape
  have HMP := Lib.hid hmp
  have HMQ := Lib.hid hmq
  have HNP := Lib.hid hnp
  have HNQ := Lib.hid hnq
  have HNO := Lib.hid hno
  have HHAS := Lib.hid hhas
  clear hmp hmq hnp hnq hno hhas hp hq kp kq hB1 hB2
  cases hM1 : mayP p with
  | false =>
    have hres : coversF p q = false := by unfold coversF; rw [hM1]; rfl
    rw [hres]
    rw [hM1] at HMP
    clear hM1 hres HNP HNQ HNO HHAS HMQ
    generalize p.length = np at *
    generalize q.length = nq at *
    go_enter Tryz.func18, Tryz.ntmps18
    go_wp2_with fail
    refine (HMP.out _ hx0).mono ?_
    rintro e y1 ⟨rfl, hy1⟩
    go_wp2_with fail
    go_ret
    exact ⟨rfl, hx0.trans hy1⟩
  | true =>
    cases hM2 : mayP q with
    | false =>
      have hres : coversF p q = false := by unfold coversF; rw [hM1, hM2]; rfl
      rw [hres]
      rw [hM1] at HMP
      rw [hM2] at HMQ
      clear hM1 hM2 hres HNP HNQ HNO HHAS
      generalize p.length = np at *
      generalize q.length = nq at *
      go_enter Tryz.func18, Tryz.ntmps18
      go_wp2_with fail
      refine (HMP.out _ hx0).mono ?_
      rintro e y1 ⟨rfl, hy1⟩
      have b2 := hy1.cell b2
      have hxw := hx0.trans hy1
      clear hy1
      go_wp2_with fail
      refine (HMQ.out _ hxw).mono ?_
      rintro e y2 ⟨rfl, hy2⟩
      go_wp2_with fail
      go_ret
      exact ⟨rfl, hxw.trans hy2⟩
    | true =>
      have hres : coversF p q = (noneF q || !(namesF p).any fun n => !decide (n ∈ namesF q) || !(askedF q n).within (askedF p n)) := by unfold coversF; rw [hM1, hM2]; rfl
      have hl1 := may_len hM1
      have hl2 := may_len hM2
      rw [hres]
      rw [hM1] at HMP
      rw [hM2] at HMQ
      clear hM1 hM2 hres
      generalize ((namesF p).any fun n => !decide (n ∈ namesF q) || !(askedF q n).within (askedF p n)) = R at *
      generalize hN : noneF q = N at *
      clear hN
      generalize p.length = np at *
      generalize q.length = nq at *
      have hl1 : np ≤ 100000 := by omega
      have hl2 : nq ≤ 100000 := by omega
      go_enter Tryz.func18, Tryz.ntmps18
      go_wp2_with fail
      refine (HMP.out _ hx0).mono ?_
      rintro e y1 ⟨rfl, hy1⟩
      have b1 := hy1.cell b1
      have b2 := hy1.cell b2
      have hxw := hx0.trans hy1
      clear hy1 hx0
      go_wp2_with fail
      refine (HMQ.out _ hxw).mono ?_
      rintro e y2 ⟨rfl, hy2⟩
      have b1 := hy2.cell b1
      have b2 := hy2.cell b2
      have hxw := hxw.trans hy2
      clear hy2
      go_wp2_with fail
      refine (HNQ.out _ hxw hl2).mono ?_
      rintro e y3 ⟨vo, rfl, hvo, hy3⟩
      have hvo : StrR y3 vo (namesF q) := Row.of_own hvo
      obtain ⟨ao, co, rfl, _, _⟩ := Row.shape hvo
      obtain ⟨hxa, hD⟩ := boxes1 y3 (.cells #[.slice ao (namesF q).length co] 63)
      have hxy := hy3.trans hxa
      have b1 := hxy.cell b1
      have b2 := hxy.cell b2
      have b3 := cell_of_row _ _ 0 _ _ _ hD
      have hxw := hxw.trans hxy
      have HVO := Lib.hid (hvo.ext hxa)
      clear hvo hxa hD hxy hy3
      generalize (namesF q).length = no at *
      go_wp2_with fail
      refine (HNO.out _ hxw hl2).mono ?_
      rintro e y4 ⟨rfl, hy4⟩
      have b1 := hy4.cell b1
      have b2 := hy4.cell b2
      have b3 := hy4.cell b3
      have hxw := hxw.trans hy4
      have HVO := Lib.hid (HVO.out.ext hy4)
      clear hy4
      cases N
      · go_wp2_with fail
        refine (HNP.out _ hxw hl1).mono ?_
        rintro e y5 ⟨v, rfl, hv, hy5⟩
        have hcall := HHAS.out y5 v _ _ (hxw.trans hy5) (hy5.cell b1) (hy5.cell b2) (hy5.cell b3) (Row.of_own hv) (HVO.out.ext hy5)
        obtain ⟨aa, cc, rfl, _, _⟩ := Row.shape (Row.of_own hv)
        have HCALL := Lib.hid hcall
        have hxw := hxw.trans hy5
        clear hcall hv hy5 b1 b2 b3 HHAS HVO
        generalize (namesF p).length = nn at *
        go_wp2_with fail
        refine HCALL.out.mono ?_
        rintro e y6 ⟨rfl, hy6⟩
        go_wp2_with fail
        go_ret
        exact ⟨rfl, hxw.trans hy6⟩
      · go_wp2_with fail
        go_ret
        exact ⟨rfl, hxw⟩
end Go.Proofs.YtcgflkfbjnpdiaaGreat

namespace Go.Proofs.YtcgflkfbjnpdiaaGreat
open Go.RowKit

structure St1 (b : Nat) (X : Obj) (w w' : World) : Prop where
  os : w'.os = w.os
  tape : w'.tape = w.tape
  output : w'.output = w.output
  size : w.heap.size ≤ w'.heap.size
  block : ∀ k, k < w.heap.size → k ≠ b → w'.heap[k]? = w.heap[k]?
  hb : b < w.heap.size → w'.heap[b]? = w.heap[b]? ∨ w'.heap[b]? = some X
theorem St1.of_ext {b : Nat} {X : Obj} {w w' : World} (h : Ext w w') : St1 b X w w' :=
  ⟨h.os, h.tape, h.output, h.size, fun k hk _ => h.block k hk, fun hk => .inl (h.block b hk)⟩
theorem St1.trans {b : Nat} {X : Obj} {x y z : World} (h : St1 b X x y) (k : St1 b X y z) : St1 b X x z := by
  refine ⟨k.os.trans h.os, k.tape.trans h.tape, k.output.trans h.output, Nat.le_trans h.size k.size, fun i hi h1 => (k.block i (Nat.lt_of_lt_of_le hi h.size) h1).trans (h.block i hi h1), fun hb => ?_⟩
  rcases k.hb (Nat.lt_of_lt_of_le hb h.size) with e | e
  · rw [e]; exact h.hb hb
  · exact .inr e
def Step1 (b : Nat) (X : Obj) : Rg.Step := ⟨St1 b X, fun w => St1.of_ext (Ext.refl w), fun h k => h.trans k, fun w => St1.of_ext (Ext.refl w).drew⟩
theorem St1.cell {b : Nat} {X : Obj} {w w' : World} (h : St1 b X w w') {p : Addr} {v : Value} (hc : w.cell? p = some v) (h1 : p.block ≠ b) : w'.cell? p = some v := by
  rw [World.cell?_of_block (a := p) (h.block p.block (World.block_lt_of_cell? w p hc) h1)]; exact hc
theorem St1.ext {b : Nat} {X : Obj} {a w w' : World} (hx : Ext a w) (h : St1 b X w w') (hb : a.heap.size ≤ b) : Ext a w' :=
  ⟨h.os.trans hx.os, h.tape.trans hx.tape, h.output.trans hx.output, Nat.le_trans hx.size h.size, fun k hk => (h.block k (Nat.lt_of_lt_of_le hk hx.size) (by omega)).trans (hx.block k hk)⟩
theorem St1.put {b : Nat} {X : Obj} {w : World} {cs : Array Value} {t : TypeId} {r : Nat × Nat} {c0 : Array Value} (hg : w.heap[b]? = some (.cells c0 t r)) (hX : X = .cells cs t r) : St1 b X w (w.setRow b cs) := by
  have h := setRow_heap w b c0 cs t r hg
  exact ⟨rfl, rfl, rfl, by simp, fun k hk h1 => setRow_other w b k cs h1, fun _ => .inr (by rw [h, hX])⟩
theorem St1.was {b : Nat} {X : Obj} {w w' : World} (h : St1 b X w w') {t : TypeId} {c0 cs : Array Value} (hg : w.heap[b]? = some (.cells c0 t (0, 0))) (hX : X = .cells cs t (0, 0)) (hs : c0.size = cs.size) : ∃ c1 : Array Value, w'.heap[b]? = some (.cells c1 t (0, 0)) ∧ c1.size = cs.size := by
  rcases h.hb (Array.getElem?_eq_some_iff.1 hg).1 with e | e
  · exact ⟨c0, e.trans hg, hs⟩
  · exact ⟨cs, e.trans (by rw [hX]), rfl⟩
def fact1 (b : Nat) (X : Obj) : Rs.Fact (Step1 b X) := ⟨fun _ w => b < w.heap.size ∧ w.heap[b]? = some X, fun _ _ _ hx h => ⟨Nat.lt_of_lt_of_le h.1 hx.size, by rcases hx.hb h.1 with e | e; exact e.trans h.2; exact e⟩⟩
theorem ob_put {P : Program} {ops : Array Oper} {F : Value → World → Prop} {a : Act} {w w0 : World} {o : Oper} {b : Nat} {X : Obj} (ty : TypeId) (x y : Operand) (cs c0 : Array Value) (t : TypeId)
    (ho : o.op = .store ty x y) (hw : Region.wanted o (yielded ops a.tmps) = true) (hd : o.dst = none) (hx : a.eval x = .pointer (some ⟨b, 0, none⟩)) (hy : a.eval y = .agg cs) (hX : X = .cells cs t (0, 0))
    (hr : St1 b X w0 w) (hg : w0.heap[b]? = some (.cells c0 t (0, 0))) (hs : c0.size = cs.size) (hi : (P.info? ty).map (·.size) = some cs.size) (h1 : ∀ v ∈ cs.toList, v.oneCell' = true)
    (hF : ∀ w', b < w'.heap.size → w'.heap[b]? = some X → F undef w') : wpList P ops (Rs.endQ (Step1 b X) F o a w) [o] a w := by
  obtain ⟨c1, hg1, hs1⟩ := hr.was hg hX hs
  refine wpList_store_whole ty x y ho hw b hx cs hy c1 t hg1 hs1 hi h1 (wpList_nil ⟨rfl, St1.put hg1 hX, put_defers _ _ _, ?_⟩)
  rw [hd]
  refine hF _ ?_ ?_
  · have := (Array.getElem?_eq_some_iff.1 hg1).1
    simpa using this
  · rw [setRow_heap w b c1 cs t (0, 0) hg1, hX]
end Go.Proofs.YtcgflkfbjnpdiaaGreat

namespace Go.Proofs.YtcgflkfbjnpdiaaGreat
open Go.RowKit

theorem take_ba (b : ByteArray) (k : Nat) (h : k < b.size) : b.data.toList.take (k + 1) = b.data.toList.take k ++ [b[k]] := by
  rw [List.take_succ_eq_append_getElem (by simpa using h)]; rfl
theorem whole_step (l : List UInt8) (c : UInt8) (h : l.length ≤ 7) : wholeF l < 72057594037927936 ∧ wholeF (l ++ [c]) = wholeF l * 256 + c.toNat ∧ bits .or .u64 ((wholeF l : Int) * 256) (c.toNat : Int) = ((wholeF (l ++ [c]) : Nat) : Int) := by
  have h0 := wholeF_lt l.length l rfl
  have hp : 256 ^ l.length ≤ 256 ^ 7 := Nat.pow_le_pow_right (by decide) h
  have h1 : wholeF l < 72057594037927936 := by have : (256 : Nat) ^ 7 = 72057594037927936 := by decide
                                               omega
  have h2 := wholeF_snoc l c
  have hc : c.toNat < 256 := c.toNat_lt
  refine ⟨h1, h2, ?_⟩
  have e : ((wholeF l : Int) * 256) = ((wholeF l * 256 : Nat) : Int) := by omega
  rw [e, u64_or_nat _ _ (by omega) (by omega), h2]
  have h3 := Nat.two_pow_add_eq_or_of_lt (i := 8) (b := c.toNat) hc (wholeF l)
  have h4 : (2 : Nat) ^ 8 = 256 := by decide
  rw [h4, Nat.mul_comm] at h3
  rw [← h3]

theorem u64_byte (c : UInt8) : IntKind.u64.wrap (c.toNat : Int) = (c.toNat : Int) := by
  have : c.toNat < 256 := c.toNat_lt
  simp [IntKind.wrap, IntKind.bits, IntKind.signed]; omega

set_option maxRecDepth 100000 in
set_option maxHeartbeats 2000000 in
theorem whole_ba (w : World) (b : ByteArray) (hs : b.size = 8) : Calls Tryz.prog 88 #[.string b] w fun e w' => e = .returned (.int .u64 (wholeF b.data.toList : Nat)) ∧ w' = w := by
  have hl : b.data.toList.length = 8 := by rw [ba_len]; exact hs
  have HL := Lib.hid hl
  have hle : b.size ≤ 8 := by omega
  have hge : 8 ≤ b.size := by omega
  clear hl hs
  go_enter Tryz.func88, Tryz.ntmps88
  go_wp2_with fail
  go_loop [3, 4, 7] (fun n _ i => ∃ k : Nat, k ≤ b.size ∧ i = .int .i64 k ∧ n = .int .u64 (wholeF (b.data.toList.take k) : Nat)) (fun _ _ i => b.size - (intOf i).toNat)
  case atStart => exact ⟨0, Nat.zero_le _, rfl, rfl⟩
  case round =>
    obtain ⟨k, hk, rfl, rfl⟩ := hrel
    by_cases hlt : k < b.size
    · have hst := whole_step (b.data.toList.take k) b[k] (by rw [List.length_take, HL.out]; omega)
      rw [← take_ba b k hlt] at hst
      have HST := Lib.hid hst
      have hb := hst.1
      clear hst
      generalize wholeF (b.data.toList.take k) = N at *
      generalize hM : wholeF (b.data.toList.take (k + 1)) = M at *
      have HM := Lib.hid hM
      clear hM
      go_wp2_with fail
      go_round
      case rel => exact ⟨k + 1, by omega, by go_num, by rw [u64_byte, HST.out.2.2, HM.out]⟩
      case measure => simp [intOf]; omega
    · obtain rfl : k = b.size := by omega
      go_wp2_with fail
      go_ret
      refine ⟨?_, rfl⟩
      have he : b.data.toList.take b.size = b.data.toList := List.take_of_length_le (by rw [ba_len]; omega)
      show Ending.returned (.int .u64 (wholeF (b.data.toList.take b.size) : Nat)) = _
      rw [he]
theorem whole83_any (w : World) (s : List UInt8) (hs : s.length = 8) : Calls Tryz.prog 88 #[.string (strOf s)] w fun e w' => e = .returned (.int .u64 (wholeF s : Nat)) ∧ w' = w :=
  whole_ba w (strOf s) (by rw [← ba_len]; exact hs)

theorem sign_back {N : Nat} (h : N < 18446744073709551616) : wrap64 (bits .xor .u64 (N : Int) 9223372036854775808) = (N : Int) - 9223372036854775808 := by
  have e1 : (9223372036854775808 : Int) = ((2 ^ 63 : Nat) : Int) := by decide
  rw [e1, u64_xor_nat _ _ (by omega) (by decide)]
  by_cases hn : N < 2 ^ 63
  · rw [xor_top N hn]
    unfold wrap64; omega
  · obtain ⟨m, rfl⟩ : ∃ m, N = m + 2 ^ 63 := ⟨N - 2 ^ 63, by omega⟩
    rw [xor_top2 m (by omega)]
    unfold wrap64; omega

def vCells (v : V) : Array Value := #[.int .i64 v.k, .int .i64 v.n, .string (strOf v.s), .bool v.b]
set_option maxRecDepth 100000 in
set_option maxHeartbeats 2000000 in
theorem some82_any (w : World) (s : List UInt8) (hs : s.length = 8) : Calls Tryz.prog 87 #[.string (strOf s)] w fun e w' => e = .returned (.agg #[.int .i64 1, .int .i64 ((wholeF s : Int) - 9223372036854775808), .string ⟨#[]⟩, .bool false]) ∧ Ext w w' := by
  have hw := fun W => whole83_any W s hs
  have hlt : wholeF s < 18446744073709551616 := wholeF_lt 8 s hs
  have hsb := sign_back hlt
  obtain ⟨hx0, hR⟩ := boxes1 w (.cells #[.int .i64 0, .int .i64 0, .string ⟨#[]⟩, .bool false] 34)
  have HW := Lib.hid hw
  have HSB := Lib.hid hsb
  have HR := Lib.hid hR
  clear hw hsb hR
  generalize wholeF s = N at *
  go_enter Tryz.func87, Tryz.ntmps87
  go_wp2_with fail
  refine (HW.out _).mono ?_
  rintro e w2 ⟨rfl, rfl⟩
  go_wp2_with fail
  rw [show wrap64 (bits .xor .u64 (N : Int) 9223372036854775808) = _ from HSB.out]
  generalize (N : Int) - 9223372036854775808 = M at *
  obtain ⟨hx1, hQ⟩ := boxes1 w (.cells #[.int .i64 1, .int .i64 M, .string ⟨#[]⟩, .bool false] 34)
  have r0 := cell_of_row _ _ 0 _ _ _ hQ
  have r1 := cell_of_row _ _ 1 _ _ _ hQ
  have r2 := cell_of_row _ _ 2 _ _ _ hQ
  have r3 := cell_of_row _ _ 3 _ _ _ hQ
  refine bodyPost_ret (v := .agg #[.int .i64 1, .int .i64 M, .string ⟨#[]⟩, .bool false]) (by simp [results, Tryz.results87, go_sem, r0, r1, r2, r3]) rfl ⟨rfl, hx1⟩
set_option maxRecDepth 100000 in
theorem some84_any (w : World) (s : List UInt8) : Calls Tryz.prog 89 #[.string (strOf s)] w fun e w' => e = .returned (.agg #[.int .i64 2, .int .i64 0, .string (strOf s), .bool false]) ∧ Ext w w' := by
  obtain ⟨hx1, hQ⟩ := boxes1 w (.cells #[.int .i64 2, .int .i64 0, .string (strOf s), .bool false] 34)
  have r0 := cell_of_row _ _ 0 _ _ _ hQ
  have r1 := cell_of_row _ _ 1 _ _ _ hQ
  have r2 := cell_of_row _ _ 2 _ _ _ hQ
  have r3 := cell_of_row _ _ 3 _ _ _ hQ
  clear hQ
  go_enter Tryz.func89, Tryz.ntmps89
  go_wp2_with fail
  refine bodyPost_ret (v := .agg #[.int .i64 2, .int .i64 0, .string (strOf s), .bool false]) (by simp [results, Tryz.results89, go_sem, r0, r1, r2, r3]) rfl ⟨rfl, hx1⟩
set_option maxRecDepth 100000 in
theorem some85_any (w : World) (s : List UInt8) : Calls Tryz.prog 90 #[.string (strOf s)] w fun e w' => e = .returned (.agg #[.int .i64 3, .int .i64 0, .string ⟨#[]⟩, .bool (!s.isEmpty)]) ∧ Ext w w' := by
  obtain ⟨hx1, hQ⟩ := boxes1 w (.cells #[.int .i64 3, .int .i64 0, .string ⟨#[]⟩, .bool (!s.isEmpty)] 34)
  have r0 := cell_of_row _ _ 0 _ _ _ hQ
  have r1 := cell_of_row _ _ 1 _ _ _ hQ
  have r2 := cell_of_row _ _ 2 _ _ _ hQ
  have r3 := cell_of_row _ _ 3 _ _ _ hQ
  clear hQ
  go_enter Tryz.func90, Tryz.ntmps90
  go_wp2_with fail
  refine bodyPost_ret (v := .agg #[.int .i64 3, .int .i64 0, .string ⟨#[]⟩, .bool (!s.isEmpty)]) (by simp [results, Tryz.results90, go_sem, r0, r1, r2, r3]) rfl ⟨rfl, hx1⟩
end Go.Proofs.YtcgflkfbjnpdiaaGreat

namespace Go.Proofs.YtcgflkfbjnpdiaaGreat
open Go.RowKit

theorem info109s : (Tryz.prog.info? 109).map (·.size) = some 3 := by kernel_rfl
theorem idx55 (x y z : Value) (w : World) : (Instr.index 67 (.agg #[x, y, z]) (.int .i64 0)).run Tryz.prog w = .ok x w ∧ (Instr.index 67 (.agg #[x, y, z]) (.int .i64 1)).run Tryz.prog w = .ok y w ∧ (Instr.index 67 (.agg #[x, y, z]) (.int .i64 2)).run Tryz.prog w = .ok z w := ⟨by kernel_rfl, by kernel_rfl, by kernel_rfl⟩
theorem ent82 : ∀ args w, (callFunc 87 args).run Tryz.prog w = .ok (.enter 87 args) w := enters_of Tryz.func87 (by kernel_rfl) rfl
theorem ent84 : ∀ args w, (callFunc 89 args).run Tryz.prog w = .ok (.enter 89 args) w := enters_of Tryz.func89 (by kernel_rfl) rfl
theorem ent85 : ∀ args w, (callFunc 90 args).run Tryz.prog w = .ok (.enter 90 args) w := enters_of Tryz.func90 (by kernel_rfl) rfl
/-- The boxes of Some, as its loop begins. -/
theorem some_boxes (w : World) (R : Obj) : ∃ w1, (((w.alloc R).alloc (.cells #[.int .i64 0, .int .i64 0, .string ⟨#[]⟩, .bool false] 34)).alloc (.cells #[.nilFunc, .nilFunc, .nilFunc] 109)).setRow (w.heap.size + 1 + 1) #[.func (.func 87) #[] #[], .func (.func 89) #[] #[], .func (.func 90) #[] #[]] = w1 ∧ Ext w w1 ∧ w1.heap[w.heap.size]? = some R ∧ w1.heap[w.heap.size + 1]? = some (.cells #[.int .i64 0, .int .i64 0, .string ⟨#[]⟩, .bool false] 34 (0, 0)) ∧ w1.heap[w.heap.size + 1 + 1]? = some (.cells #[.func (.func 87) #[] #[], .func (.func 89) #[] #[], .func (.func 90) #[] #[]] 109 (0, 0)) ∧ (((w.alloc R).alloc (.cells #[.int .i64 0, .int .i64 0, .string ⟨#[]⟩, .bool false] 34)).alloc (.cells #[.nilFunc, .nilFunc, .nilFunc] 109)).heap[w.heap.size + 1 + 1]? = some (.cells #[.nilFunc, .nilFunc, .nilFunc] 109 (0, 0)) := by
  obtain ⟨hx0, hR, hT, hF⟩ := boxes3 w R (.cells #[.int .i64 0, .int .i64 0, .string ⟨#[]⟩, .bool false] 34) (.cells #[.nilFunc, .nilFunc, .nilFunc] 109)
  exact ⟨_, rfl, hx0.setRow (by omega) _, (setRow_other _ _ _ _ (by omega)).trans hR, (setRow_other _ _ _ _ (by omega)).trans hT, setRow_heap _ _ _ _ _ _ hF, hF⟩

set_option maxRecDepth 100000 in
set_option maxHeartbeats 8000000 in
theorem some_i (w : World) (vr : Value) (r : Rg) (h : RgR w vr r) (x : Sp) (l : List Sp) (hl : r.i = x :: l) (h8 : x.lo.a.length = 8) :
    Calls Tryz.prog 54 #[vr] w fun e w' => e = .returned (.tuple #[.agg #[.int .i64 1, .int .i64 ((wholeF x.lo.a : Int) - 9223372036854775808), .string ⟨#[]⟩, .bool false], .bool true]) ∧ Ext w w' := by
  obtain ⟨a1, c1, a2, c2, a3, c3, rfl, h1, h2, h3⟩ := h.ex
  obtain ⟨_, _, e1, hl1, hm1⟩ := Row.shape h1
  obtain ⟨_, _, e2, hl2, hm2⟩ := Row.shape h2
  obtain ⟨_, _, e3, hl3, hm3⟩ := Row.shape h3
  simp only [Value.slice.injEq, true_and] at e1 e2 e3
  obtain ⟨rfl, rfl⟩ := e1
  obtain ⟨rfl, rfl⟩ := e2
  obtain ⟨rfl, rfl⟩ := e3
  unfold maxLen at hm1 hm2 hm3
  obtain ⟨w1, hw1, hx0, hR, hT, hF, hF0⟩ := some_boxes w (.cells #[.slice a1 r.i.length c1, .slice a2 r.s.length c2, .slice a3 r.b.length c3, .bool r.odd] 69)
  have hn : 0 < r.i.length := by rw [hl]; simp
  obtain ⟨B, o, rfl, f0, f1, f2, f3⟩ := SpR.at (h1.ext hx0) hn
  have hB : B < w.heap.size := by
    obtain ⟨B', o', e', g0, _⟩ := SpR.at h1 hn
    cases e'
    exact World.block_lt_of_cell? w _ g0
  have hlo : r.i[0] = x := by simp [hl]
  rw [hlo] at f0 f1 f2 f3
  simp only [Nat.zero_mul, Nat.add_zero] at f0 f1 f2 f3
  have hd : decide ((0 : Int) < (r.i.length : Int)) = true := decide_eq_true (by omega)
  have r0 := cell_of_row _ _ 0 _ _ _ hR
  have r1 := cell_of_row _ _ 1 _ _ _ hR
  have r2 := cell_of_row _ _ 2 _ _ _ hR
  have r3 := cell_of_row _ _ 3 _ _ _ hR
  have HW1 := Lib.hid hw1
  have HT := Lib.hid hT
  have HF := Lib.hid hF
  have HF0 := Lib.hid hF0
  have hcl : ∀ W, Calls Tryz.prog 87 #[.string (strOf x.lo.a)] W fun e w' => e = .returned (.agg #[.int .i64 1, .int .i64 ((wholeF x.lo.a : Int) - 9223372036854775808), .string ⟨#[]⟩, .bool false]) ∧ Ext W w' := fun W => some82_any W x.lo.a h8
  have HCL := Lib.hid hcl
  clear hcl hlo hl
  clear h1 h2 h3 h hR hw1 hT hF hF0
  clear h8
  generalize r.i.length = n1 at *
  generalize r.s.length = n2 at *
  generalize r.b.length = n3 at *
  generalize (wholeF x.lo.a : Int) - 9223372036854775808 = N at *
  generalize r.odd = od at *
  have i0 := fun (x y z : Value) W => (idx55 x y z W).1
  have i1 := fun (x y z : Value) W => (idx55 x y z W).2.1
  have i2 := fun (x y z : Value) W => (idx55 x y z W).2.2
  go_enter Tryz.func54, Tryz.ntmps54
  go_wp2_with (refine wpList_store_whole 109 (.tmp 4) (.tmp 7) rfl rfl (w.heap.size + 1 + 1) rfl #[.func (.func 87) #[] #[], .func (.func 89) #[] #[], .func (.func 90) #[] #[]] rfl _ 109 HF0.out rfl info109s (by simp [Value.oneCell']) ?_; rw [HW1.out])
  refine wp_loop_rounds 4 ?_
  rw [rounds_succ]
  have q0 := cell_of_row _ _ 0 _ _ _ HF.out
  go_upto_region 6 with fail
  refine wp_region_chain 9 [Fact.eq (.int .i64 0),
      Fact.eq (.pointer (some ⟨w.heap.size + 1 + 1, 0, none⟩)),
      Fact.eq (.func (.func 87) #[] #[]),
      Fact.eq (.slice (some ⟨B, o, none⟩) n1 c1),
      Fact.eq (.pointer (some ⟨B, o, none⟩)),
      Fact.eq (.pointer (some ⟨B, o, none⟩)),
      Fact.eq (.pointer (some ⟨B, o, none⟩)),
      Fact.eq (.string (strOf x.lo.a)),
      Fact.eq (.agg #[.int .i64 1, .int .i64 N, .string ⟨#[]⟩, .bool false])]
    [[], [(0, 17)], [(1, 18)], [], [(3, 20)], [(4, 21)], [(5, 22)], [(6, 23)], [(2, 19), (7, 24)]]
    [(0, 17), (1, 18), (2, 19), (3, 20), (4, 21), (5, 22), (6, 23), (7, 24), (8, 25)] (by kernel_rfl) (by kernel_rfl) ?_ ?_
  · refine ⟨?_, ?_, ?_, ?_, ?_, ?_, ?_, ?_, ?_, trivial⟩
    · intro w1 hx1; change wpList _ _ _ _ _ _; exact ob_move rfl rfl rfl rfl rfl
    · intro w1 hx1; rintro _ rfl; change wpList _ _ _ _ _ _; go_wp2_with fail; exact ⟨rfl, Ext.refl _, rfl, rfl⟩
    · intro w1 hx1; rintro _ rfl; change wpList _ _ _ _ _ _; have m := hx1.cell q0; go_wp2_with fail; exact ⟨rfl, Ext.refl _, rfl, rfl⟩
    · intro w1 hx1; change wpList _ _ _ _ _ _; exact ob_move rfl rfl rfl rfl rfl
    · intro w1 hx1; rintro _ rfl; change wpList _ _ _ _ _ _; go_wp2_with fail; exact ⟨rfl, Ext.refl _, rfl, rfl⟩
    · intro w1 hx1; rintro _ rfl; change wpList _ _ _ _ _ _; go_wp2_with fail; exact ⟨rfl, Ext.refl _, rfl, rfl⟩
    · intro w1 hx1; rintro _ rfl; change wpList _ _ _ _ _ _; go_wp2_with fail; exact ⟨rfl, Ext.refl _, rfl, rfl⟩
    · intro w1 hx1; rintro _ rfl; change wpList _ _ _ _ _ _; have m := hx1.cell f0; go_wp2_with fail; exact ⟨rfl, Ext.refl _, rfl, rfl⟩
    · intro w1 hx1; rintro _ rfl; rintro _ rfl; change wpList _ _ _ _ _ _; go_wp2_with fail; refine (HCL.out w1).mono ?_; rintro e w2 ⟨rfl, hx2⟩; go_wp2_with fail; exact ⟨rfl, hx2, rfl, rfl⟩
  · intro w1 hx1; rintro _ rfl; rintro _ rfl; rintro _ rfl; rintro _ rfl; rintro _ rfl; rintro _ rfl; rintro _ rfl; rintro _ rfl; rintro _ rfl; refine depsThen_nil ?_; dsimp only; simp only [Act.put, List.setIfInBounds_toArray, List.set_cons_zero, List.set_cons_succ, List.drop_succ_cons, List.drop_zero]
    have HT1 := Lib.hid (block_later HT.out hx1)
    have hxw := hx0.trans hx1
    clear hx1 hx0
    go_wp2_with (refine wpList_store_whole 34 (.tmp 2) (.tmp 25) rfl rfl (w.heap.size + 1) rfl #[.int .i64 1, .int .i64 N, .string ⟨#[]⟩, .bool false] rfl _ 34 HT1.out rfl info34s (by simp [Value.oneCell']) ?_)
    have L := setRow_heap _ _ _ #[.int .i64 1, .int .i64 N, .string ⟨#[]⟩, .bool false] _ _ HT1.out
    have g0 := cell_of_row _ _ 0 _ _ _ L
    have g1 := cell_of_row _ _ 1 _ _ _ L
    have g2 := cell_of_row _ _ 2 _ _ _ L
    have g3 := cell_of_row _ _ 3 _ _ _ L
    refine bodyPost_ret (v := .tuple #[.agg #[.int .i64 1, .int .i64 N, .string ⟨#[]⟩, .bool false], .bool true]) (by simp [results, Tryz.results54, go_sem, g0, g1, g2, g3]) rfl ⟨rfl, hxw.setRow (by omega) _⟩

set_option maxRecDepth 100000 in
set_option maxHeartbeats 8000000 in
theorem some_s (w : World) (vr : Value) (r : Rg) (h : RgR w vr r) (hi0 : r.i = []) (x : Sp) (l : List Sp) (hl : r.s = x :: l) :
    Calls Tryz.prog 54 #[vr] w fun e w' => e = .returned (.tuple #[.agg #[.int .i64 2, .int .i64 0, .string (strOf x.lo.a), .bool false], .bool true]) ∧ Ext w w' := by
  obtain ⟨a1, c1, a2, c2, a3, c3, rfl, h1, h2, h3⟩ := h.ex
  obtain ⟨_, _, e1, hl1, hm1⟩ := Row.shape h1
  obtain ⟨_, _, e2, hl2, hm2⟩ := Row.shape h2
  obtain ⟨_, _, e3, hl3, hm3⟩ := Row.shape h3
  simp only [Value.slice.injEq, true_and] at e1 e2 e3
  obtain ⟨rfl, rfl⟩ := e1
  obtain ⟨rfl, rfl⟩ := e2
  obtain ⟨rfl, rfl⟩ := e3
  unfold maxLen at hm1 hm2 hm3
  obtain ⟨w1, hw1, hx0, hR, hT, hF, hF0⟩ := some_boxes w (.cells #[.slice a1 r.i.length c1, .slice a2 r.s.length c2, .slice a3 r.b.length c3, .bool r.odd] 69)
  have hn : 0 < r.s.length := by rw [hl]; simp
  obtain ⟨B, o, rfl, f0, f1, f2, f3⟩ := SpR.at (h2.ext hx0) hn
  have hB : B < w.heap.size := by
    obtain ⟨B', o', e', g0, _⟩ := SpR.at h2 hn
    cases e'
    exact World.block_lt_of_cell? w _ g0
  have hlo : r.s[0] = x := by simp [hl]
  rw [hlo] at f0 f1 f2 f3
  simp only [Nat.zero_mul, Nat.add_zero] at f0 f1 f2 f3
  have hd : decide ((0 : Int) < (r.s.length : Int)) = true := decide_eq_true (by omega)
  have r0 := cell_of_row _ _ 0 _ _ _ hR
  have r1 := cell_of_row _ _ 1 _ _ _ hR
  have r2 := cell_of_row _ _ 2 _ _ _ hR
  have r3 := cell_of_row _ _ 3 _ _ _ hR
  have HW1 := Lib.hid hw1
  have HT := Lib.hid hT
  have HF := Lib.hid hF
  have HF0 := Lib.hid hF0
  have hcl : ∀ W, Calls Tryz.prog 89 #[.string (strOf x.lo.a)] W fun e w' => e = .returned (.agg #[.int .i64 2, .int .i64 0, .string (strOf x.lo.a), .bool false]) ∧ Ext W w' := fun W => some84_any W x.lo.a
  have HCL := Lib.hid hcl
  clear hcl hlo hl
  clear h1 h2 h3 h hR hw1 hT hF hF0
  have zi : r.i.length = 0 := by rw [hi0]; rfl
  generalize r.i.length = n1 at *
  subst zi
  generalize r.s.length = n2 at *
  generalize r.b.length = n3 at *
  clear hi0
  generalize r.odd = od at *
  have i0 := fun (x y z : Value) W => (idx55 x y z W).1
  have i1 := fun (x y z : Value) W => (idx55 x y z W).2.1
  have i2 := fun (x y z : Value) W => (idx55 x y z W).2.2
  go_enter Tryz.func54, Tryz.ntmps54
  go_wp2_with (refine wpList_store_whole 109 (.tmp 4) (.tmp 7) rfl rfl (w.heap.size + 1 + 1) rfl #[.func (.func 87) #[] #[], .func (.func 89) #[] #[], .func (.func 90) #[] #[]] rfl _ 109 HF0.out rfl info109s (by simp [Value.oneCell']) ?_; rw [HW1.out])
  refine wp_loop_rounds 4 ?_
  rw [rounds_succ]
  go_wp2_with fail
  rw [rounds_succ]
  have q1 := cell_of_row _ _ 1 _ _ _ HF.out
  go_upto_region 6 with fail
  refine wp_region_chain 9 [Fact.eq (.int .i64 1),
      Fact.eq (.pointer (some ⟨w.heap.size + 1 + 1, 1, none⟩)),
      Fact.eq (.func (.func 89) #[] #[]),
      Fact.eq (.slice (some ⟨B, o, none⟩) n2 c2),
      Fact.eq (.pointer (some ⟨B, o, none⟩)),
      Fact.eq (.pointer (some ⟨B, o, none⟩)),
      Fact.eq (.pointer (some ⟨B, o, none⟩)),
      Fact.eq (.string (strOf x.lo.a)),
      Fact.eq (.agg #[.int .i64 2, .int .i64 0, .string (strOf x.lo.a), .bool false])]
    [[], [(0, 17)], [(1, 18)], [], [(3, 20)], [(4, 21)], [(5, 22)], [(6, 23)], [(2, 19), (7, 24)]]
    [(0, 17), (1, 18), (2, 19), (3, 20), (4, 21), (5, 22), (6, 23), (7, 24), (8, 25)] (by kernel_rfl) (by kernel_rfl) ?_ ?_
  · refine ⟨?_, ?_, ?_, ?_, ?_, ?_, ?_, ?_, ?_, trivial⟩
    · intro w1 hx1; change wpList _ _ _ _ _ _; exact ob_move rfl rfl rfl rfl rfl
    · intro w1 hx1; rintro _ rfl; change wpList _ _ _ _ _ _; go_wp2_with fail; exact ⟨rfl, Ext.refl _, rfl, rfl⟩
    · intro w1 hx1; rintro _ rfl; change wpList _ _ _ _ _ _; have m := hx1.cell q1; go_wp2_with fail; exact ⟨rfl, Ext.refl _, rfl, rfl⟩
    · intro w1 hx1; change wpList _ _ _ _ _ _; exact ob_move rfl rfl rfl rfl rfl
    · intro w1 hx1; rintro _ rfl; change wpList _ _ _ _ _ _; go_wp2_with fail; exact ⟨rfl, Ext.refl _, rfl, rfl⟩
    · intro w1 hx1; rintro _ rfl; change wpList _ _ _ _ _ _; go_wp2_with fail; exact ⟨rfl, Ext.refl _, rfl, rfl⟩
    · intro w1 hx1; rintro _ rfl; change wpList _ _ _ _ _ _; go_wp2_with fail; exact ⟨rfl, Ext.refl _, rfl, rfl⟩
    · intro w1 hx1; rintro _ rfl; change wpList _ _ _ _ _ _; have m := hx1.cell f0; go_wp2_with fail; exact ⟨rfl, Ext.refl _, rfl, rfl⟩
    · intro w1 hx1; rintro _ rfl; rintro _ rfl; change wpList _ _ _ _ _ _; go_wp2_with fail; refine (HCL.out w1).mono ?_; rintro e w2 ⟨rfl, hx2⟩; go_wp2_with fail; exact ⟨rfl, hx2, rfl, rfl⟩
  · intro w1 hx1; rintro _ rfl; rintro _ rfl; rintro _ rfl; rintro _ rfl; rintro _ rfl; rintro _ rfl; rintro _ rfl; rintro _ rfl; rintro _ rfl; refine depsThen_nil ?_; dsimp only; simp only [Act.put, List.setIfInBounds_toArray, List.set_cons_zero, List.set_cons_succ, List.drop_succ_cons, List.drop_zero]
    have HT1 := Lib.hid (block_later HT.out hx1)
    have hxw := hx0.trans hx1
    clear hx1 hx0
    go_wp2_with (refine wpList_store_whole 34 (.tmp 2) (.tmp 25) rfl rfl (w.heap.size + 1) rfl #[.int .i64 2, .int .i64 0, .string (strOf x.lo.a), .bool false] rfl _ 34 HT1.out rfl info34s (by simp [Value.oneCell']) ?_)
    have L := setRow_heap _ _ _ #[.int .i64 2, .int .i64 0, .string (strOf x.lo.a), .bool false] _ _ HT1.out
    have g0 := cell_of_row _ _ 0 _ _ _ L
    have g1 := cell_of_row _ _ 1 _ _ _ L
    have g2 := cell_of_row _ _ 2 _ _ _ L
    have g3 := cell_of_row _ _ 3 _ _ _ L
    refine bodyPost_ret (v := .tuple #[.agg #[.int .i64 2, .int .i64 0, .string (strOf x.lo.a), .bool false], .bool true]) (by simp [results, Tryz.results54, go_sem, g0, g1, g2, g3]) rfl ⟨rfl, hxw.setRow (by omega) _⟩

set_option maxRecDepth 100000 in
set_option maxHeartbeats 8000000 in
theorem some_b (w : World) (vr : Value) (r : Rg) (h : RgR w vr r) (hi0 : r.i = []) (hs0 : r.s = []) (x : Sp) (l : List Sp) (hl : r.b = x :: l) :
    Calls Tryz.prog 54 #[vr] w fun e w' => e = .returned (.tuple #[.agg #[.int .i64 3, .int .i64 0, .string ⟨#[]⟩, .bool (!x.lo.a.isEmpty)], .bool true]) ∧ Ext w w' := by
  obtain ⟨a1, c1, a2, c2, a3, c3, rfl, h1, h2, h3⟩ := h.ex
  obtain ⟨_, _, e1, hl1, hm1⟩ := Row.shape h1
  obtain ⟨_, _, e2, hl2, hm2⟩ := Row.shape h2
  obtain ⟨_, _, e3, hl3, hm3⟩ := Row.shape h3
  simp only [Value.slice.injEq, true_and] at e1 e2 e3
  obtain ⟨rfl, rfl⟩ := e1
  obtain ⟨rfl, rfl⟩ := e2
  obtain ⟨rfl, rfl⟩ := e3
  unfold maxLen at hm1 hm2 hm3
  obtain ⟨w1, hw1, hx0, hR, hT, hF, hF0⟩ := some_boxes w (.cells #[.slice a1 r.i.length c1, .slice a2 r.s.length c2, .slice a3 r.b.length c3, .bool r.odd] 69)
  have hn : 0 < r.b.length := by rw [hl]; simp
  obtain ⟨B, o, rfl, f0, f1, f2, f3⟩ := SpR.at (h3.ext hx0) hn
  have hB : B < w.heap.size := by
    obtain ⟨B', o', e', g0, _⟩ := SpR.at h3 hn
    cases e'
    exact World.block_lt_of_cell? w _ g0
  have hlo : r.b[0] = x := by simp [hl]
  rw [hlo] at f0 f1 f2 f3
  simp only [Nat.zero_mul, Nat.add_zero] at f0 f1 f2 f3
  have hd : decide ((0 : Int) < (r.b.length : Int)) = true := decide_eq_true (by omega)
  have r0 := cell_of_row _ _ 0 _ _ _ hR
  have r1 := cell_of_row _ _ 1 _ _ _ hR
  have r2 := cell_of_row _ _ 2 _ _ _ hR
  have r3 := cell_of_row _ _ 3 _ _ _ hR
  have HW1 := Lib.hid hw1
  have HT := Lib.hid hT
  have HF := Lib.hid hF
  have HF0 := Lib.hid hF0
  have hcl : ∀ W, Calls Tryz.prog 90 #[.string (strOf x.lo.a)] W fun e w' => e = .returned (.agg #[.int .i64 3, .int .i64 0, .string ⟨#[]⟩, .bool (!x.lo.a.isEmpty)]) ∧ Ext W w' := fun W => some85_any W x.lo.a
  have HCL := Lib.hid hcl
  clear hcl hlo hl
  clear h1 h2 h3 h hR hw1 hT hF hF0
  have zi : r.i.length = 0 := by rw [hi0]; rfl
  generalize r.i.length = n1 at *
  subst zi
  have zs : r.s.length = 0 := by rw [hs0]; rfl
  generalize r.s.length = n2 at *
  subst zs
  generalize r.b.length = n3 at *
  clear hi0 hs0
  generalize (!x.lo.a.isEmpty) = E at *
  generalize r.odd = od at *
  have i0 := fun (x y z : Value) W => (idx55 x y z W).1
  have i1 := fun (x y z : Value) W => (idx55 x y z W).2.1
  have i2 := fun (x y z : Value) W => (idx55 x y z W).2.2
  go_enter Tryz.func54, Tryz.ntmps54
  go_wp2_with (refine wpList_store_whole 109 (.tmp 4) (.tmp 7) rfl rfl (w.heap.size + 1 + 1) rfl #[.func (.func 87) #[] #[], .func (.func 89) #[] #[], .func (.func 90) #[] #[]] rfl _ 109 HF0.out rfl info109s (by simp [Value.oneCell']) ?_; rw [HW1.out])
  refine wp_loop_rounds 4 ?_
  rw [rounds_succ]
  go_wp2_with fail
  rw [rounds_succ]
  go_wp2_with fail
  rw [rounds_succ]
  have q2 := cell_of_row _ _ 2 _ _ _ HF.out
  go_upto_region 6 with fail
  refine wp_region_chain 9 [Fact.eq (.int .i64 2),
      Fact.eq (.pointer (some ⟨w.heap.size + 1 + 1, 2, none⟩)),
      Fact.eq (.func (.func 90) #[] #[]),
      Fact.eq (.slice (some ⟨B, o, none⟩) n3 c3),
      Fact.eq (.pointer (some ⟨B, o, none⟩)),
      Fact.eq (.pointer (some ⟨B, o, none⟩)),
      Fact.eq (.pointer (some ⟨B, o, none⟩)),
      Fact.eq (.string (strOf x.lo.a)),
      Fact.eq (.agg #[.int .i64 3, .int .i64 0, .string ⟨#[]⟩, .bool E])]
    [[], [(0, 17)], [(1, 18)], [], [(3, 20)], [(4, 21)], [(5, 22)], [(6, 23)], [(2, 19), (7, 24)]]
    [(0, 17), (1, 18), (2, 19), (3, 20), (4, 21), (5, 22), (6, 23), (7, 24), (8, 25)] (by kernel_rfl) (by kernel_rfl) ?_ ?_
  · refine ⟨?_, ?_, ?_, ?_, ?_, ?_, ?_, ?_, ?_, trivial⟩
    · intro w1 hx1; change wpList _ _ _ _ _ _; exact ob_move rfl rfl rfl rfl rfl
    · intro w1 hx1; rintro _ rfl; change wpList _ _ _ _ _ _; go_wp2_with fail; exact ⟨rfl, Ext.refl _, rfl, rfl⟩
    · intro w1 hx1; rintro _ rfl; change wpList _ _ _ _ _ _; have m := hx1.cell q2; go_wp2_with fail; exact ⟨rfl, Ext.refl _, rfl, rfl⟩
    · intro w1 hx1; change wpList _ _ _ _ _ _; exact ob_move rfl rfl rfl rfl rfl
    · intro w1 hx1; rintro _ rfl; change wpList _ _ _ _ _ _; go_wp2_with fail; exact ⟨rfl, Ext.refl _, rfl, rfl⟩
    · intro w1 hx1; rintro _ rfl; change wpList _ _ _ _ _ _; go_wp2_with fail; exact ⟨rfl, Ext.refl _, rfl, rfl⟩
    · intro w1 hx1; rintro _ rfl; change wpList _ _ _ _ _ _; go_wp2_with fail; exact ⟨rfl, Ext.refl _, rfl, rfl⟩
    · intro w1 hx1; rintro _ rfl; change wpList _ _ _ _ _ _; have m := hx1.cell f0; go_wp2_with fail; exact ⟨rfl, Ext.refl _, rfl, rfl⟩
    · intro w1 hx1; rintro _ rfl; rintro _ rfl; change wpList _ _ _ _ _ _; go_wp2_with fail; refine (HCL.out w1).mono ?_; rintro e w2 ⟨rfl, hx2⟩; go_wp2_with fail; exact ⟨rfl, hx2, rfl, rfl⟩
  · intro w1 hx1; rintro _ rfl; rintro _ rfl; rintro _ rfl; rintro _ rfl; rintro _ rfl; rintro _ rfl; rintro _ rfl; rintro _ rfl; rintro _ rfl; refine depsThen_nil ?_; dsimp only; simp only [Act.put, List.setIfInBounds_toArray, List.set_cons_zero, List.set_cons_succ, List.drop_succ_cons, List.drop_zero]
    have HT1 := Lib.hid (block_later HT.out hx1)
    have hxw := hx0.trans hx1
    clear hx1 hx0
    go_wp2_with (refine wpList_store_whole 34 (.tmp 2) (.tmp 25) rfl rfl (w.heap.size + 1) rfl #[.int .i64 3, .int .i64 0, .string ⟨#[]⟩, .bool E] rfl _ 34 HT1.out rfl info34s (by simp [Value.oneCell']) ?_)
    have L := setRow_heap _ _ _ #[.int .i64 3, .int .i64 0, .string ⟨#[]⟩, .bool E] _ _ HT1.out
    have g0 := cell_of_row _ _ 0 _ _ _ L
    have g1 := cell_of_row _ _ 1 _ _ _ L
    have g2 := cell_of_row _ _ 2 _ _ _ L
    have g3 := cell_of_row _ _ 3 _ _ _ L
    refine bodyPost_ret (v := .tuple #[.agg #[.int .i64 3, .int .i64 0, .string ⟨#[]⟩, .bool E], .bool true]) (by simp [results, Tryz.results54, go_sem, g0, g1, g2, g3]) rfl ⟨rfl, hxw.setRow (by omega) _⟩

set_option maxRecDepth 100000 in
set_option maxHeartbeats 8000000 in
theorem some_n (w : World) (vr : Value) (r : Rg) (h : RgR w vr r) (hi0 : r.i = []) (hs0 : r.s = []) (hb0 : r.b = []) :
    Calls Tryz.prog 54 #[vr] w fun e w' => e = .returned (.tuple #[.agg #[.int .i64 0, .int .i64 0, .string ⟨#[]⟩, .bool false], .bool r.odd]) ∧ Ext w w' := by
  obtain ⟨a1, c1, a2, c2, a3, c3, rfl, h1, h2, h3⟩ := h.ex
  obtain ⟨_, _, e1, hl1, hm1⟩ := Row.shape h1
  obtain ⟨_, _, e2, hl2, hm2⟩ := Row.shape h2
  obtain ⟨_, _, e3, hl3, hm3⟩ := Row.shape h3
  simp only [Value.slice.injEq, true_and] at e1 e2 e3
  obtain ⟨rfl, rfl⟩ := e1
  obtain ⟨rfl, rfl⟩ := e2
  obtain ⟨rfl, rfl⟩ := e3
  unfold maxLen at hm1 hm2 hm3
  obtain ⟨w1, hw1, hx0, hR, hT, hF, hF0⟩ := some_boxes w (.cells #[.slice a1 r.i.length c1, .slice a2 r.s.length c2, .slice a3 r.b.length c3, .bool r.odd] 69)
  have r0 := cell_of_row _ _ 0 _ _ _ hR
  have r1 := cell_of_row _ _ 1 _ _ _ hR
  have r2 := cell_of_row _ _ 2 _ _ _ hR
  have r3 := cell_of_row _ _ 3 _ _ _ hR
  have HW1 := Lib.hid hw1
  have HT := Lib.hid hT
  have HF := Lib.hid hF
  have HF0 := Lib.hid hF0
  clear h1 h2 h3 h hR hw1 hT hF hF0
  have zi : r.i.length = 0 := by rw [hi0]; rfl
  generalize r.i.length = n1 at *
  subst zi
  have zs : r.s.length = 0 := by rw [hs0]; rfl
  generalize r.s.length = n2 at *
  subst zs
  have zb : r.b.length = 0 := by rw [hb0]; rfl
  generalize r.b.length = n3 at *
  subst zb
  clear hi0 hs0 hb0
  generalize r.odd = od at *
  have i0 := fun (x y z : Value) W => (idx55 x y z W).1
  have i1 := fun (x y z : Value) W => (idx55 x y z W).2.1
  have i2 := fun (x y z : Value) W => (idx55 x y z W).2.2
  go_enter Tryz.func54, Tryz.ntmps54
  go_wp2_with (refine wpList_store_whole 109 (.tmp 4) (.tmp 7) rfl rfl (w.heap.size + 1 + 1) rfl #[.func (.func 87) #[] #[], .func (.func 89) #[] #[], .func (.func 90) #[] #[]] rfl _ 109 HF0.out rfl info109s (by simp [Value.oneCell']) ?_; rw [HW1.out])
  refine wp_loop_rounds 4 ?_
  rw [rounds_succ]
  go_wp2_with fail
  rw [rounds_succ]
  go_wp2_with fail
  rw [rounds_succ]
  go_wp2_with fail
  rw [rounds_succ]
  go_upto_region 8 with fail
  refine Rs.wp_region_facts (Step1 (w.heap.size + 1) (.cells #[.int .i64 0, .int .i64 0, .string ⟨#[]⟩, .bool false] 34 (0, 0))) [Rs.Fact.eq _ (.agg #[.int .i64 0, .int .i64 0, .string ⟨#[]⟩, .bool false]),
      Rs.Fact.eq _ (.pointer (some ⟨w.heap.size, 3, none⟩)),
      Rs.Fact.eq _ (.bool od),
      fact1 (w.heap.size + 1) (.cells #[.int .i64 0, .int .i64 0, .string ⟨#[]⟩, .bool false] 34 (0, 0)),
      Rs.Fact.eq _ (.bool od)]
    [[], [], [(1, 28)], [(0, 27)], [(2, 29)]]
    [(0, 27), (1, 28), (2, 29), (4, 3)] (by kernel_rfl) (by kernel_rfl) ?_ ?_
  · refine ⟨?_, ?_, ?_, ?_, ?_, trivial⟩
    · intro w1 hx1; change wpList _ _ _ _ _ _; go_wp2_with fail; exact ⟨rfl, (Step1 (w.heap.size + 1) (.cells #[.int .i64 0, .int .i64 0, .string ⟨#[]⟩, .bool false] 34 (0, 0))).refl _, rfl, rfl⟩
    · intro w1 hx1; change wpList _ _ _ _ _ _; go_wp2_with fail; exact ⟨rfl, (Step1 (w.heap.size + 1) (.cells #[.int .i64 0, .int .i64 0, .string ⟨#[]⟩, .bool false] 34 (0, 0))).refl _, rfl, rfl⟩
    · intro w1 hx1; rintro _ rfl; change wpList _ _ _ _ _ _; have m := hx1.cell r3 (by simp); go_wp2_with fail; exact ⟨rfl, (Step1 (w.heap.size + 1) (.cells #[.int .i64 0, .int .i64 0, .string ⟨#[]⟩, .bool false] 34 (0, 0))).refl _, rfl, rfl⟩
    · intro w1 hx1; rintro _ rfl; change wpList _ _ _ _ _ _; exact ob_put 34 _ _ #[.int .i64 0, .int .i64 0, .string ⟨#[]⟩, .bool false] _ 34 rfl rfl rfl rfl rfl rfl hx1 HT.out rfl info34s (by simp [Value.oneCell']) fun _ h1 h2 => ⟨h1, h2⟩
    · intro w1 hx1; rintro _ rfl; change wpList _ _ _ _ _ _; exact Rs.ob_assign _ rfl rfl rfl rfl rfl
  · intro w1 hx1 hno; rintro _ rfl; rintro _ rfl; rintro _ rfl; rintro _ rfl; refine depsThen_nil ?_; dsimp only; simp only [Act.put, List.setIfInBounds_toArray, List.set_cons_zero, List.set_cons_succ]
    have o3 : (fact1 (w.heap.size + 1) (.cells #[.int .i64 0, .int .i64 0, .string ⟨#[]⟩, .bool false] 34 (0, 0))).p undef w1 := hno 3 (by decide) rfl
    clear hno
    go_wp2_with fail
    have L := o3.2
    have g0 := cell_of_row _ _ 0 _ _ _ L
    have g1 := cell_of_row _ _ 1 _ _ _ L
    have g2 := cell_of_row _ _ 2 _ _ _ L
    have g3 := cell_of_row _ _ 3 _ _ _ L
    refine bodyPost_ret (v := .tuple #[.agg #[.int .i64 0, .int .i64 0, .string ⟨#[]⟩, .bool false], .bool od]) (by simp [results, Tryz.results54, go_sem, g0, g1, g2, g3]) rfl ⟨rfl, St1.ext hx0 hx1 (by omega)⟩

theorem some_any (w : World) (vr : Value) (r : Rg) (h : RgR w vr r) (hg : Good4 r) : Calls Tryz.prog 54 #[vr] w fun e w' => e = .returned (.tuple #[.agg #[.int .i64 (someR r).1.k, .int .i64 (someR r).1.n, .string (strOf (someR r).1.s), .bool (someR r).1.b], .bool (someR r).2]) ∧ Ext w w' := by
  unfold someR
  cases hi : r.i with
  | cons x l =>
    refine some_i w vr r h x l hi ?_
    obtain ⟨h1, _, h3⟩ := hg.i x (by rw [hi]; exact List.mem_cons_self)
    rcases h1 with h1 | h1
    · rw [lt_live h3] at h1; cases h1
    · exact h1
  | nil =>
    cases hs : r.s with
    | cons x l => exact some_s w vr r h hi x l hs
    | nil =>
      cases hb : r.b with
      | cons x l => exact some_b w vr r h hi hs x l hb
      | nil => exact some_n w vr r h hi hs hb
end Go.Proofs.YtcgflkfbjnpdiaaGreat
