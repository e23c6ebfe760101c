/- Disk: its names in order; how much is used; the questions on lengths. -/
import Derived.Test.YtdfnfmanpdafpaaDoorD7
import Derived.Deep.DeepCutAuto
namespace Go.Proofs.YtdfnfmanpdafpaaDoor
open Go.RowKit Go.MapKept Go.Maps Go.Sort Go.Shelf Go.WideShapes

theorem lt_cmpD (x y : List UInt8) : x < y ↔ Lib.compareBytes x y < 0 := by
  induction x generalizing y with
  | nil => cases y <;> simp [Lib.compareBytes]
  | cons a x ih =>
    cases y with
    | nil => simp [Lib.compareBytes]
    | cons b y =>
      simp only [Lib.compareBytes, List.cons_lt_cons_iff]
      by_cases h1 : a < b
      · simp [h1]
      · by_cases h2 : b < a
        · have hne : ¬ a = b := by intro e; rw [e] at h2; exact absurd h2 (UInt8.lt_irrefl b)
          simp [h1, h2, hne]
        · have he : a = b := UInt8.le_antisymm (UInt8.not_lt.1 h2) (UInt8.not_lt.1 h1)
          subst he
          simp [ih y]
theorem le_cmpD (x y : List UInt8) : x ≤ y ↔ Lib.compareBytes x y ≤ 0 := by
  have h := lt_cmpD y x
  have ha := wo_bytes.anti x y
  rw [← List.not_lt, h]
  omega
def stD (s : List UInt8) : Value := .string (strOf s)
theorem stD_enc : encStr = stD := rfl
/-- What is sorted and has the same texts is the same row. -/
theorem sorted_is {l m : List (List UInt8)} (hp : m.Perm l) (hl : Up Lib.compareBytes l) : (m.mergeSort fun x y => decide (x ≤ y)) = l := by
  have h := List.pairwise_mergeSort (le := fun x y : List UInt8 => decide (x ≤ y)) (fun a b c h1 h2 => by
    simp only [decide_eq_true_eq, le_cmpD] at *
    exact wo_bytes.trans _ _ _ h1 h2) (fun a b => by
    have := wo_bytes.anti a b
    simp only [Bool.or_eq_true, decide_eq_true_eq, le_cmpD]
    omega) m
  have h2 : (m.mergeSort fun x y => decide (x ≤ y)).Pairwise fun a b => Lib.compareBytes a b ≤ 0 := h.imp fun h => by simpa [le_cmpD] using h
  have hp2 : (m.mergeSort fun x y => decide (x ≤ y)).Perm l := (List.mergeSort_perm _ _).trans hp
  have hnd : l.Nodup := by
    refine List.Pairwise.imp ?_ hl
    intro a b hab e
    rw [e, wo_bytes.refl] at hab; omega
  have hnd2 := hp2.nodup_iff.2 hnd
  refine up_unique wo_bytes _ _ ?_ hl fun z => hp2.mem_iff
  refine List.Pairwise.imp ?_ (h2.and hnd2)
  rintro a b ⟨h1, hne⟩
  have h0 : Lib.compareBytes a b ≠ 0 := fun e => hne (bytes_zero e)
  show Lib.compareBytes a b < 0
  omega
/-- What the kit's word on maps asks. -/
theorem owns_files {w : World} {b : Nat} {gs : List FG} {E : List (Value × Value)} (h : MapE w b .string E) (hp : E.Perm (gs.map eG)) (hw : ∀ g ∈ gs, g.nm.length ≤ 32) (hl : gs.length ≤ maxLen) :
    ∃ D0 : DataW Unit, w.ownsMap Tryd.prog 9 (fun _ => some (.nil, [])) b gs.length D0 ∧ (strKeys D0).Perm (gs.map FG.nm) ∧ Maps.size D0 = gs.length := by
  obtain ⟨es, clock, hb, hs, hk, hE⟩ := h
  have hlen : es.size = gs.length := by
    have := hp.length_eq
    rw [← hE, List.length_map, List.length_map, Array.length_toList] at this
    exact this
  have hkey : ∀ x ∈ es.toList, ∃ a : List UInt8, x.key = .string (YtdfnfmanpdafpaaDoor.strOf a) ∧ a.length ≤ 32 := fun x hx => by
    have hm : (x.key, x.val) ∈ gs.map eG := by rw [← hp.mem_iff, ← hE]; exact List.mem_map.2 ⟨x, hx, rfl⟩
    obtain ⟨g, hg, e⟩ := List.mem_map.1 hm
    exact ⟨g.nm, (congrArg Prod.fst e).symm, hw g hg⟩
  have hrd : ∀ x ∈ es.toList, ∃ a : List UInt8, x.key = .string (YtdfnfmanpdafpaaDoor.strOf a) ∧ WideElems.rd (H := Unit) Tryd.prog 9 (fun _ => some (.nil, [])) x = some (.string a, .nil) := fun x hx => by
    obtain ⟨a, e, hwf⟩ := hkey x hx
    have hsz : (YtdfnfmanpdafpaaDoor.strOf a).size ≤ maxLen := by rw [strOf_sizeD]; unfold maxLen; omega
    have hko : keyOf Tryd.prog 9 x.key = some (.string a) := by rw [e]; simp only [keyOf, Tryd.underlying9, mapKey]; rw [if_pos hsz]; rfl
    exact ⟨a, e, by unfold WideElems.rd; rw [hko]; rfl⟩
  refine ⟨.map ((es.toList.map (WideElems.rg Tryd.prog 9 (fun _ => some (.nil, [])))).foldr DataW.insert []), ⟨es, clock, hb, ⟨by rw [hlen]; exact hl, hs, fun x hx => by obtain ⟨a, _, e⟩ := hrd x hx; exact ⟨_, e⟩⟩, by rw [hlen]; exact Nat.le_refl _, rfl⟩, ?_, ?_⟩
  · show (List.map _ _).Perm _
    refine ((sorted_perm _).map _).trans ?_
    rw [List.map_map]
    have e1 : (es.toList.map ((fun p : Lit × DataW Unit => Go.strOf p.1) ∘ WideElems.rg Tryd.prog 9 (fun _ => some (.nil, [])))).Perm (gs.map FG.nm) := by
      have e2 : gs.map FG.nm = (gs.map eG).map (fun p => match p.1 with | .string a => a.data.toList | _ => []) := by rw [List.map_map]; rfl
      rw [e2]
      refine List.Perm.trans ?_ (hp.map _)
      rw [← hE, List.map_map]
      refine List.Perm.of_eq (List.map_congr_left fun x hx => ?_)
      obtain ⟨a, e3, e4⟩ := hrd x hx
      simp only [Function.comp, e3, WideElems.rg_of e4]
      rfl
    exact e1
  · show List.length (List.foldr DataW.insert [] (List.map (WideElems.rg Tryd.prog 9 fun _ => some (.nil, [])) es.toList)) = _
    rw [length_sorted, List.length_map, Array.length_toList, hlen]
theorem sortsD (m : Nat) : AnyZ.SortsIn Tryd.prog Tryd.sortedD_ren Fence.wide m :=
  ⟨fun blk off cap ss W hH hblk hsz => callsIn_wide.2 (AnyM.slices_Sort_string Tryd.sortD blk off cap ss W hH hblk hsz), fun p cap W => callsIn_wide.2 (AnyM.slices_Sort_string_none Tryd.sortD p cap W)⟩
theorem keysD_any (mb : Option Nat) (W : World) : Calls Tryd.prog 32 #[.map mb] W fun e w' => e = .returned (.func (.func 45) #[] #[.pointer (some ⟨W.heap.size, 0, none⟩)]) ∧ w' = W.alloc (.cells #[.map mb] 56) :=
  (callsIn_wide (n := 5)).1 (AnyZ.keys_in Tryd.keysD Fence.wide 5 trivial rfl mb W)
set_option maxHeartbeats 1000000 in
theorem sortedD_any (w : World) (b : Nat) (gs : List FG) (E : List (Value × Value)) (h : MapE w b .string E) (hp : E.Perm (gs.map eG)) (hu : UpK FG.nm gs) (hw : ∀ g ∈ gs, g.nm.length ≤ 32) (hl : gs.length ≤ 1000000) :
    Calls Tryd.prog 31 #[.func (.func 45) #[] #[.pointer (some ⟨w.heap.size, 0, none⟩)]] (w.alloc (.cells #[.map (some b)] 56)) fun e w' =>
      ∃ v : Value, e = .returned v ∧ w'.ownsRow w.heap.size 9 1 v gs.length (gs.map fun g => stD g.nm) ∧ Ext w w' := by
  have hbl := h.lt
  obtain ⟨D0, hown, hperm, hsz⟩ := owns_files h hp hw (by unfold maxLen; omega)
  have hseq : SeqGives Fence.wide 2 Tryd.prog 45 #[.pointer (some ⟨w.heap.size, 0, none⟩)] encStr (fun ss => ss.Perm (strKeys D0)) (Maps.size D0) (w.alloc (.cells #[.map (some b)] 56)) :=
    AnyZ.keys_gives (ρ := Tryd.keysD_ren) { Tryd.keysD with } Fence.wide _ trivial rfl (by omega) w.heap.size b gs.length D0 _ (by simp) (by simp) (by
      obtain ⟨es, clock, hb, Ft, hs, hD⟩ := hown
      exact ⟨es, clock, (Below.heap_alloc _ _ b hbl).trans hb, Ft, hs, hD⟩)
  have cS := AnyZ.sorted_in Tryd.sortedD Fence.wide 5 trivial trivial trivial trivial rfl (by omega) (sortsD _) (enters_of Tryd.func44 (by kernel_rfl) rfl) 45 #[.pointer (some ⟨w.heap.size, 0, none⟩)] trivial (enters_of Tryd.func45 (by kernel_rfl) rfl) _ _ (by rw [hsz]; unfold maxLen; omega) (by rw [hsz]; omega) _ hseq
  change CallsIn _ _ Tryd.prog 31 _ _ _ at cS
  refine ((callsIn_wide (n := 5)).1 cS).mono ?_
  rintro e w' ⟨v, ss, rfl, hS, hrow, hnil, hb⟩
  have hs : (ss.mergeSort fun x y => decide (x ≤ y)) = gs.map FG.nm := sorted_is (hS.trans hperm) hu.map
  have hln : ss.length = gs.length := by rw [(hS.trans hperm).length_eq, List.length_map]
  refine ⟨v, rfl, ?_, ?_⟩
  · rw [hs, hln, List.map_map] at hrow
    exact own_low hrow (by rw [World.size_alloc]; exact Nat.le_succ _)
  · exact ((Ext.refl w).alloc _).trans hb
theorem DkR.sorted {w : World} {b bm : Nat} {gs : List FG} {q fz : Int} {off : Bool} (h : DkR w b bm gs q fz off) (hw : ∀ g ∈ gs, g.nm.length ≤ 32) (hl : gs.length ≤ 1000000) :
    Calls Tryd.prog 31 #[.func (.func 45) #[] #[.pointer (some ⟨w.heap.size, 0, none⟩)]] (w.alloc (.cells #[.map (some bm)] 56)) fun e w' =>
      ∃ v : Value, e = .returned v ∧ w'.ownsRow w.heap.size 9 1 v gs.length (gs.map fun g => stD g.nm) ∧ Ext w w' := by
  obtain ⟨E, hE, hp⟩ := h.map
  exact sortedD_any w bm gs E hE hp h.up hw hl
set_option maxRecDepth 100000 in
set_option maxHeartbeats 4000000 in
theorem namesG_on (w : World) (b bm : Nat) (gs : List FG) (q fz : Int) (hd : DkR w b bm gs q fz false) (hw : ∀ g ∈ gs, g.nm.length ≤ 32) (hl : gs.length ≤ 1000000) :
    Calls Tryd.prog 9 #[.pointer (some ⟨b, 0, none⟩)] w fun e w' => ∃ v : Value, e = .returned v ∧ w'.ownsRow w.heap.size 9 1 v gs.length (gs.map fun g => stD g.nm) ∧ Ext w w' := by
  have hans : Calls Tryd.prog 30 #[.pointer (some ⟨b, 0, none⟩)] w fun e w' => e = .returned (.int .i64 0) ∧ w' = w := answers_any w b bm q fz false hd.box
  have HA := Lib.hid hans
  have b0 := cell_of_row _ _ 0 _ _ _ hd.box
  have hs := hd.sorted hw hl
  have HS := Lib.hid hs
  clear hans hd hw hl hs
  go_enter Tryd.func9, Tryd.ntmps9
  go_wp2_with (first
    | (go_at_call 30; (with_reducible refine HA.out.mono ?_); rintro e w5 ⟨rfl, rfl⟩)
    | (go_at_call 32; (with_reducible refine (keysD_any (some bm) _).mono ?_); rintro e w5 ⟨rfl, rfl⟩)
    | (go_at_call 31; (with_reducible refine HS.out.mono ?_); rintro e w5 ⟨v, rfl, hv, hx⟩; have HV := Lib.hid hv; have HX := Lib.hid hx; clear hv hx))
  go_ret
  exact ⟨_, rfl, HV.out, HX.out⟩
set_option maxRecDepth 100000 in
set_option maxHeartbeats 4000000 in
theorem namesG_off (w : World) (b bm : Nat) (gs : List FG) (q fz : Int) (hd : DkR w b bm gs q fz true) :
    Calls Tryd.prog 9 #[.pointer (some ⟨b, 0, none⟩)] w fun e w' => e = .returned (.slice none 0 0) ∧ w' = w := by
  have hans : Calls Tryd.prog 30 #[.pointer (some ⟨b, 0, none⟩)] w fun e w' => e = .returned (.int .i64 8) ∧ w' = w := answers_any w b bm q fz true hd.box
  have HA := Lib.hid hans
  clear hans hd
  go_enter Tryd.func9, Tryd.ntmps9
  go_wp2_with (go_at_call 30; (with_reducible refine HA.out.mono ?_); rintro e w5 ⟨rfl, rfl⟩)
  go_ret
  exact ⟨rfl, rfl⟩
def usedG (l : List FG) : Nat := (l.map fun g => g.b.length).sum
theorem usedG_fl (l : List FG) : usedF (l.map FG.fl) = usedG l := by unfold usedF usedG; rw [List.map_map]; rfl
theorem usedG_take (l : List FG) (k : Nat) (hk : k < l.length) : usedG (l.take (k + 1)) = usedG (l.take k) + l[k].b.length := by
  unfold usedG
  rw [List.take_succ_eq_append_getElem hk, List.map_append, List.sum_append]
  simp
theorem usedG_take_le (l : List FG) (k : Nat) : usedG (l.take k) ≤ usedG l := by
  unfold usedG
  conv => rhs; rw [← List.take_append_drop k l, List.map_append, List.sum_append]
  omega
set_option maxRecDepth 100000 in
set_option maxHeartbeats 4000000 in
theorem usedG_on (w : World) (b bm : Nat) (gs : List FG) (q fz : Int) (hd : DkR w b bm gs q fz false) (hw : ∀ g ∈ gs, g.nm.length ≤ 32) (hl : gs.length ≤ 1000000) (hu : usedG gs ≤ 1000000000) :
    Calls Tryd.prog 27 #[.pointer (some ⟨b, 0, none⟩)] w fun e w' => e = .returned (.int .i64 (usedG gs : Nat)) ∧ Ext w w' := by
  have hnm := namesG_on w b bm gs q fz hd hw hl
  have HN := Lib.hid hnm
  have HD := Lib.hid hd
  have HU := Lib.hid hu
  clear hnm hd hw hu
  obtain ⟨n, hn⟩ : ∃ n, n = gs.length := ⟨_, rfl⟩
  have HLN := Lib.hid hn
  rw [← hn] at HN hl
  clear hn
  go_enter Tryd.func27, Tryd.ntmps27
  go_upto_region 2 with fail
  go_cut [3, 7, 8, 9] from 2 to 3 (fun v3 v v8 v9 wx => ∃ a c, v3 = .int .i64 0 ∧ v8 = .int .i64 n ∧ v9 = .int .i64 0 ∧ v = .slice a n c ∧ Hid (Row wx 1 (.slice a n c) n (gs.map fun g => stD g.nm)) ∧ Hid (Ext w wx))
  case first =>
    go_wp2_with ((with_reducible refine HN.out.mono ?_); rintro e w5 ⟨v, rfl, hv, hx⟩; obtain ⟨a, c, rfl, hc, hm⟩ := own_shape hv; have HV := Lib.hid (Row.of_own hv); have HX := Lib.hid hx; clear hv hx)
    go_meet
    exact ⟨a, c, rfl, rfl, rfl, rfl, HV.out, HX.out⟩
  case rest =>
    obtain ⟨a, c, rfl, rfl, rfl, rfl, HR, HX⟩ := hcut
    have HD2 := Lib.hid (HD.out.ext HX.out)
    clear HN HD
    go_wp2_with fail
    go_loopw [3, 9] (fun s i wr => ∃ k : Nat, k ≤ n ∧ i = .int .i64 k ∧ s = .int .i64 (usedG (gs.take k) : Nat) ∧ wr = wc) (fun _ i _ => n - (intOf i).toNat)
    case atStart => exact ⟨0, Nat.zero_le _, rfl, rfl, rfl⟩
    case round =>
      obtain ⟨k, hk, rfl, rfl, rfl⟩ := hrel
      by_cases hlt : k < n
      · have hI : decide ((k : Int) < (n : Int)) = true := decide_eq_true (by omega)
        have hkN : (k : Int) < (n : Int) := by omega
        have hkl : k < gs.length := by have := HLN.out; omega
        obtain ⟨B, o, rfl⟩ := Row.base HR.out (by omega) (by decide)
        have hcl := Row.cellAt HR.out (j := k) (u := stD gs[k].nm) (by rw [List.getElem?_map, List.getElem?_eq_getElem hkl]; rfl) (by omega)
        have hmem : gs[k] ∈ gs := List.getElem_mem hkl
        have hpt : ptrG gs gs[k].nm = some ⟨gs[k].p, 0, none⟩ := by unfold ptrG; rw [nget_of HD2.out.up hmem]; rfl
        have hlook := HD2.out.look gs[k].nm
        rw [hpt] at hlook
        have hf := HD2.out.files _ hmem
        obtain ⟨fa, fc, hfh, hfc, hfm⟩ := own_shape hf.row
        have hcl2 := cell_of_row _ _ 0 _ _ _ hf.cell
        rw [hfh] at hcl2
        have b0 := cell_of_row _ _ 0 _ _ _ HD2.out.box
        have hsum := usedG_take gs k hkl
        have hle := usedG_take_le gs (k + 1)
        have hwr : IntKind.i64.wrap ((usedG (gs.take k) : Int) + (gs[k].b.length : Int)) = ((usedG (gs.take (k + 1)) : Nat) : Int) := by
          rw [IntKind.wrap_i64]; have := HU.out; omega
        obtain ⟨u1, hu1⟩ : ∃ u1, u1 = usedG (gs.take (k + 1)) := ⟨_, rfl⟩
        have HU1 := Lib.hid hu1
        rw [← hu1] at hwr
        clear hu1
        clear hsum hle hmem hpt hf hfh hfc hfm
        unfold stD at hcl
        generalize gs[k] = g at *
        generalize usedG (gs.take k) = u0 at *
        go_wp2_with fail
        go_roundw
        case rel => exact ⟨k + 1, hlt, by go_num, by rw [← HU1.out], trivial⟩
        case measure => simp [intOf]; omega
      · obtain rfl : k = n := by omega
        have hI : decide ((k : Int) < (k : Int)) = false := decide_eq_false (by omega)
        have hall : usedG (gs.take k) = usedG gs := by rw [List.take_of_length_le (by have := HLN.out; omega)]
        have HALL := Lib.hid hall
        clear hall
        go_wp2_with fail
        go_ret
        exact ⟨by rw [← HALL.out]; rfl, HX.out⟩
end Go.Proofs.YtdfnfmanpdafpaaDoor
