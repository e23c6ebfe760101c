/- Disk: a disk's shape as a text; bytes as picks. -/
import Derived.Test.YtdfnfmanpdafpaaDoorD22
namespace Go.Proofs.YtdfnfmanpdafpaaDoor
open Go.RowKit

def pieceB (nm b : ByteArray) (e : ByteArray) : ByteArray := nm ++ ⟨#[0]⟩ ++ b ++ ⟨#[0]⟩ ++ e ++ ⟨#[0]⟩
def pieceF (f : Fl) : ByteArray := pieceB (strOf f.nm) (strOf f.b) (Utf8.encode ((f.b.length - f.fast : Nat) : Int))
def shapeL (l : List Fl) : ByteArray := l.foldl (fun acc f => acc ++ pieceF f) ⟨#[]⟩
def filesD (S : DS) : List Fl := if S.off then [] else S.fs
theorem encode_le (r : Int) : (Utf8.encode r).size ≤ 4 := by
  unfold Utf8.encode
  generalize (if Utf8.valid r = true then r.toNat else Utf8.runeError) = c
  dsimp only
  split
  · show 1 ≤ 4; omega
  · split
    · show 2 ≤ 4; omega
    · split
      · show 3 ≤ 4; omega
      · show 4 ≤ 4; omega
theorem piece_size (f : Fl) (h : f.nm.length ≤ 32) : (pieceF f).size ≤ f.b.length + 40 := by
  unfold pieceF pieceB
  simp only [ByteArray.size_append, strOf_sizeD]
  have := encode_le ((f.b.length - f.fast : Nat) : Int)
  have e : (ByteArray.mk #[0]).size = 1 := rfl
  rw [e]; omega
theorem shape_snoc (l : List Fl) (f : Fl) : shapeL (l ++ [f]) = shapeL l ++ pieceF f := by unfold shapeL; rw [List.foldl_append]; rfl
theorem shape_size (l : List Fl) (h : ∀ f ∈ l, f.nm.length ≤ 32) : (shapeL l).size ≤ usedF l + 40 * l.length := by
  have key : ∀ (m : List Fl) (acc : ByteArray), (∀ f ∈ m, f.nm.length ≤ 32) → (m.foldl (fun acc f => acc ++ pieceF f) acc).size ≤ acc.size + usedF m + 40 * m.length := by
    intro m
    induction m with
    | nil => intro acc _; simp [usedF]
    | cons f m ih =>
      intro acc hm
      rw [List.foldl_cons, usedF_cons, List.length_cons]
      have h1 := ih (acc ++ pieceF f) fun x hx => hm x (by simp [hx])
      have h2 := piece_size f (hm f (by simp))
      rw [ByteArray.size_append] at h1
      omega
  have := key l ⟨#[]⟩ h
  have e : (ByteArray.mk #[]).size = 0 := rfl
  unfold shapeL
  omega
theorem files_at {S : DS} (ok : OkD S) (ho : S.off = false) {f : Fl} (hf : f ∈ S.fs) : firstE (syncL S f.nm) = 0 ∧ readS S f.nm = f.b ∧ looseS S f.nm = f.b.length - f.fast := by
  have hg : fgetF S.fs f.nm = some f := nget_of ok.up hf
  have h0 : firstE (syncL S f.nm) = 0 := by
    refine firstE_le.2 fun e he => ?_
    simp only [syncL, List.mem_cons, List.not_mem_nil, or_false] at he
    rcases he with rfl | rfl
    · unfold offE; rw [ho]; rfl
    · unfold thereE; rw [ok.names f hf, hg]; rfl
  refine ⟨h0, ?_, ?_⟩
  · unfold readS; rw [if_pos h0, hg]
  · unfold looseS; rw [if_pos h0, hg]
theorem mayN_len {n : List UInt8} (h : mayN n = true) : n.length ≤ 32 := by
  unfold mayN at h
  simp only [Bool.and_eq_true, decide_eq_true_eq] at h
  exact h.1.2
set_option maxRecDepth 100000 in
set_option maxHeartbeats 8000000 in
theorem shape_any (w : World) (b : Nat) (F : List Nat) (S : DS) (hd : Dk w b F S) (ok : OkD S) :
    Calls Tryd.prog 17 #[.pointer (some ⟨b, 0, none⟩)] w fun e w' => e = .returned (.string (shapeL (filesD S))) ∧ Ext w w' := by
  have hnm := names_dk w b F S hd ok
  have hfl : namesS S = (filesD S).map Fl.nm := by unfold namesS filesD; split <;> rfl
  obtain ⟨l, hl⟩ : ∃ l, l = filesD S := ⟨_, rfl⟩
  rw [hfl, ← hl, List.length_map, List.map_map] at hnm
  rw [← hl]
  obtain ⟨n, hn⟩ : ∃ n, n = l.length := ⟨_, rfl⟩
  have hok : ∀ f ∈ l, S.off = false ∧ f ∈ S.fs := fun f hf => by
    rw [hl] at hf
    unfold filesD at hf
    cases ho : S.off with
    | true => rw [ho] at hf; cases hf
    | false => rw [ho] at hf; exact ⟨rfl, hf⟩
  have hl5 : n ≤ 512 := by
    rw [hn, hl]; unfold filesD
    split
    · exact Nat.zero_le _
    · exact ok.len
  have hus : usedF l ≤ 4194304 := by
    rw [hl]; unfold filesD
    split
    · exact Nat.zero_le _
    · exact ok.used
  have HN := Lib.hid hn
  have HL := Lib.hid hl
  have HOK := Lib.hid ok
  have HD := Lib.hid hd
  have HF := Lib.hid hok
  have HU := Lib.hid hus
  rw [← hn] at hnm
  have HNM := Lib.hid hnm
  clear hnm hfl hd ok hn hl hok hus
  go_enter Tryd.func17, Tryd.ntmps17
  go_upto_region 3 with (go_at_call 9; (with_reducible refine HNM.out.mono ?_); rintro e w6 ⟨vn, rfl, ho, hx⟩; have HO := Lib.hid (Row.of_own ho); have HX := Lib.hid hx; obtain ⟨na, nc, rfl, hnc, hnm⟩ := own_shape ho; clear ho hx)
  go_wp2_with fail
  go_loopw [3, 11] (fun s i wr => ∃ k : Nat, k ≤ n ∧ i = .int .i64 k ∧ s = .string (shapeL (l.take k)) ∧ Hid (Ext w6 wr)) (fun _ i _ => n - (intOf i).toNat)
  case atStart => exact ⟨0, Nat.zero_le _, rfl, rfl, Ext.refl _⟩
  case round =>
    obtain ⟨k, hk, rfl, rfl, HXR⟩ := hrel
    by_cases hlt : k < n
    · have hI : decide ((k : Int) < (n : Int)) = true := decide_eq_true (by omega)
      have hkN : (k : Int) < (n : Int) := by omega
      have hkl : k < l.length := by have := HN.out; omega
      obtain ⟨B, o, rfl⟩ := Row.base HO.out (by omega) (by decide)
      obtain ⟨f, hf⟩ : ∃ f, l[k]? = some f := ⟨_, List.getElem?_eq_getElem hkl⟩
      have hfm : f ∈ l := List.mem_of_getElem? hf
      have c1 := HXR.out.cell (Row.cellAt HO.out (j := k) (u := stD f.nm) (by rw [List.getElem?_map, hf]; rfl) (by omega))
      unfold stD at c1
      obtain ⟨hoff, hmem⟩ := HF.out f hfm
      obtain ⟨e1, e2, e3⟩ := files_at HOK.out hoff hmem
      have hnl := mayN_len (HOK.out.names _ hmem)
      have hbl := Nat.le_trans (mem_used hmem) HOK.out.used
      have hxw := HX.out.trans HXR.out
      have hrd := read_any wr b F S f.nm (HD.out.ext hxw) HOK.out.used
      have hlo : ∀ W, Ext wr W → Calls Tryd.prog 11 #[.pointer (some ⟨b, 0, none⟩), .string (strOf f.nm)] W fun e w' => e = .returned (.int .i64 ((f.b.length - f.fast : Nat) : Int)) ∧ Ext W w' := fun W hW => by
        have := loose_any W b F S f.nm (HD.out.ext (hxw.trans hW)) HOK.out
        rwa [e3] at this
      rw [e1, e2] at hrd
      have htk : l.take (k + 1) = l.take k ++ [f] := by rw [List.take_add_one, hf]; rfl
      have hsh : shapeL (l.take (k + 1)) = shapeL (l.take k) ++ pieceF f := by rw [htk, shape_snoc]
      have hss := shape_size (l.take (k + 1)) (fun f hf => mayN_len (HOK.out.names _ (HF.out f (List.mem_of_mem_take hf)).2))
      rw [List.length_take] at hss
      have hsu := usedF_sub (List.take_sublist (k + 1) l)
      rw [hsh, ByteArray.size_append] at hss
      have hbig : (shapeL (l.take k)).size + (pieceF f).size ≤ 5000000 := by have := HU.out; omega
      have HSH := Lib.hid hsh
      have HRD := Lib.hid hrd
      have HLO := Lib.hid hlo
      have hea := encode_le ((f.b.length - f.fast : Nat) : Int)
      have hlof : f.b.length - f.fast ≤ 4194304 := by omega
      have hns := strOf_sizeD f.nm
      have hbs := strOf_sizeD f.b
      have hpf : pieceF f = pieceB (strOf f.nm) (strOf f.b) (Utf8.encode ((f.b.length - f.fast : Nat) : Int)) := rfl
      have HPF := Lib.hid hpf
      have hpz : (pieceF f).size = (strOf f.nm).size + 1 + (strOf f.b).size + 1 + (Utf8.encode ((f.b.length - f.fast : Nat) : Int)).size + 1 := by
        rw [hpf]; unfold pieceB; simp only [ByteArray.size_append]; rfl
      clear e1 e2 e3 hoff hmem hxw htk hsh hss hsu hrd hlo hpf hns hbs hfm
      obtain ⟨lo, hlo⟩ : ∃ lo, lo = f.b.length - f.fast := ⟨_, rfl⟩
      rw [← hlo] at HLO hea hlof HPF hpz
      clear hlo hf
      generalize hpc : pieceF f = pc at *
      clear hpc
      rw [hpz] at hbig
      obtain ⟨A, hA⟩ : ∃ A, A = strOf f.nm := ⟨_, rfl⟩
      obtain ⟨C, hC⟩ : ∃ C, C = strOf f.b := ⟨_, rfl⟩
      obtain ⟨E, hE⟩ : ∃ E, E = Utf8.encode (lo : Int) := ⟨_, rfl⟩
      obtain ⟨R, hR⟩ : ∃ R, R = shapeL (l.take k) := ⟨_, rfl⟩
      rw [← hA, ← hC, ← hE, ← hR] at hbig
      rw [← hA, ← hC, ← hE] at HPF
      rw [← hA] at HLO HRD c1
      rw [← hR] at HSH ⊢
      have HC := Lib.hid hC
      have HE := Lib.hid hE
      clear hA hC hE hR hpz hea hnl hbl
      go_upto_region 5 with fail
      go_upto_region 6 with (go_at_call 10; (with_reducible refine HRD.out.mono ?_); rintro e w7 ⟨v, rfl, ho, hx⟩; have HB := Lib.hid ho.bytes; have HX7 := Lib.hid hx; obtain ⟨ra, rc, rfl, hrc, hrm⟩ := ho.shape; clear ho hx)
      have hk1 : ¬ 9223372036854775807 < A.size + 1 := by omega
      have hk2 : ¬ 9223372036854775807 < A.size + 1 + C.size := by omega
      have hk3 : ¬ 9223372036854775807 < A.size + 1 + C.size + 1 := by omega
      have hk4 : ¬ 9223372036854775807 < A.size + 1 + C.size + 1 + E.size := by omega
      have hk5 : ¬ 9223372036854775807 < A.size + 1 + C.size + 1 + E.size + 1 := by omega
      have hk6 : ¬ 9223372036854775807 < R.size + (A.size + 1 + C.size + 1 + E.size + 1) := by omega
      have HK1 := Lib.hid hk1
      have HK2 := Lib.hid hk2
      have HK3 := Lib.hid hk3
      have HK4 := Lib.hid hk4
      have HK5 := Lib.hid hk5
      have HK6 := Lib.hid hk6
      have HW : Hid (IntKind.i32.wrap (lo : Int) = (lo : Int)) := by show IntKind.i32.wrap (lo : Int) = _; rw [IntKind.wrap_i32]; omega
      have HCV : Hid (∀ W, Ext w7 W → (convert 24 9 (.slice ra f.b.length rc)).run Tryd.prog W = .ok (.string C) W) := fun W hW => by
        rw [HC.out]
        exact run_bytes_str W _ _ _ Tryd.underlying24 Tryd.underlying5 Tryd.underlying9 (HB.out.ext hW)
      clear hk1 hk2 hk3 hk4 hk5 hk6 hbig hlof c1
      refine wp_region_facts [Fact.eq (.string R),
          Fact.eq (.string A),
          Fact.eq (.string (A ++ ⟨#[0]⟩)),
          Fact.eq (.slice ra f.b.length rc),
          Fact.eq (.string C),
          Fact.eq (.string (A ++ ⟨#[0]⟩ ++ C)),
          Fact.eq (.string (A ++ ⟨#[0]⟩ ++ C ++ ⟨#[0]⟩)),
          Fact.eq (.pointer (some ⟨b, 0, none⟩)),
          Fact.eq (.string A),
          Fact.eq (.int .i64 (lo : Int)),
          Fact.eq (.int .i32 (lo : Int)),
          Fact.eq (.string E),
          Fact.eq (.string (A ++ ⟨#[0]⟩ ++ C ++ ⟨#[0]⟩ ++ E)),
          Fact.eq (.string (A ++ ⟨#[0]⟩ ++ C ++ ⟨#[0]⟩ ++ E ++ ⟨#[0]⟩)),
          Fact.eq (.string (R ++ (A ++ ⟨#[0]⟩ ++ C ++ ⟨#[0]⟩ ++ E ++ ⟨#[0]⟩))),
          Fact.eq (.string (R ++ (A ++ ⟨#[0]⟩ ++ C ++ ⟨#[0]⟩ ++ E ++ ⟨#[0]⟩)))]
        [[], [], [(1, 22)], [], [(3, 24)], [(2, 23), (4, 25)], [(5, 26)], [], [], [(7, 28), (8, 29)], [(9, 30)], [(10, 31)], [(6, 27), (11, 32)], [(12, 33)], [(0, 21), (13, 34)], [(14, 35)]]
        [(0, 21), (1, 22), (2, 23), (3, 24), (4, 25), (5, 26), (6, 27), (7, 28), (8, 29), (9, 30), (10, 31), (11, 32), (12, 33), (13, 34), (14, 35), (15, 3)] (by kernel_rfl) (by kernel_rfl) ?_ ?_
      · refine ⟨?_, ?_, ?_, ?_, ?_, ?_, ?_, ?_, ?_, ?_, ?_, ?_, ?_, ?_, ?_, ?_, trivial⟩
        · intro w1 hx1; change wpList _ _ _ _ _ _; exact ob_move rfl rfl rfl rfl rfl
        · intro w1 hx1; change wpList _ _ _ _ _ _; exact ob_move rfl rfl rfl rfl rfl
        · intro w1 hx1; rintro _ rfl; change wpList _ _ _ _ _ _; have k1 := HK1.out; go_wp2_with fail; exact ⟨rfl, Ext.refl _, rfl, rfl⟩
        · intro w1 hx1; change wpList _ _ _ _ _ _; exact ob_move rfl rfl rfl rfl rfl
        · intro w1 hx1; rintro _ rfl; change wpList _ _ _ _ _ _; have k1 := HCV.out w1 hx1; go_wp2_with fail; exact ⟨rfl, Ext.refl _, rfl, rfl⟩
        · intro w1 hx1; rintro _ rfl; rintro _ rfl; change wpList _ _ _ _ _ _; have k1 := HK2.out; go_wp2_with fail; exact ⟨rfl, Ext.refl _, rfl, rfl⟩
        · intro w1 hx1; rintro _ rfl; change wpList _ _ _ _ _ _; have k1 := HK3.out; go_wp2_with fail; exact ⟨rfl, Ext.refl _, rfl, rfl⟩
        · intro w1 hx1; change wpList _ _ _ _ _ _; exact ob_move rfl rfl rfl rfl rfl
        · intro w1 hx1; change wpList _ _ _ _ _ _; exact ob_move rfl rfl rfl rfl rfl
        · intro w1 hx1; rintro _ rfl; rintro _ rfl; change wpList _ _ _ _ _ _; go_wp2_with ((with_reducible refine (HLO.out w1 (HX7.out.trans hx1)).mono ?_); rintro e w2 ⟨rfl, hx2⟩); exact ⟨rfl, hx2, rfl, rfl⟩
        · intro w1 hx1; rintro _ rfl; change wpList _ _ _ _ _ _; have k1 := HW.out; go_wp2_with fail; exact ⟨rfl, Ext.refl _, rfl, rfl⟩
        · intro w1 hx1; rintro _ rfl; change wpList _ _ _ _ _ _; rw [HE.out]; go_wp2_with fail; exact ⟨rfl, Ext.refl _, rfl, rfl⟩
        · intro w1 hx1; rintro _ rfl; rintro _ rfl; change wpList _ _ _ _ _ _; have k1 := HK4.out; go_wp2_with fail; exact ⟨rfl, Ext.refl _, rfl, rfl⟩
        · intro w1 hx1; rintro _ rfl; change wpList _ _ _ _ _ _; have k1 := HK5.out; go_wp2_with fail; exact ⟨rfl, Ext.refl _, rfl, rfl⟩
        · intro w1 hx1; rintro _ rfl; rintro _ rfl; change wpList _ _ _ _ _ _; have k1 := HK6.out; go_wp2_with fail; exact ⟨rfl, Ext.refl _, rfl, rfl⟩
        · intro w1 hx1; rintro _ rfl; change wpList _ _ _ _ _ _; exact ob_assign rfl rfl rfl rfl rfl
      · intro w1 hx1; rintro _ rfl; rintro _ rfl; rintro _ rfl; rintro _ rfl; rintro _ rfl; rintro _ rfl; rintro _ rfl; rintro _ rfl; rintro _ rfl; rintro _ rfl; rintro _ rfl; rintro _ rfl; rintro _ rfl; rintro _ rfl; rintro _ rfl; rintro _ rfl; refine depsThen_nil ?_; dsimp only; simp only [Act.put, List.setIfInBounds_toArray, List.set_cons_zero, List.set_cons_succ]
        have HX1 := Lib.hid (HXR.out.trans (HX7.out.trans hx1))
        have hnext : Value.string (R ++ (A ++ ⟨#[0]⟩ ++ C ++ ⟨#[0]⟩ ++ E ++ ⟨#[0]⟩)) = .string (shapeL (l.take (k + 1))) := by
          rw [HSH.out, HPF.out]; rfl
        rw [hnext]
        clear hx1 hnext
        go_wp2_with fail
        go_roundw
        case rel => exact ⟨k + 1, hlt, by go_num, rfl, HX1.out⟩
        case measure => simp [intOf]; omega
    · obtain rfl : k = n := by omega
      have hI : decide ((k : Int) < (k : Int)) = false := decide_eq_false (by omega)
      have hall : l.take k = l := List.take_of_length_le (by rw [HN.out]; exact Nat.le_refl _)
      rw [hall]
      go_wp2_with fail
      go_ret
      exact ⟨rfl, HX.out.trans HXR.out⟩
end Go.Proofs.YtdfnfmanpdafpaaDoor
