/- Regions: Has. (Three walks alike, printed by a program.)
Contracts where what they answer is known.
The chapter's rows of covering: wakes. (Printed by a program.) -/
import Derived.Test.YtcgflkfbjnpdiaaGreatP12
import Derived.Test.YtcgflkfbjnpdiaaGreatP17
namespace Go.Proofs.YtcgflkfbjnpdiaaGreat
open Go.RowKit

end Go.Proofs.YtcgflkfbjnpdiaaGreat

namespace Go.Proofs.YtcgflkfbjnpdiaaGreat
open Go.RowKit

theorem number_lit (w : World) (n : Int) : Calls Tryz.prog 50 #[.int .i64 n] w fun e w' => e = .returned (.agg #[.int .i64 1, .int .i64 n, .string ⟨#[]⟩, .bool false]) ∧ Ext w w' := (number_any w n).mono fun _ _ h => ⟨h.1, h.2.1⟩
theorem covers_lit {w : World} {vp vq : Value} {p q : List C} (hp : PredR w vp p) (hq : PredR w vq q) (kp : ∀ c ∈ p, okC c) (kq : ∀ c ∈ q, okC c) {b : Bool} (h : coversF p q = b) :
    Calls Tryz.prog 18 #[vp, vq] w fun e w' => e = .returned (.bool b) ∧ Ext w w' := by
  have := covers_any w vp vq p q hp hq kp kq
  rwa [h] at this
theorem counter_lit {w : World} {vp vq : Value} {p q : List C} (hp : PredR w vp p) (hq : PredR w vq q) (kp : ∀ c ∈ p, okC c) (kq : ∀ c ∈ q, okC c) {L : List (List UInt8 × V)} {b : Bool} {n : Nat} (h : counterF p q = (L, b)) (hn : L.length = n) :
    Calls Tryz.prog 52 #[vp, vq] w fun e w' => ∃ aa cc, e = .returned (.tuple #[.agg #[.string ⟨#[]⟩, .slice aa n cc], .bool b]) ∧ AttrR w' (.slice aa n cc) L ∧ Ext w w' := by
  refine (counter_any w vp vq p q hp hq kp kq).mono ?_
  rw [h]
  rintro e w' ⟨va, rfl, ha, hx⟩
  obtain ⟨aa, cc, rfl, _, _⟩ := Row.shape ha
  simp only [hn] at ha ⊢
  exact ⟨aa, cc, rfl, ha, hx⟩
theorem Of_lit {w : World} {c : C} {sa : Option Addr} {sn sc : Nat} (hs : SetR w (.slice sa sn sc) c.set) (hk : okC c) {R : Rg} (hr : ofR c = R) (hm : mayC c = true) :
    Calls Tryz.prog 53 #[.agg #[.string (strOf c.name), .int .i64 c.op, .int .i64 c.v.k, .int .i64 c.v.n, .string (strOf c.v.s), .bool c.v.b, .slice sa sn sc]] w fun e w' => ∃ a1 c1 a2 c2 a3 c3, e = .returned (.tuple #[.agg #[.slice a1 R.i.length c1, .slice a2 R.s.length c2, .slice a3 R.b.length c3, .bool R.odd], .int .i64 0]) ∧ RgR w' (.agg #[.slice a1 R.i.length c1, .slice a2 R.s.length c2, .slice a3 R.b.length c3, .bool R.odd]) R ∧ Ext w w' := by
  have hn : sn = c.set.length := by
    obtain ⟨_, _, e, _, _⟩ := Row.shape hs
    simp only [Value.slice.injEq] at e
    exact e.2.1
  subst hn
  have h := Of_any w c sa sc hs hk.v.n fun x hx => (hk.set x hx).n
  rw [hm, hr] at h
  refine h.mono ?_
  rintro e w' ⟨v, rfl, hv, hx⟩
  obtain ⟨a1, c1, a2, c2, a3, c3, rfl, _, _, _⟩ := hv.ex
  exact ⟨a1, c1, a2, c2, a3, c3, rfl, hv, hx⟩
theorem some_lit {w : World} {vr : Value} {r : Rg} (h : RgR w vr r) (hg : Good4 r) {v : V} {b : Bool} (hs : someR r = (v, b)) : Calls Tryz.prog 54 #[vr] w fun e w' => e = .returned (.tuple #[.agg #[.int .i64 v.k, .int .i64 v.n, .string (strOf v.s), .bool v.b], .bool b]) ∧ Ext w w' := by
  have := some_any w vr r h hg
  rwa [hs] at this
theorem empty_lit {w : World} {vr : Value} {r : Rg} (h : RgR w vr r) {b : Bool} (hs : r.empty = b) : Calls Tryz.prog 80 #[vr] w fun e w' => e = .returned (.bool b) ∧ Ext w w' := by
  have := empty_any w vr r h
  rwa [hs] at this
end Go.Proofs.YtcgflkfbjnpdiaaGreat

namespace Go.Proofs.YtcgflkfbjnpdiaaGreat
open Go.RowKit

def fiveP : List C := [⟨[97], 6, ⟨1, 5, [], false⟩, []⟩]
theorem fiveP_ok : ∀ c ∈ fiveP, okC c := okL (by kernel_rfl)
def sevenP : List C := [⟨[97], 6, ⟨1, 7, [], false⟩, []⟩]
theorem sevenP_ok : ∀ c ∈ sevenP, okC c := okL (by kernel_rfl)
def setP : List C := [⟨[97], 9, ⟨0, 0, [], false⟩, [⟨1, 6, [], false⟩, ⟨1, 8, [], false⟩]⟩]
theorem setP_ok : ∀ c ∈ setP, okC c := okL (by kernel_rfl)
def preP : List C := [⟨[115], 8, ⟨2, 0, [97, 98], false⟩, []⟩]
theorem preP_ok : ∀ c ∈ preP, okC c := okL (by kernel_rfl)
def wideP : List C := [⟨[115], 7, ⟨2, 0, [97, 98], false⟩, []⟩, ⟨[115], 4, ⟨2, 0, [97, 99], false⟩, []⟩]
theorem wideP_ok : ∀ c ∈ wideP, okC c := okL (by kernel_rfl)
def neverP : List C := [⟨[97], 2, ⟨1, 1, [], false⟩, []⟩, ⟨[97], 2, ⟨1, 2, [], false⟩, []⟩]
theorem neverP_ok : ∀ c ∈ neverP, okC c := okL (by kernel_rfl)
def hasbP : List C := [⟨[98], 1, ⟨0, 0, [], false⟩, []⟩]
theorem hasbP_ok : ∀ c ∈ hasbP, okC c := okL (by kernel_rfl)
def oneP : List C := [⟨[97], 2, ⟨1, 1, [], false⟩, []⟩]
theorem oneP_ok : ∀ c ∈ oneP, okC c := okL (by kernel_rfl)
def hasaP : List C := [⟨[97], 1, ⟨0, 0, [], false⟩, []⟩]
theorem hasaP_ok : ∀ c ∈ hasaP, okC c := okL (by kernel_rfl)
def bOneP : List C := [⟨[98], 2, ⟨1, 1, [], false⟩, []⟩]
theorem bOneP_ok : ∀ c ∈ bOneP, okC c := okL (by kernel_rfl)
def nilP : List C := []
theorem nilP_ok : ∀ c ∈ nilP, okC c := okL (by kernel_rfl)
def gxC : C := ⟨[97], 6, ⟨2, 0, [120], false⟩, []⟩
theorem gxC_ok : okC gxC := okCB_ok (by kernel_rfl)
theorem gxC_may : mayC gxC = true := by kernel_rfl
theorem cv_fiveP_sevenP : coversF fiveP sevenP = true := by kernel_rfl
theorem cv_sevenP_fiveP : coversF sevenP fiveP = false := by kernel_rfl
theorem cv_fiveP_setP : coversF fiveP setP = true := by kernel_rfl
theorem cv_hasaP_bOneP : coversF hasaP bOneP = false := by kernel_rfl
theorem cv_preP_wideP : coversF preP wideP = true := by kernel_rfl
theorem cv_wideP_preP : coversF wideP preP = true := by kernel_rfl
theorem cv_sevenP_neverP : coversF sevenP neverP = true := by kernel_rfl
theorem cv_nilP_fiveP : coversF nilP fiveP = true := by kernel_rfl
theorem ctr1 : counterF sevenP fiveP = ([([97], ⟨1, 6, [], false⟩)], true) := by kernel_rfl
theorem ctr2 : counterF hasbP oneP = ([([97], ⟨1, 1, [], false⟩)], true) := by kernel_rfl
theorem some1 : someR (ofR gxC) = (⟨2, 0, [120, 0], false⟩, true) := by kernel_rfl

set_option maxRecDepth 100000 in
set_option maxHeartbeats 8000000 in
theorem wakes05_any (w : World) : Calls Tryz.prog 19 #[] w fun e w' => e = .returned (.bool true) ∧ Ext w w' := by
  go_enter Tryz.func19, Tryz.ntmps19
  have hw := Ext.refl w
  go_wp2_with fail
  refine (con39_any w ⟨#[97]⟩ 6 5).mono ?_
  rintro e w1 ⟨rfl, hx1⟩
  have hw := hw.trans hx1
  clear hx1
  obtain ⟨hx2, hfive⟩ := boxes1 w1 (.cells #[.string ⟨#[97]⟩, .int .i64 6, .int .i64 1, .int .i64 5, .string ⟨#[]⟩, .bool false, .slice none 0 0] 37)
  have hw := hw.trans hx2
  clear hx2
  have Hfive := Lib.hid hfive
  clear hfive
  go_wp2_with fail
  generalize w1.alloc (.cells #[.string ⟨#[97]⟩, .int .i64 6, .int .i64 1, .int .i64 5, .string ⟨#[]⟩, .bool false, .slice none 0 0] 37) = w2 at *
  generalize w1.heap.size = bfive at *
  go_wp2_with fail
  refine (con39_any w2 ⟨#[97]⟩ 6 7).mono ?_
  rintro e w3 ⟨rfl, hx3⟩
  have hw := hw.trans hx3
  have Hfive := Lib.hid (block_later Hfive.out hx3)
  clear hx3
  obtain ⟨hx4, hseven⟩ := boxes1 w3 (.cells #[.string ⟨#[97]⟩, .int .i64 6, .int .i64 1, .int .i64 7, .string ⟨#[]⟩, .bool false, .slice none 0 0] 37)
  have hw := hw.trans hx4
  have Hfive := Lib.hid (block_later Hfive.out hx4)
  clear hx4
  have Hseven := Lib.hid hseven
  clear hseven
  go_wp2_with fail
  generalize w3.alloc (.cells #[.string ⟨#[97]⟩, .int .i64 6, .int .i64 1, .int .i64 7, .string ⟨#[]⟩, .bool false, .slice none 0 0] 37) = w4 at *
  generalize w3.heap.size = bseven at *
  go_wp2_with fail
  refine (number_lit w4 6).mono ?_
  rintro e w5 ⟨rfl, hx5⟩
  have hw := hw.trans hx5
  have Hfive := Lib.hid (block_later Hfive.out hx5)
  have Hseven := Lib.hid (block_later Hseven.out hx5)
  clear hx5
  go_wp2_with fail
  refine (number_lit w5 8).mono ?_
  rintro e w6 ⟨rfl, hx6⟩
  have hw := hw.trans hx6
  have Hfive := Lib.hid (block_later Hfive.out hx6)
  have Hseven := Lib.hid (block_later Hseven.out hx6)
  clear hx6
  obtain ⟨hx7, hset, hsetp⟩ := boxes2 w6 (.cells #[.int .i64 1, .int .i64 6, .string ⟨#[]⟩, .bool false, .int .i64 1, .int .i64 8, .string ⟨#[]⟩, .bool false] 34) (.cells #[.string ⟨#[97]⟩, .int .i64 9, .int .i64 0, .int .i64 0, .string ⟨#[]⟩, .bool false, .slice (some ⟨w6.heap.size, 0, none⟩) 2 2] 37)
  have hw := hw.trans hx7
  have Hfive := Lib.hid (block_later Hfive.out hx7)
  have Hseven := Lib.hid (block_later Hseven.out hx7)
  clear hx7
  have Hset := Lib.hid hset
  clear hset
  have Hsetp := Lib.hid hsetp
  clear hsetp
  go_wp2_with fail
  generalize (w6.alloc (.cells #[.int .i64 1, .int .i64 6, .string ⟨#[]⟩, .bool false, .int .i64 1, .int .i64 8, .string ⟨#[]⟩, .bool false] 34)).alloc (.cells #[.string ⟨#[97]⟩, .int .i64 9, .int .i64 0, .int .i64 0, .string ⟨#[]⟩, .bool false, .slice (some ⟨w6.heap.size, 0, none⟩) 2 2] 37) = w7 at *
  generalize w6.heap.size + 1 = bsetp at *
  generalize w6.heap.size = bset at *
  go_wp2_with fail
  refine (str41_any w7 ⟨#[115]⟩ 8 ⟨#[97, 98]⟩).mono ?_
  rintro e w8 ⟨rfl, hx8⟩
  have hw := hw.trans hx8
  have Hfive := Lib.hid (block_later Hfive.out hx8)
  have Hseven := Lib.hid (block_later Hseven.out hx8)
  have Hset := Lib.hid (block_later Hset.out hx8)
  have Hsetp := Lib.hid (block_later Hsetp.out hx8)
  clear hx8
  obtain ⟨hx9, hpre⟩ := boxes1 w8 (.cells #[.string ⟨#[115]⟩, .int .i64 8, .int .i64 2, .int .i64 0, .string ⟨#[97, 98]⟩, .bool false, .slice none 0 0] 37)
  have hw := hw.trans hx9
  have Hfive := Lib.hid (block_later Hfive.out hx9)
  have Hseven := Lib.hid (block_later Hseven.out hx9)
  have Hset := Lib.hid (block_later Hset.out hx9)
  have Hsetp := Lib.hid (block_later Hsetp.out hx9)
  clear hx9
  have Hpre := Lib.hid hpre
  clear hpre
  go_wp2_with fail
  generalize w8.alloc (.cells #[.string ⟨#[115]⟩, .int .i64 8, .int .i64 2, .int .i64 0, .string ⟨#[97, 98]⟩, .bool false, .slice none 0 0] 37) = w9 at *
  generalize w8.heap.size = bpre at *
  go_wp2_with fail
  refine (str41_any w9 ⟨#[115]⟩ 7 ⟨#[97, 98]⟩).mono ?_
  rintro e w10 ⟨rfl, hx10⟩
  have hw := hw.trans hx10
  have Hfive := Lib.hid (block_later Hfive.out hx10)
  have Hseven := Lib.hid (block_later Hseven.out hx10)
  have Hset := Lib.hid (block_later Hset.out hx10)
  have Hsetp := Lib.hid (block_later Hsetp.out hx10)
  have Hpre := Lib.hid (block_later Hpre.out hx10)
  clear hx10
  go_wp2_with fail
  refine (str41_any w10 ⟨#[115]⟩ 4 ⟨#[97, 99]⟩).mono ?_
  rintro e w11 ⟨rfl, hx11⟩
  have hw := hw.trans hx11
  have Hfive := Lib.hid (block_later Hfive.out hx11)
  have Hseven := Lib.hid (block_later Hseven.out hx11)
  have Hset := Lib.hid (block_later Hset.out hx11)
  have Hsetp := Lib.hid (block_later Hsetp.out hx11)
  have Hpre := Lib.hid (block_later Hpre.out hx11)
  clear hx11
  obtain ⟨hx12, hwide⟩ := boxes1 w11 (.cells #[.string ⟨#[115]⟩, .int .i64 7, .int .i64 2, .int .i64 0, .string ⟨#[97, 98]⟩, .bool false, .slice none 0 0, .string ⟨#[115]⟩, .int .i64 4, .int .i64 2, .int .i64 0, .string ⟨#[97, 99]⟩, .bool false, .slice none 0 0] 37)
  have hw := hw.trans hx12
  have Hfive := Lib.hid (block_later Hfive.out hx12)
  have Hseven := Lib.hid (block_later Hseven.out hx12)
  have Hset := Lib.hid (block_later Hset.out hx12)
  have Hsetp := Lib.hid (block_later Hsetp.out hx12)
  have Hpre := Lib.hid (block_later Hpre.out hx12)
  clear hx12
  have Hwide := Lib.hid hwide
  clear hwide
  go_wp2_with fail
  generalize w11.alloc (.cells #[.string ⟨#[115]⟩, .int .i64 7, .int .i64 2, .int .i64 0, .string ⟨#[97, 98]⟩, .bool false, .slice none 0 0, .string ⟨#[115]⟩, .int .i64 4, .int .i64 2, .int .i64 0, .string ⟨#[97, 99]⟩, .bool false, .slice none 0 0] 37) = w12 at *
  generalize w11.heap.size = bwide at *
  go_wp2_with fail
  refine (con39_any w12 ⟨#[97]⟩ 2 1).mono ?_
  rintro e w13 ⟨rfl, hx13⟩
  have hw := hw.trans hx13
  have Hfive := Lib.hid (block_later Hfive.out hx13)
  have Hseven := Lib.hid (block_later Hseven.out hx13)
  have Hset := Lib.hid (block_later Hset.out hx13)
  have Hsetp := Lib.hid (block_later Hsetp.out hx13)
  have Hpre := Lib.hid (block_later Hpre.out hx13)
  have Hwide := Lib.hid (block_later Hwide.out hx13)
  clear hx13
  go_wp2_with fail
  refine (con39_any w13 ⟨#[97]⟩ 2 2).mono ?_
  rintro e w14 ⟨rfl, hx14⟩
  have hw := hw.trans hx14
  have Hfive := Lib.hid (block_later Hfive.out hx14)
  have Hseven := Lib.hid (block_later Hseven.out hx14)
  have Hset := Lib.hid (block_later Hset.out hx14)
  have Hsetp := Lib.hid (block_later Hsetp.out hx14)
  have Hpre := Lib.hid (block_later Hpre.out hx14)
  have Hwide := Lib.hid (block_later Hwide.out hx14)
  clear hx14
  obtain ⟨hx15, hnever⟩ := boxes1 w14 (.cells #[.string ⟨#[97]⟩, .int .i64 2, .int .i64 1, .int .i64 1, .string ⟨#[]⟩, .bool false, .slice none 0 0, .string ⟨#[97]⟩, .int .i64 2, .int .i64 1, .int .i64 2, .string ⟨#[]⟩, .bool false, .slice none 0 0] 37)
  have hw := hw.trans hx15
  have Hfive := Lib.hid (block_later Hfive.out hx15)
  have Hseven := Lib.hid (block_later Hseven.out hx15)
  have Hset := Lib.hid (block_later Hset.out hx15)
  have Hsetp := Lib.hid (block_later Hsetp.out hx15)
  have Hpre := Lib.hid (block_later Hpre.out hx15)
  have Hwide := Lib.hid (block_later Hwide.out hx15)
  clear hx15
  have Hnever := Lib.hid hnever
  clear hnever
  go_wp2_with fail
  generalize w14.alloc (.cells #[.string ⟨#[97]⟩, .int .i64 2, .int .i64 1, .int .i64 1, .string ⟨#[]⟩, .bool false, .slice none 0 0, .string ⟨#[97]⟩, .int .i64 2, .int .i64 1, .int .i64 2, .string ⟨#[]⟩, .bool false, .slice none 0 0] 37) = w15 at *
  generalize w14.heap.size = bnever at *
  have hp1 : PredR w15 (.slice (some ⟨bseven, 0, none⟩) 1 1) sevenP := pred0 sevenP Hseven.out (by kernel_rfl) (by decide)
  have hp2 : PredR w15 (.slice (some ⟨bfive, 0, none⟩) 1 1) fiveP := pred0 fiveP Hfive.out (by kernel_rfl) (by decide)
  have hcv := Lib.hid (counter_lit (n := 1) hp1 hp2 sevenP_ok fiveP_ok ctr1 rfl)
  clear hp1 hp2
  go_wp2_with fail
  refine (hcv.out).mono ?_
  rintro e w16 ⟨afa, cfa, rfl, fa, hx16⟩
  have hw := hw.trans hx16
  have Hfive := Lib.hid (block_later Hfive.out hx16)
  have Hseven := Lib.hid (block_later Hseven.out hx16)
  have Hset := Lib.hid (block_later Hset.out hx16)
  have Hsetp := Lib.hid (block_later Hsetp.out hx16)
  have Hpre := Lib.hid (block_later Hpre.out hx16)
  have Hwide := Lib.hid (block_later Hwide.out hx16)
  have Hnever := Lib.hid (block_later Hnever.out hx16)
  clear hx16
  have FA := Lib.hid fa
  clear fa
  clear hcv
  obtain ⟨hx17, he, hhasb⟩ := boxes2 w16 (.cells #[.string ⟨#[]⟩, .slice afa 1 cfa] 57) (.cells #[.string ⟨#[98]⟩, .int .i64 1, .int .i64 0, .int .i64 0, .string ⟨#[]⟩, .bool false, .slice none 0 0] 37)
  have hw := hw.trans hx17
  have Hfive := Lib.hid (block_later Hfive.out hx17)
  have Hseven := Lib.hid (block_later Hseven.out hx17)
  have Hset := Lib.hid (block_later Hset.out hx17)
  have Hsetp := Lib.hid (block_later Hsetp.out hx17)
  have Hpre := Lib.hid (block_later Hpre.out hx17)
  have Hwide := Lib.hid (block_later Hwide.out hx17)
  have Hnever := Lib.hid (block_later Hnever.out hx17)
  have FA := Lib.hid (FA.out.ext hx17)
  clear hx17
  have He := Lib.hid he
  clear he
  have Hhasb := Lib.hid hhasb
  clear hhasb
  go_wp2_with fail
  generalize (w16.alloc (.cells #[.string ⟨#[]⟩, .slice afa 1 cfa] 57)).alloc (.cells #[.string ⟨#[98]⟩, .int .i64 1, .int .i64 0, .int .i64 0, .string ⟨#[]⟩, .bool false, .slice none 0 0] 37) = w17 at *
  generalize w16.heap.size + 1 = bhasb at *
  generalize w16.heap.size = be at *
  go_wp2_with fail
  refine (con39_any w17 ⟨#[97]⟩ 2 1).mono ?_
  rintro e w18 ⟨rfl, hx18⟩
  have hw := hw.trans hx18
  have Hfive := Lib.hid (block_later Hfive.out hx18)
  have Hseven := Lib.hid (block_later Hseven.out hx18)
  have Hset := Lib.hid (block_later Hset.out hx18)
  have Hsetp := Lib.hid (block_later Hsetp.out hx18)
  have Hpre := Lib.hid (block_later Hpre.out hx18)
  have Hwide := Lib.hid (block_later Hwide.out hx18)
  have Hnever := Lib.hid (block_later Hnever.out hx18)
  have He := Lib.hid (block_later He.out hx18)
  have Hhasb := Lib.hid (block_later Hhasb.out hx18)
  have FA := Lib.hid (FA.out.ext hx18)
  clear hx18
  obtain ⟨hx19, hone⟩ := boxes1 w18 (.cells #[.string ⟨#[97]⟩, .int .i64 2, .int .i64 1, .int .i64 1, .string ⟨#[]⟩, .bool false, .slice none 0 0] 37)
  have hw := hw.trans hx19
  have Hfive := Lib.hid (block_later Hfive.out hx19)
  have Hseven := Lib.hid (block_later Hseven.out hx19)
  have Hset := Lib.hid (block_later Hset.out hx19)
  have Hsetp := Lib.hid (block_later Hsetp.out hx19)
  have Hpre := Lib.hid (block_later Hpre.out hx19)
  have Hwide := Lib.hid (block_later Hwide.out hx19)
  have Hnever := Lib.hid (block_later Hnever.out hx19)
  have He := Lib.hid (block_later He.out hx19)
  have Hhasb := Lib.hid (block_later Hhasb.out hx19)
  have FA := Lib.hid (FA.out.ext hx19)
  clear hx19
  have Hone := Lib.hid hone
  clear hone
  go_wp2_with fail
  generalize w18.alloc (.cells #[.string ⟨#[97]⟩, .int .i64 2, .int .i64 1, .int .i64 1, .string ⟨#[]⟩, .bool false, .slice none 0 0] 37) = w19 at *
  generalize w18.heap.size = bone at *
  have hp1 : PredR w19 (.slice (some ⟨bhasb, 0, none⟩) 1 1) hasbP := pred0 hasbP Hhasb.out (by kernel_rfl) (by decide)
  have hp2 : PredR w19 (.slice (some ⟨bone, 0, none⟩) 1 1) oneP := pred0 oneP Hone.out (by kernel_rfl) (by decide)
  have hcv := Lib.hid (counter_lit (n := 1) hp1 hp2 hasbP_ok oneP_ok ctr2 rfl)
  clear hp1 hp2
  go_wp2_with fail
  refine (hcv.out).mono ?_
  rintro e w20 ⟨afb, cfb, rfl, fb, hx20⟩
  have hw := hw.trans hx20
  have Hfive := Lib.hid (block_later Hfive.out hx20)
  have Hseven := Lib.hid (block_later Hseven.out hx20)
  have Hset := Lib.hid (block_later Hset.out hx20)
  have Hsetp := Lib.hid (block_later Hsetp.out hx20)
  have Hpre := Lib.hid (block_later Hpre.out hx20)
  have Hwide := Lib.hid (block_later Hwide.out hx20)
  have Hnever := Lib.hid (block_later Hnever.out hx20)
  have He := Lib.hid (block_later He.out hx20)
  have Hhasb := Lib.hid (block_later Hhasb.out hx20)
  have Hone := Lib.hid (block_later Hone.out hx20)
  have FA := Lib.hid (FA.out.ext hx20)
  clear hx20
  have FB := Lib.hid fb
  clear fb
  clear hcv
  obtain ⟨hx21, hf⟩ := boxes1 w20 (.cells #[.string ⟨#[]⟩, .slice afb 1 cfb] 57)
  have hw := hw.trans hx21
  have Hfive := Lib.hid (block_later Hfive.out hx21)
  have Hseven := Lib.hid (block_later Hseven.out hx21)
  have Hset := Lib.hid (block_later Hset.out hx21)
  have Hsetp := Lib.hid (block_later Hsetp.out hx21)
  have Hpre := Lib.hid (block_later Hpre.out hx21)
  have Hwide := Lib.hid (block_later Hwide.out hx21)
  have Hnever := Lib.hid (block_later Hnever.out hx21)
  have He := Lib.hid (block_later He.out hx21)
  have Hhasb := Lib.hid (block_later Hhasb.out hx21)
  have Hone := Lib.hid (block_later Hone.out hx21)
  have FA := Lib.hid (FA.out.ext hx21)
  have FB := Lib.hid (FB.out.ext hx21)
  clear hx21
  have Hf := Lib.hid hf
  clear hf
  go_wp2_with fail
  generalize w20.alloc (.cells #[.string ⟨#[]⟩, .slice afb 1 cfb] 57) = w21 at *
  generalize w20.heap.size = bf at *
  go_wp2_with fail
  refine (str41_any w21 ⟨#[97]⟩ 6 ⟨#[120]⟩).mono ?_
  rintro e w22 ⟨rfl, hx22⟩
  have hw := hw.trans hx22
  have Hfive := Lib.hid (block_later Hfive.out hx22)
  have Hseven := Lib.hid (block_later Hseven.out hx22)
  have Hset := Lib.hid (block_later Hset.out hx22)
  have Hsetp := Lib.hid (block_later Hsetp.out hx22)
  have Hpre := Lib.hid (block_later Hpre.out hx22)
  have Hwide := Lib.hid (block_later Hwide.out hx22)
  have Hnever := Lib.hid (block_later Hnever.out hx22)
  have He := Lib.hid (block_later He.out hx22)
  have Hhasb := Lib.hid (block_later Hhasb.out hx22)
  have Hone := Lib.hid (block_later Hone.out hx22)
  have Hf := Lib.hid (block_later Hf.out hx22)
  have FA := Lib.hid (FA.out.ext hx22)
  have FB := Lib.hid (FB.out.ext hx22)
  clear hx22
  have hof := Lib.hid (Of_lit (c := gxC) (SetR.nil w22) gxC_ok rfl gxC_may)
  go_wp2_with fail
  refine (hof.out).mono ?_
  rintro e w23 ⟨g1, g2, g3, g4, g5, g6, rfl, hr, hx23⟩
  have hw := hw.trans hx23
  have Hfive := Lib.hid (block_later Hfive.out hx23)
  have Hseven := Lib.hid (block_later Hseven.out hx23)
  have Hset := Lib.hid (block_later Hset.out hx23)
  have Hsetp := Lib.hid (block_later Hsetp.out hx23)
  have Hpre := Lib.hid (block_later Hpre.out hx23)
  have Hwide := Lib.hid (block_later Hwide.out hx23)
  have Hnever := Lib.hid (block_later Hnever.out hx23)
  have He := Lib.hid (block_later He.out hx23)
  have Hhasb := Lib.hid (block_later Hhasb.out hx23)
  have Hone := Lib.hid (block_later Hone.out hx23)
  have Hf := Lib.hid (block_later Hf.out hx23)
  have FA := Lib.hid (FA.out.ext hx23)
  have FB := Lib.hid (FB.out.ext hx23)
  clear hx23
  have HR := Lib.hid hr
  clear hr
  clear hof
  obtain ⟨hx24, hr⟩ := boxes1 w23 (.cells #[.slice g1 (ofR gxC).i.length g2, .slice g3 (ofR gxC).s.length g4, .slice g5 (ofR gxC).b.length g6, .bool (ofR gxC).odd] 69)
  have hw := hw.trans hx24
  have Hfive := Lib.hid (block_later Hfive.out hx24)
  have Hseven := Lib.hid (block_later Hseven.out hx24)
  have Hset := Lib.hid (block_later Hset.out hx24)
  have Hsetp := Lib.hid (block_later Hsetp.out hx24)
  have Hpre := Lib.hid (block_later Hpre.out hx24)
  have Hwide := Lib.hid (block_later Hwide.out hx24)
  have Hnever := Lib.hid (block_later Hnever.out hx24)
  have He := Lib.hid (block_later He.out hx24)
  have Hhasb := Lib.hid (block_later Hhasb.out hx24)
  have Hone := Lib.hid (block_later Hone.out hx24)
  have Hf := Lib.hid (block_later Hf.out hx24)
  have FA := Lib.hid (FA.out.ext hx24)
  have FB := Lib.hid (FB.out.ext hx24)
  have HR := Lib.hid (HR.out.ext hx24)
  clear hx24
  have Hr := Lib.hid hr
  clear hr
  have mr_0 := cell_of_row _ _ 0 _ _ _ Hr.out
  have mr_1 := cell_of_row _ _ 1 _ _ _ Hr.out
  have mr_2 := cell_of_row _ _ 2 _ _ _ Hr.out
  have mr_3 := cell_of_row _ _ 3 _ _ _ Hr.out
  go_wp2_with fail
  generalize w23.alloc (.cells #[.slice g1 (ofR gxC).i.length g2, .slice g3 (ofR gxC).s.length g4, .slice g5 (ofR gxC).b.length g6, .bool (ofR gxC).odd] 69) = w24 at *
  generalize w23.heap.size = br at *
  clear mr_0 mr_1 mr_2 mr_3
  have hsm := Lib.hid (some_lit HR.out (good_of gxC) some1)
  go_wp2_with fail
  refine (hsm.out).mono ?_
  rintro e w25 ⟨rfl, hx25⟩
  have hw := hw.trans hx25
  have Hfive := Lib.hid (block_later Hfive.out hx25)
  have Hseven := Lib.hid (block_later Hseven.out hx25)
  have Hset := Lib.hid (block_later Hset.out hx25)
  have Hsetp := Lib.hid (block_later Hsetp.out hx25)
  have Hpre := Lib.hid (block_later Hpre.out hx25)
  have Hwide := Lib.hid (block_later Hwide.out hx25)
  have Hnever := Lib.hid (block_later Hnever.out hx25)
  have He := Lib.hid (block_later He.out hx25)
  have Hhasb := Lib.hid (block_later Hhasb.out hx25)
  have Hone := Lib.hid (block_later Hone.out hx25)
  have Hf := Lib.hid (block_later Hf.out hx25)
  have Hr := Lib.hid (block_later Hr.out hx25)
  have FA := Lib.hid (FA.out.ext hx25)
  have FB := Lib.hid (FB.out.ext hx25)
  have HR := Lib.hid (HR.out.ext hx25)
  clear hx25
  clear hsm
  clear HR
  clear Hr
  obtain ⟨hx26, hv⟩ := boxes1 w25 (.cells #[.int .i64 2, .int .i64 0, .string (strOf [120, 0]), .bool false] 34)
  have hw := hw.trans hx26
  have Hfive := Lib.hid (block_later Hfive.out hx26)
  have Hseven := Lib.hid (block_later Hseven.out hx26)
  have Hset := Lib.hid (block_later Hset.out hx26)
  have Hsetp := Lib.hid (block_later Hsetp.out hx26)
  have Hpre := Lib.hid (block_later Hpre.out hx26)
  have Hwide := Lib.hid (block_later Hwide.out hx26)
  have Hnever := Lib.hid (block_later Hnever.out hx26)
  have He := Lib.hid (block_later He.out hx26)
  have Hhasb := Lib.hid (block_later Hhasb.out hx26)
  have Hone := Lib.hid (block_later Hone.out hx26)
  have Hf := Lib.hid (block_later Hf.out hx26)
  have FA := Lib.hid (FA.out.ext hx26)
  have FB := Lib.hid (FB.out.ext hx26)
  clear hx26
  have Hv := Lib.hid hv
  clear hv
  go_wp2_with fail
  generalize w25.alloc (.cells #[.int .i64 2, .int .i64 0, .string (strOf [120, 0]), .bool false] 34) = w26 at *
  generalize w25.heap.size = bv at *
  have hp1 : PredR w26 (.slice (some ⟨bfive, 0, none⟩) 1 1) fiveP := pred0 fiveP Hfive.out (by kernel_rfl) (by decide)
  have hp2 : PredR w26 (.slice (some ⟨bseven, 0, none⟩) 1 1) sevenP := pred0 sevenP Hseven.out (by kernel_rfl) (by decide)
  have hcv := Lib.hid (covers_lit hp1 hp2 fiveP_ok sevenP_ok cv_fiveP_sevenP)
  clear hp1 hp2
  go_wp2_with fail
  refine (hcv.out).mono ?_
  rintro e w27 ⟨rfl, hx27⟩
  have hw := hw.trans hx27
  have Hfive := Lib.hid (block_later Hfive.out hx27)
  have Hseven := Lib.hid (block_later Hseven.out hx27)
  have Hset := Lib.hid (block_later Hset.out hx27)
  have Hsetp := Lib.hid (block_later Hsetp.out hx27)
  have Hpre := Lib.hid (block_later Hpre.out hx27)
  have Hwide := Lib.hid (block_later Hwide.out hx27)
  have Hnever := Lib.hid (block_later Hnever.out hx27)
  have He := Lib.hid (block_later He.out hx27)
  have Hhasb := Lib.hid (block_later Hhasb.out hx27)
  have Hone := Lib.hid (block_later Hone.out hx27)
  have Hf := Lib.hid (block_later Hf.out hx27)
  have Hv := Lib.hid (block_later Hv.out hx27)
  have FA := Lib.hid (FA.out.ext hx27)
  have FB := Lib.hid (FB.out.ext hx27)
  clear hx27
  clear hcv
  have hp1 : PredR w27 (.slice (some ⟨bseven, 0, none⟩) 1 1) sevenP := pred0 sevenP Hseven.out (by kernel_rfl) (by decide)
  have hp2 : PredR w27 (.slice (some ⟨bfive, 0, none⟩) 1 1) fiveP := pred0 fiveP Hfive.out (by kernel_rfl) (by decide)
  have hcv := Lib.hid (covers_lit hp1 hp2 sevenP_ok fiveP_ok cv_sevenP_fiveP)
  clear hp1 hp2
  go_wp2_with fail
  refine (hcv.out).mono ?_
  rintro e w28 ⟨rfl, hx28⟩
  have hw := hw.trans hx28
  have Hfive := Lib.hid (block_later Hfive.out hx28)
  have Hseven := Lib.hid (block_later Hseven.out hx28)
  have Hset := Lib.hid (block_later Hset.out hx28)
  have Hsetp := Lib.hid (block_later Hsetp.out hx28)
  have Hpre := Lib.hid (block_later Hpre.out hx28)
  have Hwide := Lib.hid (block_later Hwide.out hx28)
  have Hnever := Lib.hid (block_later Hnever.out hx28)
  have He := Lib.hid (block_later He.out hx28)
  have Hhasb := Lib.hid (block_later Hhasb.out hx28)
  have Hone := Lib.hid (block_later Hone.out hx28)
  have Hf := Lib.hid (block_later Hf.out hx28)
  have Hv := Lib.hid (block_later Hv.out hx28)
  have FA := Lib.hid (FA.out.ext hx28)
  have FB := Lib.hid (FB.out.ext hx28)
  clear hx28
  clear hcv
  have hp1 : PredR w28 (.slice (some ⟨bfive, 0, none⟩) 1 1) fiveP := pred0 fiveP Hfive.out (by kernel_rfl) (by decide)
  have hp2 : PredR w28 (.slice (some ⟨bsetp, 0, none⟩) 1 1) setP := pred_at [⟨⟨[97], 9, ⟨0, 0, [], false⟩, [⟨1, 6, [], false⟩, ⟨1, 8, [], false⟩]⟩, .slice (some ⟨bset, 0, none⟩) 2 2⟩] Hsetp.out (by show (1 : Nat) ≤ maxLen; decide) (List.forall_mem_cons.2 ⟨set_at [⟨1, 6, [], false⟩, ⟨1, 8, [], false⟩] Hset.out (by decide), fun _ h => (by cases h)⟩)
  have hcv := Lib.hid (covers_lit hp1 hp2 fiveP_ok setP_ok cv_fiveP_setP)
  clear hp1 hp2
  go_wp2_with fail
  refine (hcv.out).mono ?_
  rintro e w29 ⟨rfl, hx29⟩
  have hw := hw.trans hx29
  have Hfive := Lib.hid (block_later Hfive.out hx29)
  have Hseven := Lib.hid (block_later Hseven.out hx29)
  have Hset := Lib.hid (block_later Hset.out hx29)
  have Hsetp := Lib.hid (block_later Hsetp.out hx29)
  have Hpre := Lib.hid (block_later Hpre.out hx29)
  have Hwide := Lib.hid (block_later Hwide.out hx29)
  have Hnever := Lib.hid (block_later Hnever.out hx29)
  have He := Lib.hid (block_later He.out hx29)
  have Hhasb := Lib.hid (block_later Hhasb.out hx29)
  have Hone := Lib.hid (block_later Hone.out hx29)
  have Hf := Lib.hid (block_later Hf.out hx29)
  have Hv := Lib.hid (block_later Hv.out hx29)
  have FA := Lib.hid (FA.out.ext hx29)
  have FB := Lib.hid (FB.out.ext hx29)
  clear hx29
  clear hcv
  obtain ⟨hx30, hhasa⟩ := boxes1 w29 (.cells #[.string ⟨#[97]⟩, .int .i64 1, .int .i64 0, .int .i64 0, .string ⟨#[]⟩, .bool false, .slice none 0 0] 37)
  have hw := hw.trans hx30
  have Hfive := Lib.hid (block_later Hfive.out hx30)
  have Hseven := Lib.hid (block_later Hseven.out hx30)
  have Hset := Lib.hid (block_later Hset.out hx30)
  have Hsetp := Lib.hid (block_later Hsetp.out hx30)
  have Hpre := Lib.hid (block_later Hpre.out hx30)
  have Hwide := Lib.hid (block_later Hwide.out hx30)
  have Hnever := Lib.hid (block_later Hnever.out hx30)
  have He := Lib.hid (block_later He.out hx30)
  have Hhasb := Lib.hid (block_later Hhasb.out hx30)
  have Hone := Lib.hid (block_later Hone.out hx30)
  have Hf := Lib.hid (block_later Hf.out hx30)
  have Hv := Lib.hid (block_later Hv.out hx30)
  have FA := Lib.hid (FA.out.ext hx30)
  have FB := Lib.hid (FB.out.ext hx30)
  clear hx30
  have Hhasa := Lib.hid hhasa
  clear hhasa
  go_wp2_with fail
  generalize w29.alloc (.cells #[.string ⟨#[97]⟩, .int .i64 1, .int .i64 0, .int .i64 0, .string ⟨#[]⟩, .bool false, .slice none 0 0] 37) = w30 at *
  generalize w29.heap.size = bhasa at *
  go_wp2_with fail
  refine (con39_any w30 ⟨#[98]⟩ 2 1).mono ?_
  rintro e w31 ⟨rfl, hx31⟩
  have hw := hw.trans hx31
  have Hfive := Lib.hid (block_later Hfive.out hx31)
  have Hseven := Lib.hid (block_later Hseven.out hx31)
  have Hset := Lib.hid (block_later Hset.out hx31)
  have Hsetp := Lib.hid (block_later Hsetp.out hx31)
  have Hpre := Lib.hid (block_later Hpre.out hx31)
  have Hwide := Lib.hid (block_later Hwide.out hx31)
  have Hnever := Lib.hid (block_later Hnever.out hx31)
  have He := Lib.hid (block_later He.out hx31)
  have Hhasb := Lib.hid (block_later Hhasb.out hx31)
  have Hone := Lib.hid (block_later Hone.out hx31)
  have Hf := Lib.hid (block_later Hf.out hx31)
  have Hv := Lib.hid (block_later Hv.out hx31)
  have Hhasa := Lib.hid (block_later Hhasa.out hx31)
  have FA := Lib.hid (FA.out.ext hx31)
  have FB := Lib.hid (FB.out.ext hx31)
  clear hx31
  obtain ⟨hx32, hbone⟩ := boxes1 w31 (.cells #[.string ⟨#[98]⟩, .int .i64 2, .int .i64 1, .int .i64 1, .string ⟨#[]⟩, .bool false, .slice none 0 0] 37)
  have hw := hw.trans hx32
  have Hfive := Lib.hid (block_later Hfive.out hx32)
  have Hseven := Lib.hid (block_later Hseven.out hx32)
  have Hset := Lib.hid (block_later Hset.out hx32)
  have Hsetp := Lib.hid (block_later Hsetp.out hx32)
  have Hpre := Lib.hid (block_later Hpre.out hx32)
  have Hwide := Lib.hid (block_later Hwide.out hx32)
  have Hnever := Lib.hid (block_later Hnever.out hx32)
  have He := Lib.hid (block_later He.out hx32)
  have Hhasb := Lib.hid (block_later Hhasb.out hx32)
  have Hone := Lib.hid (block_later Hone.out hx32)
  have Hf := Lib.hid (block_later Hf.out hx32)
  have Hv := Lib.hid (block_later Hv.out hx32)
  have Hhasa := Lib.hid (block_later Hhasa.out hx32)
  have FA := Lib.hid (FA.out.ext hx32)
  have FB := Lib.hid (FB.out.ext hx32)
  clear hx32
  have Hbone := Lib.hid hbone
  clear hbone
  go_wp2_with fail
  generalize w31.alloc (.cells #[.string ⟨#[98]⟩, .int .i64 2, .int .i64 1, .int .i64 1, .string ⟨#[]⟩, .bool false, .slice none 0 0] 37) = w32 at *
  generalize w31.heap.size = bbone at *
  have hp1 : PredR w32 (.slice (some ⟨bhasa, 0, none⟩) 1 1) hasaP := pred0 hasaP Hhasa.out (by kernel_rfl) (by decide)
  have hp2 : PredR w32 (.slice (some ⟨bbone, 0, none⟩) 1 1) bOneP := pred0 bOneP Hbone.out (by kernel_rfl) (by decide)
  have hcv := Lib.hid (covers_lit hp1 hp2 hasaP_ok bOneP_ok cv_hasaP_bOneP)
  clear hp1 hp2
  go_wp2_with fail
  refine (hcv.out).mono ?_
  rintro e w33 ⟨rfl, hx33⟩
  have hw := hw.trans hx33
  have Hfive := Lib.hid (block_later Hfive.out hx33)
  have Hseven := Lib.hid (block_later Hseven.out hx33)
  have Hset := Lib.hid (block_later Hset.out hx33)
  have Hsetp := Lib.hid (block_later Hsetp.out hx33)
  have Hpre := Lib.hid (block_later Hpre.out hx33)
  have Hwide := Lib.hid (block_later Hwide.out hx33)
  have Hnever := Lib.hid (block_later Hnever.out hx33)
  have He := Lib.hid (block_later He.out hx33)
  have Hhasb := Lib.hid (block_later Hhasb.out hx33)
  have Hone := Lib.hid (block_later Hone.out hx33)
  have Hf := Lib.hid (block_later Hf.out hx33)
  have Hv := Lib.hid (block_later Hv.out hx33)
  have Hhasa := Lib.hid (block_later Hhasa.out hx33)
  have Hbone := Lib.hid (block_later Hbone.out hx33)
  have FA := Lib.hid (FA.out.ext hx33)
  have FB := Lib.hid (FB.out.ext hx33)
  clear hx33
  clear hcv
  have hp1 : PredR w33 (.slice (some ⟨bpre, 0, none⟩) 1 1) preP := pred0 preP Hpre.out (by kernel_rfl) (by decide)
  have hp2 : PredR w33 (.slice (some ⟨bwide, 0, none⟩) 2 2) wideP := pred0 wideP Hwide.out (by kernel_rfl) (by decide)
  have hcv := Lib.hid (covers_lit hp1 hp2 preP_ok wideP_ok cv_preP_wideP)
  clear hp1 hp2
  go_wp2_with fail
  refine (hcv.out).mono ?_
  rintro e w34 ⟨rfl, hx34⟩
  have hw := hw.trans hx34
  have Hfive := Lib.hid (block_later Hfive.out hx34)
  have Hseven := Lib.hid (block_later Hseven.out hx34)
  have Hset := Lib.hid (block_later Hset.out hx34)
  have Hsetp := Lib.hid (block_later Hsetp.out hx34)
  have Hpre := Lib.hid (block_later Hpre.out hx34)
  have Hwide := Lib.hid (block_later Hwide.out hx34)
  have Hnever := Lib.hid (block_later Hnever.out hx34)
  have He := Lib.hid (block_later He.out hx34)
  have Hhasb := Lib.hid (block_later Hhasb.out hx34)
  have Hone := Lib.hid (block_later Hone.out hx34)
  have Hf := Lib.hid (block_later Hf.out hx34)
  have Hv := Lib.hid (block_later Hv.out hx34)
  have Hhasa := Lib.hid (block_later Hhasa.out hx34)
  have Hbone := Lib.hid (block_later Hbone.out hx34)
  have FA := Lib.hid (FA.out.ext hx34)
  have FB := Lib.hid (FB.out.ext hx34)
  clear hx34
  clear hcv
  have hp1 : PredR w34 (.slice (some ⟨bwide, 0, none⟩) 2 2) wideP := pred0 wideP Hwide.out (by kernel_rfl) (by decide)
  have hp2 : PredR w34 (.slice (some ⟨bpre, 0, none⟩) 1 1) preP := pred0 preP Hpre.out (by kernel_rfl) (by decide)
  have hcv := Lib.hid (covers_lit hp1 hp2 wideP_ok preP_ok cv_wideP_preP)
  clear hp1 hp2
  go_wp2_with fail
  refine (hcv.out).mono ?_
  rintro e w35 ⟨rfl, hx35⟩
  have hw := hw.trans hx35
  have Hfive := Lib.hid (block_later Hfive.out hx35)
  have Hseven := Lib.hid (block_later Hseven.out hx35)
  have Hset := Lib.hid (block_later Hset.out hx35)
  have Hsetp := Lib.hid (block_later Hsetp.out hx35)
  have Hpre := Lib.hid (block_later Hpre.out hx35)
  have Hwide := Lib.hid (block_later Hwide.out hx35)
  have Hnever := Lib.hid (block_later Hnever.out hx35)
  have He := Lib.hid (block_later He.out hx35)
  have Hhasb := Lib.hid (block_later Hhasb.out hx35)
  have Hone := Lib.hid (block_later Hone.out hx35)
  have Hf := Lib.hid (block_later Hf.out hx35)
  have Hv := Lib.hid (block_later Hv.out hx35)
  have Hhasa := Lib.hid (block_later Hhasa.out hx35)
  have Hbone := Lib.hid (block_later Hbone.out hx35)
  have FA := Lib.hid (FA.out.ext hx35)
  have FB := Lib.hid (FB.out.ext hx35)
  clear hx35
  clear hcv
  have hp1 : PredR w35 (.slice (some ⟨bseven, 0, none⟩) 1 1) sevenP := pred0 sevenP Hseven.out (by kernel_rfl) (by decide)
  have hp2 : PredR w35 (.slice (some ⟨bnever, 0, none⟩) 2 2) neverP := pred0 neverP Hnever.out (by kernel_rfl) (by decide)
  have hcv := Lib.hid (covers_lit hp1 hp2 sevenP_ok neverP_ok cv_sevenP_neverP)
  clear hp1 hp2
  go_wp2_with fail
  refine (hcv.out).mono ?_
  rintro e w36 ⟨rfl, hx36⟩
  have hw := hw.trans hx36
  have Hfive := Lib.hid (block_later Hfive.out hx36)
  have Hseven := Lib.hid (block_later Hseven.out hx36)
  have Hset := Lib.hid (block_later Hset.out hx36)
  have Hsetp := Lib.hid (block_later Hsetp.out hx36)
  have Hpre := Lib.hid (block_later Hpre.out hx36)
  have Hwide := Lib.hid (block_later Hwide.out hx36)
  have Hnever := Lib.hid (block_later Hnever.out hx36)
  have He := Lib.hid (block_later He.out hx36)
  have Hhasb := Lib.hid (block_later Hhasb.out hx36)
  have Hone := Lib.hid (block_later Hone.out hx36)
  have Hf := Lib.hid (block_later Hf.out hx36)
  have Hv := Lib.hid (block_later Hv.out hx36)
  have Hhasa := Lib.hid (block_later Hhasa.out hx36)
  have Hbone := Lib.hid (block_later Hbone.out hx36)
  have FA := Lib.hid (FA.out.ext hx36)
  have FB := Lib.hid (FB.out.ext hx36)
  clear hx36
  clear hcv
  have hp1 : PredR w36 (.slice none 0 0) nilP := PredR.nil _
  have hp2 : PredR w36 (.slice (some ⟨bfive, 0, none⟩) 1 1) fiveP := pred0 fiveP Hfive.out (by kernel_rfl) (by decide)
  have hcv := Lib.hid (covers_lit hp1 hp2 nilP_ok fiveP_ok cv_nilP_fiveP)
  clear hp1 hp2
  go_wp2_with fail
  refine (hcv.out).mono ?_
  rintro e w37 ⟨rfl, hx37⟩
  have hw := hw.trans hx37
  have Hfive := Lib.hid (block_later Hfive.out hx37)
  have Hseven := Lib.hid (block_later Hseven.out hx37)
  have Hset := Lib.hid (block_later Hset.out hx37)
  have Hsetp := Lib.hid (block_later Hsetp.out hx37)
  have Hpre := Lib.hid (block_later Hpre.out hx37)
  have Hwide := Lib.hid (block_later Hwide.out hx37)
  have Hnever := Lib.hid (block_later Hnever.out hx37)
  have He := Lib.hid (block_later He.out hx37)
  have Hhasb := Lib.hid (block_later Hhasb.out hx37)
  have Hone := Lib.hid (block_later Hone.out hx37)
  have Hf := Lib.hid (block_later Hf.out hx37)
  have Hv := Lib.hid (block_later Hv.out hx37)
  have Hhasa := Lib.hid (block_later Hhasa.out hx37)
  have Hbone := Lib.hid (block_later Hbone.out hx37)
  have FA := Lib.hid (FA.out.ext hx37)
  have FB := Lib.hid (FB.out.ext hx37)
  clear hx37
  clear hcv
  obtain ⟨B1, o1, rfl, p0, p1, p2, p3, p4⟩ := AttrR.at FA.out (k := 0) (by decide)
  obtain ⟨B2, o2, rfl, q0, q1, q2, q3, q4⟩ := AttrR.at FB.out (k := 0) (by decide)
  simp only [Nat.zero_mul, Nat.add_zero, List.getElem_cons_zero] at p0 p1 p2 p3 p4 q0 q1 q2 q3 q4
  have me_1 := cell_of_row _ _ 1 _ _ _ He.out
  have mf_1 := cell_of_row _ _ 1 _ _ _ Hf.out
  have mv_2 := cell_of_row _ _ 2 _ _ _ Hv.out
  go_wp2_with fail
  go_ret
  exact ⟨rfl, hw⟩
end Go.Proofs.YtcgflkfbjnpdiaaGreat
