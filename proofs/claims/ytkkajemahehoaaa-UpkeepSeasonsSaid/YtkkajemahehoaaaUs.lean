/- UpkeepSeasons returns true. -/
import Derived.Test.YtkkajemahehoaaaR3
namespace Go.Proofs.Ytkkajemahehoaaa
open Go.RowKit

set_option maxRecDepth 100000 in
set_option maxHeartbeats 2000000 in
theorem UpkeepSeasons_any (r : Rec) (wd lvl : Int) (al : Int × Int) (A : Option Addr) (n c : Nat) (w : World) (hr : RdH w A n r.highs) :
    Calls Try.prog 7 #[.agg #[.int .i64 r.first, .int .i64 r.years, .slice A n c], .agg #[.int .i64 wd, .int .i64 lvl], .agg #[.int .i64 al.1, .int .i64 al.2]] w fun e w' => e = .returned (.bool true) ∧ Below w.heap.size w w' := by
  obtain ⟨b1, b2, b3, b4⟩ := three w #[.int .i64 r.first, .int .i64 r.years, .slice A n c] #[.int .i64 wd, .int .i64 lvl] #[.int .i64 al.1, .int .i64 al.2] 24 51 27
  have H1 := Lib.hid (Season_any r wd lvl al A n c _ (hr.below b1))
  have H2 := Lib.hid (fun (W : World) (h : Below w.heap.size w W) => refSeason_any r wd lvl al A n c W (hr.below h))
  have hlen : (seasonTop r wd lvl al).1.length ≤ 365 := by
    unfold seasonTop
    split
    · simp
    · split
      · simp
      · exact pickL_len _ _
  have HB1 := Lib.hid b1; have K1 := Lib.hid b2; have K2 := Lib.hid b3; have K3 := Lib.hid b4
  clear b1 b2 b3 b4 hr
  generalize seasonTop r wd lvl al = X at *
  obtain ⟨L, x⟩ := X
  go_enter Try.func7, Try.ntmps7
  go_wp2_with fail
  refine H1.out.mono ?_
  rintro e W2 ⟨v, rfl, hown, hb2⟩
  have HB2 : Hid (Below w.heap.size w W2) := HB1.out.trans (hb2.mono HB1.out.size)
  obtain ⟨Al, cl, rfl, hl, _, _⟩ := rdI_of_own hown rfl
  have L1 := K1.out.later hb2
  have L2 := K2.out.later hb2
  have L3 := K3.out.later hb2
  have j0 := L1.cell (i := 0) rfl
  have j1 := L1.cell (i := 1) rfl
  have j2 := L1.cell (i := 2) rfl
  have j3 := L2.cell (i := 0) rfl
  have j4 := L2.cell (i := 1) rfl
  have j5 := L3.cell (i := 0) rfl
  have j6 := L3.cell (i := 1) rfl
  have hsz := L3.lt
  have HL := Lib.hid hl
  clear L1 L2 L3 hown hb2 hl
  go_wp2_with fail
  refine (H2.out _ HB2.out).mono ?_
  rintro e W3 ⟨v, rfl, hown, hb3⟩
  have HB3 : Hid (Below w.heap.size w W3) := HB2.out.trans (hb3.mono HB2.out.size)
  obtain ⟨Am, cm, rfl, hm, _, _⟩ := rdI_of_own hown rfl
  have HL3 := Lib.hid (HL.out.below hb3)
  have HM := Lib.hid hm
  clear hown hb3 hm j0 j1 j2 j3 j4 j5 j6 hsz
  go_wp2_with fail
  refine (ints_any L L Al L.length cl Am L.length cm _ HL3.out HM.out (by omega)).mono ?_
  rintro e W4 ⟨rfl, hb4⟩
  have HB4 : Hid (Below w.heap.size w W4) := HB3.out.trans (hb4.mono HB3.out.size)
  clear hb4
  have hd : decide (L = L) = true := by simp
  rw [hd]
  have hx : (x == x) = true := by simp
  go_wp2_with fail
  refine (Awake_any _).mono ?_
  rintro e W5 ⟨rfl, hb5⟩
  have HB5 := Lib.hid (HB4.out.trans (hb5.mono HB4.out.size))
  clear hb5
  go_wp2_with fail
  go_ret
  exact ⟨rfl, HB5.out⟩
end Go.Proofs.Ytkkajemahehoaaa
