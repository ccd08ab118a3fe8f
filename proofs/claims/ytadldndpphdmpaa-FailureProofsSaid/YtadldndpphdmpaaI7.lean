/- The document's Proves: a walk. -/
import Derived.Test.YtadldndpphdmpaaI6
namespace Go.Proofs.Ytadldndpphdmpaa
open Go.RowKit Go.Shelf

theorem proves_eq (t : List Nd) (node : Int) (l g : List Int) : provesT t node l g =
    if askT t node ≠ 0 then (false, askT t node) else if setT t l ≠ 0 then (false, setT t l) else if setT t g ≠ 0 then (false, setT t g) else (decide ((lstGo t l 0).2 &&& (lstGo t g 0).2 = 0) && soundB t node.toNat (lstGo t g 0).2, 0) := by
  unfold provesT
  rw [ask_about2]
  by_cases h1 : askT t node ≠ 0
  · rw [if_pos h1, if_pos h1, if_pos h1]
  · rw [if_neg h1, if_neg h1]
    by_cases h2 : setT t l ≠ 0
    · rw [if_pos h2, if_pos h2, if_pos h2]
    · rw [if_neg h2, if_neg h2]

set_option maxRecDepth 100000 in
set_option maxHeartbeats 4000000 in
theorem rProves_any (t : List Nd) (node : Int) (l g : List Int) (A : Option Addr) (n c : Nat) (ms : List NdM) (L : Option Addr) (cl : Nat) (G : Option Addr) (cg : Nat) (w : World) (hT : TrM w t A n ms) (hL : RdI w L l.length l) (hl : l.length ≤ 1000000000000000) (hcl : l.length ≤ cl) (hG : RdI w G g.length g) (hg : g.length ≤ 1000000000000000) (hcg : g.length ≤ cg) :
    Calls Try.prog 33 #[.agg #[.slice A n c], .int .i64 node, .slice L l.length cl, .slice G g.length cg] w fun e w' => e = .returned (.tuple #[.bool (provesT t node l g).1, .int .i64 (provesT t node l g).2]) ∧ Below w.heap.size w w' := by
  have HX := Lib.hid (proves_eq t node l g)
  generalize provesT t node l g = X at *
  obtain ⟨W1, hW1⟩ : ∃ W1, w.alloc (.cells #[.slice A n c] 24) = W1 := ⟨_, rfl⟩
  have HB1 : Hid (Below w.heap.size w W1) := by rw [← hW1]; exact (Below.refl _ w).alloc (Nat.le_refl _) _
  have K1 : Hid (Blk W1 w.heap.size 24 #[.slice A n c]) := by rw [← hW1]; exact Blk.new w _ _ rfl
  have HT := Lib.hid hT; have HL := Lib.hid hL; have HG := Lib.hid hG
  have HAs := Lib.hid (rasked_any t node A n c ms W1 (hT.below HB1.out))
  have HOk := Lib.hid (ask_ok (t := t) (n := node))
  have HW1 := Lib.hid hW1
  have HLn := Lib.hid hT.len
  clear hW1 hT hL hG
  generalize ha : askT t node = a at *
  clear ha
  go_enter Try.func33, Try.ntmps33
  go_wp2_with fail
  rw [HW1.out]
  refine HAs.out.mono ?_
  rintro e W2 ⟨rfl, hb2⟩
  have HB2 : Hid (Below w.heap.size w W2) := HB1.out.trans (hb2.mono HB1.out.size)
  have HK2 := Lib.hid (K1.out.later hb2)
  clear hb2 HAs HW1 K1
  by_cases h1 : a = 0
  · have HX2 : Hid ((if setT t l ≠ 0 then (false, setT t l) else if setT t g ≠ 0 then (false, setT t g) else (decide ((lstGo t l 0).2 &&& (lstGo t g 0).2 = 0) && soundB t node.toNat (lstGo t g 0).2, 0)) = X) := by have := HX.out; rw [if_neg (fun c => c h1)] at this; exact this.symm
    obtain ⟨hok, n0, n1⟩ := HOk.out h1
    have HOK := Lib.hid hok
    subst h1
    obtain ⟨nn, rfl⟩ : ∃ nn : Nat, node = (nn : Int) := ⟨node.toNat, by omega⟩
    have hnn : nn < n := by have := HLn.out; omega
    have hS := rset_any t l A n c ms L cl W2 (HT.out.below HB2.out) hok (HL.out.below HB2.out) hl hcl
    have HS := Lib.hid hS
    have q0 := HK2.out.cell (i := 0) rfl
    have qz := HK2.out.lt
    clear hok hS HX HOk
    simp only [Int.toNat_natCast] at HX2
    generalize hs1 : setT t l = s1 at *
    have HS1 := Lib.hid hs1
    clear hs1
    go_wp2_with fail
    refine HS.out.mono ?_
    rintro e W3 ⟨rfl, hb3⟩
    have HB3 : Hid (Below w.heap.size w W3) := HB2.out.trans (hb3.mono HB2.out.size)
    have HK3 := Lib.hid (HK2.out.later hb3)
    clear hb3 HS q0 qz
    by_cases h2 : s1 = 0
    · have HX3 : Hid ((if setT t g ≠ 0 then (false, setT t g) else (decide ((lstGo t l 0).2 &&& (lstGo t g 0).2 = 0) && soundB t nn (lstGo t g 0).2, 0)) = X) := by have := HX2.out; rw [if_neg (fun c => c h2)] at this; exact this
      subst h2
      have hS := rset_any t g A n c ms G cg W3 (HT.out.below HB3.out) HOK.out (HG.out.below HB3.out) hg hcg
      have HS := Lib.hid hS
      have q0 := HK3.out.cell (i := 0) rfl
      have qz := HK3.out.lt
      clear hS HX2
      generalize hs2 : setT t g = s2 at *
      have HS2 := Lib.hid hs2
      clear hs2
      go_wp2_with fail
      refine HS.out.mono ?_
      rintro e W4 ⟨rfl, hb4⟩
      have HB4 : Hid (Below w.heap.size w W4) := HB3.out.trans (hb4.mono HB3.out.size)
      have HK4 := Lib.hid (HK3.out.later hb4)
      clear hb4 HS q0 qz
      by_cases h3 : s2 = 0
      · have HX4 : Hid ((decide ((lstGo t l 0).2 &&& (lstGo t g 0).2 = 0) && soundB t nn (lstGo t g 0).2, (0 : Int)) = X) := by have := HX3.out; rw [if_neg (fun c => c h3)] at this; exact this
        subst h3
        have HZ := Lib.hid (and_zero HS1.out HS2.out)
        clear HX3
        go_wp2_with fail
        go_loopw [11] (fun i wr => ∃ k : Nat, k ≤ l.length ∧ i = .int .i64 k ∧ Below W4.heap.size W4 wr ∧ ∀ x ∈ l.take k, x ∉ g) (fun i _ => l.length - (intOf i).toNat)
        case atStart => exact ⟨0, Nat.zero_le _, rfl, Below.refl _ _, fun x hx => by simp at hx⟩
        case round =>
          obtain ⟨k, hk, rfl, hB, hE⟩ := hrel
          have HB := Lib.hid hB; have HE := Lib.hid hE
          have HBw : Hid (Below w.heap.size w wr) := HB4.out.trans (hB.mono HB4.out.size)
          have HK5 := Lib.hid (HK4.out.later hB)
          clear hB hE
          by_cases hlt : k < l.length
          · obtain ⟨y, ad, hy, rfl, cy⟩ := rdI_get (HL.out.below HBw.out) hlt
            have HY := Lib.hid hy
            have HH := Lib.hid (rhas_any g y G g.length cg wr (HG.out.below HBw.out) hg)
            have hkn : (k : Int) < (l.length : Int) := by omega
            clear hy
            by_cases hq : y ∈ g
            · have hd : decide (y ∈ g) = true := by simpa using hq
              rw [hd] at HH
              have F : Hid (((false : Bool), (0 : Int)) = X) := by
                have h := HX4.out
                rw [decide_eq_false (fun c => HZ.out.1 c y (List.mem_of_getElem? HY.out) hq), Bool.false_and] at h
                exact h
              clear hq hd
              go_wp2_with fail
              refine HH.out.mono ?_
              rintro e W6 ⟨rfl, hb6⟩
              have HB6 : Hid (Below w.heap.size w W6) := HBw.out.trans (hb6.mono HBw.out.size)
              clear hb6 cy
              go_wp2_with fail
              go_ret2
              exact ⟨by rw [← F.out]; rfl, HB6.out⟩
            · have hd : decide (y ∈ g) = false := by simpa using hq
              rw [hd] at HH
              have HE2 : Hid (∀ x ∈ l.take (k + 1), x ∉ g) := fun x hx => by
                obtain ⟨hk', e⟩ := List.getElem?_eq_some_iff.1 HY.out
                rw [List.take_succ_eq_append_getElem hk', List.mem_append, List.mem_singleton] at hx
                rcases hx with hx | hx
                · exact HE.out x hx
                · rw [hx, e]; exact hq
              clear hq hd
              go_wp2_with fail
              refine HH.out.mono ?_
              rintro e W6 ⟨rfl, hb6⟩
              have HB6 : Hid (Below W4.heap.size W4 W6) := HB.out.trans (hb6.mono HB.out.size)
              clear hb6 cy
              go_wp2_with fail
              go_roundw
              case rel => exact ⟨k + 1, by omega, by go_num, HB6.out, HE2.out⟩
              case measure => simp [intOf]; omega
          · have F : Hid ((soundB t nn (lstGo t g 0).2, (0 : Int)) = X) := by
              have h := HX4.out
              have h5 := HE.out
              rw [List.take_of_length_le (by omega)] at h5
              rw [decide_eq_true (HZ.out.2 h5), Bool.true_and] at h
              exact h
            have HGu := Lib.hid (rguards_any t nn g A n c ms G cg wr (HT.out.below HBw.out) HOK.out (HG.out.below HBw.out) hg HS2.out hnn)
            have q0 := HK5.out.cell (i := 0) rfl
            have qz := HK5.out.lt
            obtain rfl : k = l.length := by omega
            go_wp2_with fail
            refine HGu.out.mono ?_
            rintro e W6 ⟨rfl, hb6⟩
            have HB6 : Hid (Below w.heap.size w W6) := HBw.out.trans (hb6.mono HBw.out.size)
            clear hb6 q0 qz
            go_wp2_with fail
            go_ret2
            exact ⟨by rw [← F.out]; rfl, HB6.out⟩
      · have F : Hid (((false : Bool), s2) = X) := by have := HX3.out; rw [if_pos h3] at this; exact this
        have hne : (s2 != 0) = true := by simpa using h3
        clear h3
        go_wp2_with fail
        go_ret2
        exact ⟨by rw [← F.out]; rfl, HB4.out⟩
    · have F : Hid (((false : Bool), s1) = X) := by have := HX2.out; rw [if_pos h2] at this; exact this
      have hne : (s1 != 0) = true := by simpa using h2
      have hne2 : (s1 == 0) = false := by simpa using h2
      clear h2
      go_wp2_with fail
      go_ret2
      exact ⟨by rw [← F.out]; rfl, HB3.out⟩
  · have F : Hid (((false : Bool), a) = X) := by have := HX.out; rw [if_pos h1] at this; exact this.symm
    have hne : (a != 0) = true := by simpa using h1
    have hne2 : (a == 0) = false := by simpa using h1
    clear h1
    go_wp2_with fail
    go_ret2
    exact ⟨by rw [← F.out]; rfl, HB2.out⟩
end Go.Proofs.Ytadldndpphdmpaa
