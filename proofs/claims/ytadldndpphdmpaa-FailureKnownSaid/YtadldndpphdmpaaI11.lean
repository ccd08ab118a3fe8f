/- The document's Left and Effects: walks. -/
import Derived.Test.YtadldndpphdmpaaI10
namespace Go.Proofs.Ytadldndpphdmpaa
open Go.RowKit Go.Shelf

set_option maxRecDepth 100000 in
set_option maxHeartbeats 4000000 in
theorem rLeft_any (t : List Nd) (l : List Int) (node : Int) (A : Option Addr) (n c : Nat) (ms : List NdM) (L : Option Addr) (cl : Nat) (w : World) (hT : TrM w t A n ms) (hL : RdI w L l.length l) (hl : l.length ≤ 1000000000000000) (hcl : l.length ≤ cl) :
    Calls Try.prog 25 #[.agg #[.slice A n c], .slice L l.length cl, .int .i64 node] w fun e w' => e = .returned (.tuple #[.int .i64 (leftT t l node).1, .int .i64 (leftT t l node).2]) ∧ Below w.heap.size w w' := by
  have HX := Lib.hid (left_eq t l node)
  generalize leftT t l node = X at *
  obtain ⟨W1, hW1⟩ : ∃ W1, w.alloc (.cells #[.slice A n c] 24) = W1 := ⟨_, rfl⟩
  have HB1 : Hid (Below w.heap.size w W1) := by rw [← hW1]; exact (Below.refl _ w).alloc (Nat.le_refl _) _
  have K1 : Hid (Blk W1 w.heap.size 24 #[.slice A n c]) := by rw [← hW1]; exact Blk.new w _ _ rfl
  have HT := Lib.hid hT; have HL := Lib.hid hL
  have HAs := Lib.hid (rasked_any t node A n c ms W1 (hT.below HB1.out))
  have HOk := Lib.hid (ask_ok (t := t) (n := node))
  have HW1 := Lib.hid hW1
  have HLn := Lib.hid hT.len
  clear hW1 hT hL
  generalize ha : askT t node = a at *
  clear ha
  go_enter Try.func25, Try.ntmps25
  go_wp2_with fail
  rw [HW1.out]
  refine HAs.out.mono ?_
  rintro e W2 ⟨rfl, hb2⟩
  have HB2 : Hid (Below w.heap.size w W2) := HB1.out.trans (hb2.mono HB1.out.size)
  have HK2 := Lib.hid (K1.out.later hb2)
  clear hb2 HAs HW1 K1
  by_cases h1 : a = 0
  · have HX2 : Hid ((if setT t l ≠ 0 then (0, setT t l) else if ef t (fun j => decide ((j : Int) ∈ l)) node.toNat = true then (idxF (ft t (spB (goodL l (longN t))) node.toNat) 0 (longN t), 0) else (0, 4)) = X) := by have := HX.out; rw [if_neg (fun c => c h1)] at this; exact this.symm
    obtain ⟨hok, n0, n1⟩ := HOk.out h1
    have HOK := Lib.hid hok
    subst h1
    obtain ⟨nn, rfl⟩ : ∃ nn : Nat, node = (nn : Int) := ⟨node.toNat, by omega⟩
    have hnn : nn < n := by have := HLn.out; omega
    have hS := rset_any t l A n c ms L cl W2 (HT.out.below HB2.out) hok (HL.out.below HB2.out) hl hcl
    have HS := Lib.hid hS
    have q0 := HK2.out.cell (i := 0) rfl
    have qz := HK2.out.lt
    clear hok hS HX HOk
    simp only [Int.toNat_natCast] at HX2
    generalize hs1 : setT t l = s1 at *
    have HS1 := Lib.hid hs1
    clear hs1
    go_wp2_with fail
    refine HS.out.mono ?_
    rintro e W3 ⟨rfl, hb3⟩
    have HB3 : Hid (Below w.heap.size w W3) := HB2.out.trans (hb3.mono HB2.out.size)
    have HK3 := Lib.hid (HK2.out.later hb3)
    clear hb3 HS q0 qz
    by_cases h2 : s1 = 0
    · have HX3 : Hid ((if ef t (fun j => decide ((j : Int) ∈ l)) nn = true then (idxF (ft t (spB (goodL l (longN t))) nn) 0 (longN t), (0 : Int)) else (0, 4)) = X) := by have := HX2.out; rw [if_neg (fun c => c h2)] at this; exact this
      subst h2
      have HEf := Lib.hid (reffects_any t l A n c ms L cl W3 (HT.out.below HB3.out) HOK.out (HL.out.below HB3.out) hl)
      have q0 := HK3.out.cell (i := 0) rfl
      have qz := HK3.out.lt
      have hl10 := setT_len HOK.out HS1.out
      have HL10 := Lib.hid hl10
      clear HX2 hl10
      go_wp2_with fail
      refine HEf.out.mono ?_
      rintro e W4 ⟨v, rfl, hrw, hb4⟩
      have HB4 : Hid (Below w.heap.size w W4) := HB3.out.trans (hb4.mono HB3.out.size)
      have HK4 := Lib.hid (HK3.out.later hb4)
      obtain ⟨A3, c3, rfl, hr3, _, _⟩ := rdB_of_own hrw rfl
      rw [List.length_map, List.length_range, HLn.out] at hr3 ⊢
      obtain ⟨b, bd, hbv, rfl, hcb⟩ := rdB_get hr3 hnn
      have hbe : b = ef t (fun j => decide ((j : Int) ∈ l)) nn := by
        rw [List.getElem?_map, List.getElem?_range (by have := HLn.out; omega)] at hbv
        exact (Option.some.inj hbv).symm
      have hnn' : (nn : Int) < (n : Int) := by omega
      have HX4 : Hid ((if b = true then (idxF (ft t (spB (goodL l (longN t))) nn) 0 (longN t), (0 : Int)) else (0, 4)) = X) := by rw [hbe]; exact HX3.out
      clear hrw hb4 hr3 hbv hbe HEf q0 qz HX3
      cases b
      · have F : Hid (((0 : Int), (4 : Int)) = X) := by have := HX4.out; rw [if_neg (by decide)] at this; exact this
        go_wp2_with fail
        go_ret2
        exact ⟨by rw [← F.out]; rfl, HB4.out⟩
      · have F : Hid ((idxF (ft t (spB (goodL l (longN t))) nn) 0 (longN t), (0 : Int)) = X) := by have := HX4.out; rw [if_pos rfl] at this; exact this
        obtain ⟨hlo, hlo2⟩ := longN_eq HOK.out
        obtain ⟨M, hM⟩ : ∃ M, longN t = M + 1 := ⟨(holdsN t t.length).toNat, rfl⟩
        have hM2 : M ≤ 4000 := by omega
        have hh := holds_any t A n c ms W4 (HT.out.below HB4.out) HOK.out
        rw [show holdsN t t.length = (M : Int) from by omega] at hh
        have HH := Lib.hid hh
        rw [hM] at F
        have HGo := Lib.hid (fun (W : World) (h : Below w.heap.size w W) => good_any l ((M : Int) + 1) L l.length cl W (HL.out.below h) (by have := HL10.out; omega))
        have HFi : Hid (∀ (W : World) (A5 : Option Addr) (c5 : Nat), Below w.heap.size w W → RdS W A5 (goodL l ((M : Int) + 1)).length (goodL l ((M : Int) + 1)) → Calls Try.prog 57 #[.agg #[.slice A n c], .slice A5 (goodL l ((M : Int) + 1)).length c5, .int .i64 ((M : Int) + 1), .int .i64 (nn : Int)] W fun e w' => e = .returned (.int .i64 X.1) ∧ Below W.heap.size W w') := fun W A5 c5 hW hR => by
          have h := first_any t (goodL l ((M : Int) + 1)) A n c ms A5 c5 (M + 1) nn W (HT.out.below hW) HOK.out hR (by rw [goodL_len]; have := HL10.out; omega) (by omega) hnn
          have hF := F.out
          rw [show ((M + 1 : Nat) : Int) = (M : Int) + 1 from by omega] at h hF
          rw [← hF]
          exact h
        have HX0 : Hid (X.2 = 0) := by rw [← F.out]; exact rfl
        have k0 := HK4.out.cell (i := 0) rfl
        have kz := HK4.out.lt
        clear hlo hlo2 hM hh HX4 F
        go_wp2_with fail
        refine HH.out.mono ?_
        rintro e W5 ⟨rfl, hb5⟩
        have HB5 : Hid (Below w.heap.size w W5) := HB4.out.trans (hb5.mono HB4.out.size)
        have HK5 := Lib.hid (HK4.out.later hb5)
        clear hb5 k0 kz HH hcb
        have x0 := later_cell (HK5.out.cell (i := 0) rfl)
        go_wp2_with fail
        have HS0 : Hid ((fun w' => ∃ u : Later W5, w' = u.w) W5.drew) := ⟨⟨W5.drew, (Below.refl _ _).drew⟩, rfl⟩
        have HBd : Hid (Below w.heap.size w W5.drew) := HB5.out.drew
        have HGo2 := Lib.hid (HGo.out _ HBd.out)
        refine wp_region_noPanic ?_
        refine wp_region_ord (fun w' => ∃ u : Later W5, w' = u.w) 6 (fun k => decide (k < 3) || k == 4 || k == 5) (ordOf _ [0, 1, 2, 4, 5, 3, 6, 7, 8]) (by kernel_rfl) (by kernel_rfl) (ordOf_mem _ _) (fun _ _ _ _ _ h => h) ?_
        simp only [ordOf, List.filterMap_cons, List.filterMap_nil, List.getElem?_cons_zero, List.getElem?_cons_succ, Option.map_some]
        iterate 5 (refine ord_quiet rfl rfl rfl HS0.out ?_; intro K hK; go_big_quiet_op; go_big_quiet_on)
        clear x0 HS0
        refine ord_op rfl ?_
        go_wp2_with fail
        refine HGo2.out.mono ?_
        rintro e W6 ⟨v, rfl, hrw, hb6⟩
        have HB6 : Hid (Below W5.heap.size W5 W6) := below_of_drew hb6
        obtain ⟨A6, c6, rfl, hr6, _, _⟩ := rd_of_own enc3 hrw rfl
        have HFi2 := Lib.hid (HFi.out W6 A6 c6 (HB5.out.trans (HB6.out.mono HB5.out.size)) hr6)
        clear hrw hb6 hr6 HGo HFi HGo2
        go_wp2_with fail
        refine mix_post (fun _ => ⟨⟨_, HB6.out⟩, rfl⟩) ?_
        refine ord_op rfl ?_
        go_wp2_with fail
        refine HFi2.out.mono ?_
        rintro e W7 ⟨rfl, hb7⟩
        have HB7 : Hid (Below w.heap.size w W7) := (HB5.out.trans (HB6.out.mono HB5.out.size)).trans (hb7.mono (HB5.out.trans (HB6.out.mono HB5.out.size)).size)
        clear hb7
        go_wp2_with fail
        refine mix_post (fun h => absurd h (by decide)) ?_
        iterate 2 (refine ord_op rfl ?_; go_wp2_with fail; refine mix_post (fun h => absurd h (by decide)) ?_)
        refine ord_nil ?_
        refine NoPanic.normal ?_
        go_wp2_with fail
        go_ret2
        exact ⟨by rw [HX0.out]; rfl, HB7.out⟩
    · have F : Hid (((0 : Int), s1) = X) := by have := HX2.out; rw [if_pos h2] at this; exact this
      have hne : (s1 != 0) = true := by simpa using h2
      have hne2 : (s1 == 0) = false := by simpa using h2
      clear h2
      go_wp2_with fail
      go_ret2
      exact ⟨by rw [← F.out]; rfl, HB3.out⟩
  · have F : Hid (((0 : Int), a) = X) := by have := HX.out; rw [if_pos h1] at this; exact this.symm
    have hne : (a != 0) = true := by simpa using h1
    have hne2 : (a == 0) = false := by simpa using h1
    clear h1
    go_wp2_with fail
    go_ret2
    exact ⟨by rw [← F.out]; rfl, HB2.out⟩

theorem effectsT_eq (t : List Nd) (l : List Int) : effectsT t l = if (chkT t).2 ≠ 0 then ((chkT t).2, []) else if setT t l ≠ 0 then (setT t l, []) else (0, effL t fun j => decide ((j : Int) ∈ l)) := by
  have he := effectsT_err t l
  by_cases h1 : (chkT t).2 ≠ 0
  · rw [if_pos h1] at he ⊢
    unfold effectsT at he ⊢
    by_cases c : (aboutT t 0 [l]).1 = 0
    · rw [if_pos c] at he; exact absurd he.symm h1
    · rw [if_neg c] at he ⊢; rw [← he]
  · rw [if_neg h1] at he ⊢
    have hok : TrOk t := chkT_ok.1 (Classical.byContradiction h1)
    by_cases h2 : setT t l ≠ 0
    · rw [if_pos h2]
      unfold effectsT at he ⊢
      by_cases c : (aboutT t 0 [l]).1 = 0
      · rw [if_pos c] at he; exact absurd he.symm h2
      · rw [if_neg c] at he ⊢; rw [← he]
    · rw [if_neg h2]
      have h2' : setT t l = 0 := Classical.byContradiction h2
      have h0 : (effectsT t l).1 = 0 := he.trans h2'
      obtain ⟨_, _, h3⟩ := effectsT_ok h0
      rw [bitsL_eff hok (lst_sub l), lst_ef h2'] at h3
      rw [← h3, ← h0]
/-- The first k nodes that fail. -/
def effK (b : Nat → Bool) (k : Nat) : List Int := ((List.range k).filter b).map Int.ofNat
theorem effK_succ (b : Nat → Bool) (k : Nat) : effK b (k + 1) = effK b k ++ if b k = true then [(k : Int)] else [] := by
  unfold effK
  rw [List.range_succ, List.filter_append, List.map_append]
  congr 1
  by_cases h : b k = true
  · rw [List.filter_cons_of_pos h, if_pos h]; rfl
  · rw [List.filter_cons_of_neg h, if_neg h]; rfl
theorem effK_len (b : Nat → Bool) (k : Nat) : (effK b k).length ≤ k := by
  unfold effK
  rw [List.length_map]
  exact Nat.le_trans (List.length_filter_le _ _) (by simp)
set_option maxRecDepth 100000 in
set_option maxHeartbeats 4000000 in
theorem rEffects_any (t : List Nd) (l : List Int) (A : Option Addr) (n c : Nat) (ms : List NdM) (L : Option Addr) (cl : Nat) (w : World) (hT : TrM w t A n ms) (hL : RdI w L l.length l) (hl : l.length ≤ 1000000000000000) (hcl : l.length ≤ cl) :
    Calls Try.prog 22 #[.agg #[.slice A n c], .slice L l.length cl] w (IntsErr w (effectsT t l)) := by
  have HX := Lib.hid (effectsT_eq t l)
  have HErr : Hid (∀ x, effectsT t l = (x, []) → ∀ w', Below w.heap.size w w' → IntsErr w (effectsT t l) (.returned (.tuple #[.slice none 0 0, .int .i64 x])) w') := fun x hx w' hb => by
    rw [hx]; exact intsErr_nil hb
  have HOkk : Hid (∀ r, effectsT t l = (0, r) → ∀ v w', w'.ownsRow w.heap.size 3 1 v r.length (r.map (Value.int .i64)) → Below w.heap.size w w' → IntsErr w (effectsT t l) (.returned (.tuple #[v, .int .i64 0])) w') := fun r hx v w' h1 h2 => by
    rw [hx]; exact ⟨v, rfl, h1, h2⟩
  generalize IntsErr w (effectsT t l) = PP at *
  generalize effectsT t l = X at *
  obtain ⟨W1, hW1⟩ : ∃ W1, w.alloc (.cells #[.slice A n c] 24) = W1 := ⟨_, rfl⟩
  have HB1 : Hid (Below w.heap.size w W1) := by rw [← hW1]; exact (Below.refl _ w).alloc (Nat.le_refl _) _
  have K1 : Hid (Blk W1 w.heap.size 24 #[.slice A n c]) := by rw [← hW1]; exact Blk.new w _ _ rfl
  have HT := Lib.hid hT; have HL := Lib.hid hL
  have HCk := Lib.hid (rcheck_any t A n c ms W1 (hT.below HB1.out))
  have HOk := Lib.hid (chkT_ok (t := t))
  have HW1 := Lib.hid hW1
  have HLn := Lib.hid hT.len
  clear hW1 hT hL
  generalize chkT t = Y at *
  obtain ⟨y1, y2⟩ := Y
  dsimp only at *
  go_enter Try.func22, Try.ntmps22
  go_wp2_with fail
  rw [HW1.out]
  refine HCk.out.mono ?_
  rintro e W2 ⟨rfl, hb2⟩
  have HB2 : Hid (Below w.heap.size w W2) := HB1.out.trans (hb2.mono HB1.out.size)
  have HK2 := Lib.hid (K1.out.later hb2)
  clear hb2 HCk HW1 K1
  by_cases h1 : y2 = 0
  · have HX2 : Hid (X = if setT t l ≠ 0 then (setT t l, []) else (0, effL t fun j => decide ((j : Int) ∈ l))) := by have := HX.out; rw [if_neg (fun c => c h1)] at this; exact this
    have hok := HOk.out.1 h1
    have HOK := Lib.hid hok
    subst h1
    have hn40 : n ≤ 40 := by have := hok.l40; have := HLn.out; omega
    have HS := Lib.hid (rset_any t l A n c ms L cl W2 (HT.out.below HB2.out) hok (HL.out.below HB2.out) hl hcl)
    have q0 := HK2.out.cell (i := 0) rfl
    have qz := HK2.out.lt
    clear hok HX HOk
    generalize hs1 : setT t l = s1 at *
    clear hs1
    go_wp2_with fail
    refine HS.out.mono ?_
    rintro e W3 ⟨rfl, hb3⟩
    have HB3 : Hid (Below w.heap.size w W3) := HB2.out.trans (hb3.mono HB2.out.size)
    have HK3 := Lib.hid (HK2.out.later hb3)
    clear hb3 HS q0 qz
    by_cases h2 : s1 = 0
    · have hX3 : X = (0, effK (ef t fun j => decide ((j : Int) ∈ l)) n) := by have := HX2.out; rw [if_neg (fun c => c h2)] at this; rw [this, ← HLn.out]; rfl
      have HX3 := Lib.hid hX3
      subst h2
      have HEf := Lib.hid (reffects_any t l A n c ms L cl W3 (HT.out.below HB3.out) HOK.out (HL.out.below HB3.out) hl)
      have q0 := HK3.out.cell (i := 0) rfl
      have qz := HK3.out.lt
      obtain ⟨ii, hii, hzi0, hzi1, hzi2⟩ := info_parts infoI
      clear HX2 hX3
      generalize ef t (fun j => decide ((j : Int) ∈ l)) = E at *
      go_wp2_with fail
      refine HEf.out.mono ?_
      rintro e W4 ⟨v, rfl, hrw, hb4⟩
      have HB4 : Hid (Below w.heap.size w W4) := HB3.out.trans (hb4.mono HB3.out.size)
      obtain ⟨A3, c3, rfl, hr3, _, _⟩ := rdB_of_own hrw rfl
      rw [List.length_map, List.length_range, HLn.out] at hr3 ⊢
      have HR3 := Lib.hid hr3
      clear hrw hb4 hr3 HEf q0 qz
      go_wp2_with fail
      go_loopw [8, 10] (fun v i wr => ∃ k : Nat, k ≤ n ∧ i = .int .i64 k ∧ wr.ownsRow W4.heap.size 3 1 v (effK E k).length ((effK E k).map (Value.int .i64)) ∧ Below W4.heap.size W4 wr) (fun _ i _ => n - (intOf i).toNat)
      case atStart => exact ⟨0, Nat.zero_le _, rfl, World.ownsRow_nil _ _ _ _, Below.refl _ _⟩
      case round =>
        obtain ⟨k, hk, rfl, hrw, hB⟩ := hrel
        have HRw := Lib.hid hrw; have HB := Lib.hid hB
        have hBz := hB.size
        have HBz := Lib.hid hBz
        have hbl := effK_len E k
        clear hrw hB
        by_cases hlt : k < n
        · obtain ⟨b, bd, hbv, rfl, hcb⟩ := rdB_get (HR3.out.below HB.out) hlt
          have hbe : E k = b := by
            rw [List.getElem?_map, List.getElem?_range hlt] at hbv
            exact Option.some.inj hbv
          have hsu := effK_succ E k
          rw [hbe] at hsu
          have HSu := Lib.hid hsu
          have hkn : (k : Int) < (n : Int) := by omega
          clear hbv hbe hsu
          cases b
          · have HS2 : Hid (effK E (k + 1) = effK E k) := by have := HSu.out; rw [if_neg (by decide), List.append_nil] at this; exact this
            go_wp2_with fail
            go_roundw
            case rel => exact ⟨k + 1, by omega, by go_num, by rw [HS2.out]; exact HRw.out, HB.out⟩
            case measure => simp [intOf]; omega
          · have HS2 : Hid (effK E (k + 1) = effK E k ++ [(k : Int)]) := by have := HSu.out; rw [if_pos rfl] at this; exact this
            go_wp2_with (at_builtin; refine wpList_append_one rfl _ _ 30 rfl W4.heap.size 3 ii (.int .i64 0) 8 Try.underlying30 hii hzi0 hzi1 hzi2 rfl _ _ _ rfl HRw.out (.int .i64 (k : Int)) wr.heap.size rfl rfl (by simp [Value.oneCell']) (by unfold maxLen; omega) (by omega) HBz.out ?_; intro A' c'' w2 hown' hgrow _; have HO2 := Lib.hid hown'; have HG2 := Lib.hid hgrow; clear hown' hgrow)
            go_roundw
            case rel => exact ⟨k + 1, by omega, by go_num, by rw [HS2.out, List.length_append, List.map_append]; exact HO2.out, HB.out.grown HG2.out HBz.out (fun r e => (HRw.out.lt r e).1)⟩
            case measure => simp [intOf]; omega
        · obtain rfl : n = k := by omega
          have F := Lib.hid (HOkk.out _ HX3.out _ _ (own_lower HRw.out HB4.out.size) (HB4.out.trans (HB.out.mono HB4.out.size)))
          go_wp2_with fail
          first | exact F.out | (go_ret2; exact F.out)
    · have F := Lib.hid (HErr.out s1 (by rw [HX2.out, if_pos h2]) _ HB3.out)
      have hne : (s1 != 0) = true := by simpa using h2
      clear h2
      go_wp2_with fail
      first | exact F.out | (go_ret2; exact F.out)
  · have F := Lib.hid (HErr.out y2 (by rw [HX.out, if_pos h1]) _ HB2.out)
    have hne : (y2 != 0) = true := by simpa using h1
    have hne2 : (y2 == 0) = false := by simpa using h1
    clear h1
    go_wp2_with fail
    first | exact F.out | (go_ret2; exact F.out)
end Go.Proofs.Ytadldndpphdmpaa
