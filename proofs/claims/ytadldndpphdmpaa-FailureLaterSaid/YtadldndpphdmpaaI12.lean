/- The document's Saves: a walk. -/
import Derived.Test.YtadldndpphdmpaaHg
namespace Go.Proofs.Ytadldndpphdmpaa
open Go.RowKit Go.Shelf

set_option maxRecDepth 100000 in
set_option maxHeartbeats 8000000 in
theorem rSaves_any (t : List Nd) (l : List Int) (node tick : Int) (A : Option Addr) (n c : Nat) (ms : List NdM) (L : Option Addr) (cl : Nat) (w : World) (hT : TrM w t A n ms) (hL : RdI w L l.length l) (hl : l.length ≤ 1000000000000000) (hcl : l.length ≤ cl) :
    Calls Try.prog 27 #[.agg #[.slice A n c], .slice L l.length cl, .int .i64 node, .int .i64 tick] w (IntsErr w (savesT t l node tick)) := by
  have HX := Lib.hid (saves_eq t l node tick)
  have HErr : Hid (∀ x, savesT t l node tick = (x, []) → ∀ w', Below w.heap.size w w' → IntsErr w (savesT t l node tick) (.returned (.tuple #[.slice none 0 0, .int .i64 x])) w') := fun x hx w' hb => by
    rw [hx]; exact intsErr_nil hb
  have HOkk : Hid (∀ r, savesT t l node tick = (0, r) → ∀ v w', w'.ownsRow w.heap.size 3 1 v r.length (r.map (Value.int .i64)) → Below w.heap.size w w' → IntsErr w (savesT t l node tick) (.returned (.tuple #[v, .int .i64 0])) w') := fun r hx v w' h1 h2 => by
    rw [hx]; exact ⟨v, rfl, h1, h2⟩
  generalize IntsErr w (savesT t l node tick) = PP at *
  generalize savesT t l node tick = X at *
  obtain ⟨W1, hW1⟩ : ∃ W1, w.alloc (.cells #[.slice A n c] 24) = W1 := ⟨_, rfl⟩
  have HB1 : Hid (Below w.heap.size w W1) := by rw [← hW1]; exact (Below.refl _ w).alloc (Nat.le_refl _) _
  have K1 : Hid (Blk W1 w.heap.size 24 #[.slice A n c]) := by rw [← hW1]; exact Blk.new w _ _ rfl
  have HT := Lib.hid hT; have HL := Lib.hid hL
  have HAs := Lib.hid (rasked_any t node A n c ms W1 (hT.below HB1.out))
  have HOk := Lib.hid (ask_ok (t := t) (n := node))
  have HW1 := Lib.hid hW1
  have HLn := Lib.hid hT.len
  clear hW1 hT hL
  generalize ha : askT t node = a at *
  clear ha
  go_enter Try.func27, Try.ntmps27
  go_wp2_with fail
  rw [HW1.out]
  refine HAs.out.mono ?_
  rintro e W2 ⟨rfl, hb2⟩
  have HB2 : Hid (Below w.heap.size w W2) := HB1.out.trans (hb2.mono HB1.out.size)
  have HK2 := Lib.hid (K1.out.later hb2)
  clear hb2 HAs HW1 K1
  by_cases h1 : a = 0
  · have HX2 : Hid (X = if setT t l ≠ 0 then (setT t l, []) else if outB tick 0 400 = true then (7, []) else (0, savK t l node.toNat tick (tick.toNat + longN t) t.length)) := by have := HX.out; rw [if_neg (fun c => c h1)] at this; exact this
    obtain ⟨hok, n0, n1⟩ := HOk.out h1
    have HOK := Lib.hid hok
    subst h1
    have hn40 : n ≤ 40 := by have := hok.l40; have := HLn.out; omega
    obtain ⟨nn, rfl⟩ : ∃ nn : Nat, node = (nn : Int) := ⟨node.toNat, by omega⟩
    have hnn : nn < n := by have := HLn.out; omega
    have HS := Lib.hid (rset_any t l A n c ms L cl W2 (HT.out.below HB2.out) hok (HL.out.below HB2.out) hl hcl)
    have q0 := HK2.out.cell (i := 0) rfl
    have qz := HK2.out.lt
    clear hok HX HOk
    simp only [Int.toNat_natCast] at HX2
    generalize hs1 : setT t l = s1 at *
    have HS1 := Lib.hid hs1
    clear hs1
    go_wp2_with fail
    refine HS.out.mono ?_
    rintro e W3 ⟨rfl, hb3⟩
    have HB3 : Hid (Below w.heap.size w W3) := HB2.out.trans (hb3.mono HB2.out.size)
    have HK3 := Lib.hid (HK2.out.later hb3)
    clear hb3 HS q0 qz
    by_cases h2 : s1 = 0
    · have HX3 : Hid (X = if outB tick 0 400 = true then (7, []) else (0, savK t l nn tick (tick.toNat + longN t) t.length)) := by have := HX2.out; rw [if_neg (fun c => c h2)] at this; exact this
      subst h2
      clear HX2
      cases ho : outB tick 0 400
      · obtain ⟨k0, k1⟩ := outB_false ho
        obtain ⟨tk, rfl⟩ : ∃ tk : Nat, tick = (tk : Int) := ⟨tick.toNat, by omega⟩
        obtain ⟨hlo, hlo2⟩ := longN_eq HOK.out
        obtain ⟨M, hM⟩ : ∃ M, longN t = M + 1 := ⟨(holdsN t t.length).toNat, rfl⟩
        have hM2 : M ≤ 4000 := by omega
        have HX4 : Hid (X = (0, savK t l nn tk (tk + M + 1) n)) := by
          have := HX3.out
          rw [ho, if_neg (by decide), hM, HLn.out, Int.toNat_natCast] at this
          rw [this, Nat.add_assoc]
          exact rfl
        have hh := holds_any t A n c ms W3 (HT.out.below HB3.out) HOK.out
        rw [show holdsN t t.length = (M : Int) from by omega] at hh
        have HH := Lib.hid hh
        have HL10 := Lib.hid (setT_len HOK.out HS1.out)
        have HGo := Lib.hid (fun (y : Nat) (W : World) (A5 : Option Addr) (c5 : Nat) (hr : RdI W A5 (l.filter fun x => x != (y : Int)).length (l.filter fun x => x != (y : Int))) => good_any (l.filter fun x => x != (y : Int)) ((tk : Int) + (M : Int) + 1) A5 _ c5 W hr (by have := HL10.out; have := List.length_filter_le (fun x => x != (y : Int)) l; omega))
        have HFi : Hid (∀ (y : Nat) (W : World) (A5 : Option Addr) (c5 : Nat), Below w.heap.size w W → RdS W A5 (repL l y tk ((tk : Int) + (M : Int) + 1)).length (repL l y tk ((tk : Int) + (M : Int) + 1)) → Calls Try.prog 57 #[.agg #[.slice A n c], .slice A5 (repL l y tk ((tk : Int) + (M : Int) + 1)).length c5, .int .i64 ((tk : Int) + (M : Int) + 1), .int .i64 (nn : Int)] W fun e w' => e = .returned (.int .i64 (idxF (ft t (spB (repL l y tk ((tk : Int) + (M : Int) + 1))) nn) 0 (tk + M + 1))) ∧ Below W.heap.size W w') := fun y W A5 c5 hW hR => by
          have h := first_any t (repL l y tk ((tk : Int) + (M : Int) + 1)) A n c ms A5 c5 (tk + M + 1) nn W (HT.out.below hW) HOK.out hR (by unfold repL; rw [List.length_append, goodL_len]; have := HL10.out; have := List.length_filter_le (fun x => x != (y : Int)) l; simp; omega) (by omega) hnn
          rw [show ((tk + M + 1 : Nat) : Int) = (tk : Int) + (M : Int) + 1 from by omega] at h
          exact h
        have HSu : Hid (∀ k, savK t l nn tk (tk + M + 1) (k + 1) = savK t l nn tk (tk + M + 1) k ++ if (decide ((k : Int) ∈ l) && decide (idxF (ft t (spB (repL l k tk ((tk : Int) + (M : Int) + 1))) nn) 0 (tk + M + 1) < 0)) = true then [(k : Int)] else []) := fun k => by
          have h := savK_succ t l nn tk (tk + M + 1) k
          rw [show ((tk + M + 1 : Nat) : Int) = (tk : Int) + (M : Int) + 1 from by omega] at h
          exact h
        have HSl := Lib.hid (fun k => savK_len t l nn tk (tk + M + 1) k)
        have q0 := HK3.out.cell (i := 0) rfl
        have qz := HK3.out.lt
        obtain ⟨ii, hii, hzi0, hzi1, hzi2⟩ := info_parts infoI
        obtain ⟨jj, hij, hzj0, hzj1, hzj2⟩ := info_parts infoSp
        clear hlo hlo2 hM hh HX3
        go_wp2_with (first | (go_at_call 45; refine (in_any _ _ _ _).mono ?_; rintro e w' ⟨rfl, rfl⟩) | fail)
        refine HH.out.mono ?_
        rintro e W4 ⟨rfl, hb4⟩
        have HB4 : Hid (Below w.heap.size w W4) := HB3.out.trans (hb4.mono HB3.out.size)
        have HK4 := Lib.hid (HK3.out.later hb4)
        clear hb4 q0 qz HH
        go_wp2_with fail
        clear ho
        go_loopw [12, 13] (fun v i wr => ∃ k : Nat, k ≤ n ∧ i = .int .i64 k ∧ wr.ownsRow W4.heap.size 3 1 v (savK t l nn tk (tk + M + 1) k).length ((savK t l nn tk (tk + M + 1) k).map (Value.int .i64)) ∧ Below W4.heap.size W4 wr) (fun _ i _ => n - (intOf i).toNat)
        case atStart => exact ⟨0, Nat.zero_le _, rfl, World.ownsRow_nil _ _ _ _, Below.refl _ _⟩
        case round =>
          obtain ⟨k, hk, rfl, hrw, hB⟩ := hrel
          have HRw := Lib.hid hrw; have HB := Lib.hid hB
          have HBw : Hid (Below w.heap.size w wr) := HB4.out.trans (hB.mono HB4.out.size)
          have HK5 := Lib.hid (HK4.out.later hB)
          have k0' := HK5.out.cell (i := 0) rfl
          have kz := HK5.out.lt
          have hsl := HSl.out k
          have hBz := hB.size
          have HBz := Lib.hid hBz
          clear hrw hB
          by_cases hlt : k < n
          · have HSk := Lib.hid (HSu.out k)
            have hkn : (k : Int) < (n : Int) := by omega
            have HHs := Lib.hid (rhas_any l k L l.length cl wr (HL.out.below HBw.out) hl)
            by_cases hq : (k : Int) ∈ l
            · have hd : decide ((k : Int) ∈ l) = true := by simpa using hq
              rw [hd] at HHs
              have HSk2 : Hid (savK t l nn tk (tk + M + 1) (k + 1) = savK t l nn tk (tk + M + 1) k ++ if decide (idxF (ft t (spB (repL l k tk ((tk : Int) + (M : Int) + 1))) nn) 0 (tk + M + 1) < 0) = true then [(k : Int)] else []) := by have := HSk.out; rw [hd, Bool.true_and] at this; exact this
              clear hq hd
              go_wp2_with fail
              refine HHs.out.mono ?_
              rintro e W6 ⟨rfl, hb6⟩
              have HB6 : Hid (Below wr.heap.size wr W6) := hb6
              have HWi := Lib.hid (rwithout_any l k L l.length cl W6 ((HL.out.below HBw.out).below HB6.out) (by have := HL10.out; omega))
              have HK6 := Lib.hid (HK5.out.later hb6)
              clear hb6 HHs k0' kz
              go_wp2_with fail
              refine HWi.out.mono ?_
              rintro e W7 ⟨v7, rfl, hr7, hb7⟩
              have HB7 : Hid (Below wr.heap.size wr W7) := HB6.out.trans (hb7.mono HB6.out.size)
              obtain ⟨A7, c7, rfl, hI7, _, _⟩ := rdI_of_own hr7 rfl
              have HGo7 := Lib.hid (HGo.out k W7 A7 c7 hI7)
              have HK7 := Lib.hid (HK6.out.later hb7)
              clear hr7 hb7 hI7 HWi
              go_wp2_with fail
              refine HGo7.out.mono ?_
              rintro e W8 ⟨v8, rfl, hr8, hb8⟩
              have HB8 : Hid (Below wr.heap.size wr W8) := HB7.out.trans (hb8.mono HB7.out.size)
              have HR8 := Lib.hid hr8
              have HK8 := Lib.hid (HK7.out.later hb8)
              have hgl : (goodL (l.filter fun x => x != (k : Int)) ((tk : Int) + (M : Int) + 1)).length ≤ 10 := by rw [goodL_len]; have := HL10.out; have := List.length_filter_le (fun x => x != (k : Int)) l; omega
              have HZ8 : Hid (W7.heap.size ≤ W8.heap.size) := hb8.size
              have HRep : Hid (repL l k tk ((tk : Int) + (M : Int) + 1) = goodL (l.filter fun x => x != (k : Int)) ((tk : Int) + (M : Int) + 1) ++ [⟨k, 0, tk⟩]) := rfl
              clear hr8 hb8 HGo7
              generalize goodL (l.filter fun x => x != (k : Int)) ((tk : Int) + (M : Int) + 1) = GL at *
              go_wp2_with (first | (refine wpList_buildSlice_one rfl 56 65 _ rfl 3 _ #[.int .i64 (k : Int), .int .i64 0, .int .i64 (tk : Int)] rfl Try.underlying56 (Try.sizeOf65 _) (Try.zeroValue65 _) rfl (by omega) (by omega) ?_) | (at_builtin; refine wpList_append_st rfl _ _ 56 rfl W7.heap.size 65 jj (.agg #[.int .i64 0, .int .i64 0, .int .i64 0]) 3 24 Try.underlying56 hij hzj0 hzj1 hzj2 rfl (by decide) _ _ _ rfl HR8.out #[.int .i64 (k : Int), .int .i64 0, .int .i64 (tk : Int)] rfl W8.heap.size rfl rfl (by simp [Value.oneCell']) (by unfold maxLen; omega) (by omega) HZ8.out ?_; intro A' c'' w2 hown' hgrow _; have HO2 := Lib.hid hown'; have HG2 := Lib.hid hgrow; have HKx := Lib.hid (HK8.out.grown hgrow (fun e => by have h1 := (HR8.out.lt _ e.symm).1; have h2 := HK7.out.lt; omega)); have y0 := HKx.out.cell (i := 0) rfl; have yz := HKx.out.lt; clear hown' hgrow))
              have HB9 : Hid (Below wr.heap.size wr w2) := HB8.out.grown HG2.out HB8.out.size (fun r e => Nat.le_trans HB7.out.size (HR8.out.lt r e).1)
              have hlen : GL.length + 1 = (repL l k tk ((tk : Int) + (M : Int) + 1)).length := by rw [HRep.out, List.length_append]; rfl
              have hown : w2.ownsRow W7.heap.size 65 3 (.slice A' (GL.length + 1) c'') (GL.length + 1) ((repL l k tk ((tk : Int) + (M : Int) + 1)).flatMap Sp.enc) := by rw [HRep.out, List.flatMap_append]; exact HO2.out
              obtain ⟨A9, c9, e9, hr9, _, _⟩ := rd_of_own enc3 hown hlen.symm
              cases e9
              rw [hlen] at hr9 ⊢
              have HFi9 := Lib.hid (HFi.out k w2 A' c'' (HBw.out.trans (HB9.out.mono HBw.out.size)) hr9)
              clear hown hr9 hlen
              refine HFi9.out.mono ?_
              rintro e Wa ⟨rfl, hba⟩
              have HBa : Hid (Below wr.heap.size wr Wa) := HB9.out.trans (hba.mono HB9.out.size)
              have HRwa : Hid (Wa.ownsRow W4.heap.size 3 1 u12 (savK t l nn tk (tk + M + 1) k).length ((savK t l nn tk (tk + M + 1) k).map (Value.int .i64))) := own_far HRw.out (grown_of_below HBa.out none) (fun r e => by cases e)
              have HZa : Hid (W4.heap.size ≤ Wa.heap.size) := by have := HBa.out.size; show _ ≤ _; omega
              clear hba y0 yz HFi9
              generalize idxF (ft t (spB (repL l k tk ((tk : Int) + (M : Int) + 1))) nn) 0 (tk + M + 1) = fx at *
              cases hfx : decide (fx < 0)
              · have HS2 : Hid (savK t l nn tk (tk + M + 1) (k + 1) = savK t l nn tk (tk + M + 1) k) := by have := HSk2.out; rw [hfx, if_neg (by decide), List.append_nil] at this; exact this
                go_wp2_with fail
                go_roundw
                case rel => exact ⟨k + 1, by omega, by go_num, by rw [HS2.out]; exact HRwa.out, HB.out.trans (HBa.out.mono HB.out.size)⟩
                case measure => simp [intOf]; omega
              · have HS2 : Hid (savK t l nn tk (tk + M + 1) (k + 1) = savK t l nn tk (tk + M + 1) k ++ [(k : Int)]) := by have := HSk2.out; rw [hfx, if_pos rfl] at this; exact this
                go_wp2_with (at_builtin; refine wpList_append_one rfl _ _ 30 rfl W4.heap.size 3 ii (.int .i64 0) 8 Try.underlying30 hii hzi0 hzi1 hzi2 rfl _ _ _ rfl HRwa.out (.int .i64 (k : Int)) Wa.heap.size rfl rfl (by simp [Value.oneCell']) (by unfold maxLen; omega) (by omega) HZa.out ?_; intro A' c'' w2 hown' hgrow _; have HO2 := Lib.hid hown'; have HG2 := Lib.hid hgrow; clear hown' hgrow)
                go_roundw
                case rel => exact ⟨k + 1, by omega, by go_num, by rw [HS2.out, List.length_append, List.map_append]; exact HO2.out, (HB.out.trans (HBa.out.mono HB.out.size)).grown HG2.out HZa.out (fun r e => (HRwa.out.lt r e).1)⟩
                case measure => simp [intOf]; omega
            · have hd : decide ((k : Int) ∈ l) = false := by simpa using hq
              rw [hd] at HHs
              have HS2 : Hid (savK t l nn tk (tk + M + 1) (k + 1) = savK t l nn tk (tk + M + 1) k) := by have := HSk.out; rw [hd, Bool.false_and, if_neg (by decide), List.append_nil] at this; exact this
              clear hq hd
              go_wp2_with fail
              refine HHs.out.mono ?_
              rintro e W6 ⟨rfl, hb6⟩
              have HB6 : Hid (Below wr.heap.size wr W6) := hb6
              have HRw6 : Hid (W6.ownsRow W4.heap.size 3 1 u12 (savK t l nn tk (tk + M + 1) k).length ((savK t l nn tk (tk + M + 1) k).map (Value.int .i64))) := own_far HRw.out (grown_of_below HB6.out none) (fun r e => by cases e)
              clear hb6
              go_wp2_with fail
              go_roundw
              case rel => exact ⟨k + 1, by omega, by go_num, by rw [HS2.out]; exact HRw6.out, HB.out.trans (HB6.out.mono HB.out.size)⟩
              case measure => simp [intOf]; omega
          · obtain rfl : n = k := by omega
            have F := Lib.hid (HOkk.out _ HX4.out _ _ (own_lower HRw.out HB4.out.size) HBw.out)
            go_wp2_with fail
            first | exact F.out | (go_ret2; exact F.out)
      · have F := Lib.hid (HErr.out 7 (by rw [HX3.out, ho, if_pos rfl]) _ HB3.out)
        go_wp2_with (go_at_call 45; refine (in_any _ _ _ _).mono ?_; rintro e w' ⟨rfl, rfl⟩)
        first | exact F.out | (go_ret2; exact F.out)
    · have F := Lib.hid (HErr.out s1 (by rw [HX2.out, if_pos h2]) _ HB3.out)
      have hne : (s1 != 0) = true := by simpa using h2
      have hne2 : (s1 == 0) = false := by simpa using h2
      clear h2
      go_wp2_with fail
      first | exact F.out | (go_ret2; exact F.out)
  · have F := Lib.hid (HErr.out a (by rw [HX.out, if_pos h1]) _ HB2.out)
    have hne : (a != 0) = true := by simpa using h1
    have hne2 : (a == 0) = false := by simpa using h1
    clear h1
    go_wp2_with fail
    first | exact F.out | (go_ret2; exact F.out)
end Go.Proofs.Ytadldndpphdmpaa
