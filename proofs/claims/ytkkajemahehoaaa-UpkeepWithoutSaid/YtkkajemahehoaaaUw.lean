/- UpkeepWithout returns true. -/
import Derived.Test.YtkkajemahehoaaaPlain6
import Derived.Test.YtkkajemahehoaaaUb
import Derived.Test.YtkkajemahehoaaaDr
namespace Go.Proofs.Ytkkajemahehoaaa
open Go.RowKit

theorem build25 (w : World) : (Instr.buildSlice 25 0 #[]).run Try.prog w = .ok (.slice (some ⟨w.heap.size, 0, none⟩) 0 0) (w.alloc (.cells #[] 61)) := by kernel_rfl
theorem buildI (w : World) : (Instr.buildSlice 33 0 #[]).run Try.prog w = .ok (.slice (some ⟨w.heap.size, 0, none⟩) 0 0) (w.alloc (.cells #[] 3)) := by kernel_rfl
theorem info61 : (Try.prog.info? 61).map (fun i => (i.zero, i.size, i.bytes)) = some (some (.agg #[.string ⟨#[]⟩, .int .i64 0, .int .i64 0, .int .i64 0, .int .i64 0, .int .i64 0, .int .i64 0]), 7, 64) := by kernel_rfl
theorem work_len (x : Work) : (Work.enc x).length = 7 := rfl
theorem work_one (x : Work) : ∀ u ∈ Work.enc x, u.oneCell' = true := fun u hu => by
  simp [Work.enc] at hu
  rcases hu with rfl | rfl | rfl | rfl | rfl | rfl | rfl <;> rfl
theorem int_one (x : Int) : ∀ u ∈ [Value.int .i64 x], u.oneCell' = true := fun u hu => by
  simp at hu
  subst hu
  rfl
/-- Where a list begins behind its first elements: at the end of its block the address stays. -/
theorem drop_at {α : Type} {enc : α → List Value} {z : Nat} (hz : ∀ x, (enc x).length = z) (ad : Addr) (n c k : Nat) (hk : k < n) (hc : n ≤ c) (xs : List α) (hl : xs.length = n) : ∃ AD : Addr, (if c = k + 1 then some ad else some (ad.add ((k + 1) * z))) = some AD ∧
    ∀ W : World, Rd enc z W (some ad) n xs → ∀ (j : Nat) (u : Value), ((xs.drop (k + 1)).flatMap enc)[j]? = some u → W.cell? (AD.add j) = some u := by
  by_cases h : c = k + 1
  · refine ⟨ad, if_pos h, fun W _ j u hu => ?_⟩
    rw [List.drop_of_length_le (by omega)] at hu
    simp at hu
  · exact ⟨ad.add ((k + 1) * z), if_neg h, fun W hr => news_drop hz hr (k + 1)⟩

set_option maxRecDepth 100000 in
set_option maxHeartbeats 2000000 in
theorem UpkeepWithout_err (t : Task) (a8 : Int) (A : Option Addr) (n c : Nat) (A' : Option Addr) (n' c' : Nat) (w : World) (hT : TkM w t A n c A' n' c') (X : Int) (hX : (X != 0) = true) (r : Value) (r1 r2 : Int)
    (hB : ∀ W, Below w.heap.size w W → Calls Try.prog 25 #[.agg (t.val A n c A' n' c')] W fun e w' => e = .returned (.tuple #[r, .agg #[.int .i64 r1, .int .i64 r2], .int .i64 X]) ∧ Below W.heap.size W w') :
    Calls Try.prog 13 #[.agg (t.val A n c A' n' c'), .int .u8 a8] w fun e w' => e = .returned (.bool true) ∧ Below w.heap.size w w' := by
  have HB1 : Hid (Below w.heap.size w (w.alloc (.cells (t.val A n c A' n' c') 29))) := (Below.refl _ _).alloc (Nat.le_refl _) _
  have K1 : Hid (Blk (w.alloc (.cells (t.val A n c A' n' c') 29)) w.heap.size 29 (t.val A n c A' n' c')) := Blk.new _ _ _ rfl
  have C1 := Lib.hid (hB _ HB1.out)
  have C2 := Lib.hid (fun (W : World) (h : Below w.heap.size w W) => Many_any t A n c A' n' c' W (hT.below h))
  clear hT hB
  unfold Task.val at *
  go_enter Try.func13, Try.ntmps13
  go_wp2_with fail
  refine C1.out.mono ?_
  rintro e W2 ⟨rfl, hb2⟩
  have HB2 : Hid (Below w.heap.size w W2) := HB1.out.trans (hb2.mono HB1.out.size)
  have K2 := Lib.hid (K1.out.later hb2)
  clear hb2
  have q0 := K2.out.cell (i := 0) rfl
  have q1 := K2.out.cell (i := 1) rfl
  have q2 := K2.out.cell (i := 2) rfl
  have q3 := K2.out.cell (i := 3) rfl
  have q4 := K2.out.cell (i := 4) rfl
  have q5 := K2.out.cell (i := 5) rfl
  have q6 := K2.out.cell (i := 6) rfl
  have q7 := K2.out.cell (i := 7) rfl
  have q8 := K2.out.cell (i := 8) rfl
  have q9 := K2.out.cell (i := 9) rfl
  have hz := K2.out.lt
  go_wp2_with fail
  refine (C2.out _ (HB2.out.alloc HB2.out.size _)).mono ?_
  rintro e W3 ⟨b, rfl, hb3⟩
  have HB3 : Hid (Below w.heap.size w W3) := (HB2.out.alloc HB2.out.size _).trans (hb3.mono (HB2.out.alloc HB2.out.size _).size)
  clear hb3 q0 q1 q2 q3 q4 q5 q6 q7 q8 q9 hz
  cases b
  all_goals
    go_wp2_with fail
    refine (Awake_any _).mono ?_
    rintro e W7 ⟨rfl, hb7⟩
    have HB7 := Lib.hid (HB3.out.trans (hb7.mono HB3.out.size))
    clear hb7
    go_wp2_with fail
    go_ret
    exact ⟨rfl, HB7.out⟩

set_option maxRecDepth 100000 in
set_option maxHeartbeats 4000000 in
theorem UpkeepWithout_ok (t : Task) (a8 : Int) (A : Option Addr) (n c : Nat) (A' : Option Addr) (n' c' : Nat) (w : World) (hT : TkM w t A n c A' n' c') (P : List Int) (r1 r2 : Int) (hchk : (chkTask t).2.2 = 0) (hB : bestF t = some (P, (r1, r2))) (u0 : 0 ≤ a8) (u1 : a8 ≤ 255) :
    Calls Try.prog 13 #[.agg (t.val A n c A' n' c'), .int .u8 a8] w fun e w' => e = .returned (.bool true) ∧ Below w.heap.size w w' := by
  obtain ⟨i0, hi, hz0', hz1', hz2'⟩ := info_parts info61
  obtain ⟨i1, hi1, hy0, hy1, hy2⟩ := info_parts info3
  have hok := taskOK_of hchk
  have hwl := hT.hw.1
  have hPl : P.length = n' := by
    have := (plan_days hok ((best_found hok).some _ hB).1).1
    dsimp only at this
    omega
  have hn4 : n' ≤ 4 := by have := hok.len; omega
  have HB1 : Hid (Below w.heap.size w (w.alloc (.cells (t.val A n c A' n' c') 29))) := (Below.refl _ _).alloc (Nat.le_refl _) _
  have K1 : Hid (Blk (w.alloc (.cells (t.val A n c A' n' c') 29)) w.heap.size 29 (t.val A n c A' n' c')) := Blk.new _ _ _ rfl
  have C1 : Hid (∀ W, Below w.heap.size w W → Calls Try.prog 25 #[.agg (t.val A n c A' n' c')] W fun e w' => Below W.heap.size W w' ∧ ∃ Ap cp, e = .returned (.tuple #[.slice Ap n' cp, .agg #[.int .i64 r1, .int .i64 r2], .int .i64 0]) ∧ RdI w' Ap n' P ∧ n' ≤ cp) := fun W hW =>
    (best_okc t A n c A' n' c' W (hT.hr.below hW) (hT.hw.below hW) hT.hc hT.nm hchk).mono fun e w' ⟨h1, h2⟩ => by
      rw [hB] at h2
      dsimp only at h2
      rw [hPl] at h2
      exact ⟨h1, h2⟩
  have C2 := Lib.hid (fun (W : World) (h : Below w.heap.size w W) => Many_any t A n c A' n' c' W (hT.below h))
  have hcc := hT.hc
  have HT := Lib.hid hT
  have HChk := Lib.hid hchk
  have HBest := Lib.hid hB
  have HRb : Hid ((0 ≤ r1 ∧ r1 ≤ 1000) ∧ 0 ≤ r2 ∧ r2 ≤ 1000) := by
    have h := ((best_found hok).some _ hB).2.2.1
    dsimp only at h
    have hb := harmR_bounds hok P
    rw [← h] at hb
    exact ⟨⟨by omega, by omega⟩, by omega, by omega⟩
  clear hT hB hok hchk
  unfold Task.val at *
  go_enter Try.func13, Try.ntmps13
  go_wp2_with fail
  refine (C1.out _ HB1.out).mono ?_
  rintro e W2 ⟨hb2, Ap, cp, rfl, hrp, hcp⟩
  have HB2 : Hid (Below w.heap.size w W2) := HB1.out.trans (hb2.mono HB1.out.size)
  have K2 := Lib.hid (K1.out.later hb2)
  have HP2 := Lib.hid hrp
  clear hb2 hrp
  have q0 := K2.out.cell (i := 0) rfl
  have q1 := K2.out.cell (i := 1) rfl
  have q2 := K2.out.cell (i := 2) rfl
  have q3 := K2.out.cell (i := 3) rfl
  have q4 := K2.out.cell (i := 4) rfl
  have q5 := K2.out.cell (i := 5) rfl
  have q6 := K2.out.cell (i := 6) rfl
  have q7 := K2.out.cell (i := 7) rfl
  have q8 := K2.out.cell (i := 8) rfl
  have q9 := K2.out.cell (i := 9) rfl
  have hz := K2.out.lt
  go_wp2_with fail
  obtain ⟨W3, hW3⟩ : ∃ W3, W2.alloc (Obj.cells #[.int .i64 r1, .int .i64 r2] 27) = W3 := ⟨_, rfl⟩
  have hb3 : Below W2.heap.size W2 W3 := by rw [← hW3]; exact (Below.refl _ _).alloc (Nat.le_refl _) _
  have KX3 : Hid (Blk W3 W2.heap.size 27 #[.int .i64 r1, .int .i64 r2]) := by rw [← hW3]; exact Blk.new _ _ _ rfl
  rw [hW3]
  have HB3 : Hid (Below w.heap.size w W3) := HB2.out.trans (hb3.mono HB2.out.size)
  have K3 := Lib.hid (K2.out.later hb3)
  have HP3 := Lib.hid (HP2.out.below hb3)
  have HN2 : Hid (w.heap.size < W2.heap.size) := K2.out.lt
  clear hW3 hb3 q0 q1 q2 q3 q4 q5 q6 q7 q8 q9 hz HP2 K2
  refine (C2.out _ HB3.out).mono ?_
  rintro e W4 ⟨b, rfl, hb4⟩
  have HB4 : Hid (Below w.heap.size w W4) := HB3.out.trans (hb4.mono HB3.out.size)
  have K4 := Lib.hid (K3.out.later hb4)
  have KX4 := Lib.hid (KX3.out.later hb4)
  have HP4 := Lib.hid (HP3.out.below hb4)
  clear hb4 HP3 K3 KX3
  cases b
  case true =>
    go_wp2_with fail
    refine (Awake_any _).mono ?_
    rintro e WA ⟨rfl, hbA⟩
    have HBA := Lib.hid (HB4.out.trans (hbA.mono HB4.out.size))
    clear hbA
    go_wp2_with fail
    go_ret
    exact ⟨rfl, HBA.out⟩
  have q0 := K4.out.cell (i := 0) rfl
  have q1 := K4.out.cell (i := 1) rfl
  have q2 := K4.out.cell (i := 2) rfl
  have q3 := K4.out.cell (i := 3) rfl
  have q4 := K4.out.cell (i := 4) rfl
  have q5 := K4.out.cell (i := 5) rfl
  have q6 := K4.out.cell (i := 6) rfl
  have q7 := K4.out.cell (i := 7) rfl
  have q8 := K4.out.cell (i := 8) rfl
  have q9 := K4.out.cell (i := 9) rfl
  have hz := K4.out.lt
  by_cases hn0 : n' = 0
  · have hnb : ((n' : Int) == 0) = true := by simp [hn0]
    clear hn0
    go_wp2_with fail
    refine (Awake_any _).mono ?_
    rintro e WA ⟨rfl, hbA⟩
    have HBA := Lib.hid (HB4.out.trans (hbA.mono HB4.out.size))
    clear hbA
    go_wp2_with fail
    go_ret
    exact ⟨rfl, HBA.out⟩
  have hnb : ((n' : Int) == 0) = false := by simp; omega
  have hne : ((n' : Int) != (n' : Int)) = false := by simp
  obtain ⟨k, hk⟩ : ∃ k : Nat, a8 % (n' : Int) = (k : Int) := ⟨(a8 % (n' : Int)).toNat, by have := Int.emod_nonneg a8 (b := (n' : Int)) (by omega); omega⟩
  have hkn : k < n' := by have := Int.emod_lt_of_pos a8 (b := (n' : Int)) (by omega); omega
  obtain ⟨_, ad, _, hAd, _⟩ := HT.out.hw.get (i := 0) (by omega)
  subst hAd
  obtain ⟨_, pd, _, hPd, _⟩ := rdI_get HP4.out (k := 0) (by omega)
  subst hPd
  go_wp2_with fail
  rw [hk]
  have HHk := Lib.hid hk
  clear hk
  obtain ⟨W9, hW9⟩ : ∃ W9, W4.alloc (Obj.cells #[.int .i64 t.rd.first, .int .i64 t.rd.years, .slice A n c, .slice (some ad) n' c', .int .i64 t.gap, .int .i64 t.width, .int .i64 t.day.1, .int .i64 t.day.2, .int .i64 t.plan.1, .int .i64 t.plan.2] 29) = W9 := ⟨_, rfl⟩
  have hb9 : Below W4.heap.size W4 W9 := by rw [← hW9]; exact (Below.refl _ _).alloc (Nat.le_refl _) _
  have NU : Hid (Blk W9 W4.heap.size 29 #[.int .i64 t.rd.first, .int .i64 t.rd.years, .slice A n c, .slice (some ad) n' c', .int .i64 t.gap, .int .i64 t.width, .int .i64 t.day.1, .int .i64 t.day.2, .int .i64 t.plan.1, .int .i64 t.plan.2]) := by rw [← hW9]; exact Blk.new _ _ _ rfl
  rw [hW9]
  clear hW9 q0 q1 q2 q3 q4 q5 q6 q7 q8 q9 hz
  have N1 := Lib.hid (K4.out.later hb9); have NX := Lib.hid (KX4.out.later hb9)
  have HB9 : Hid (Below w.heap.size w W9) := HB4.out.trans (hb9.mono HB4.out.size)
  have HB9' := Lib.hid hb9
  have HL0 : Hid (w.heap.size < W4.heap.size) := K4.out.lt
  have HL1 : Hid (W2.heap.size < W4.heap.size) := KX4.out.lt
  clear hb9 K4 KX4 hnb hne
  obtain ⟨AD, hAD, hdr⟩ := drop_at work_len ad n' c' k hkn hcc t.works hwl
  have HDr := Lib.hid hdr
  clear hdr
  have q2' := later_cell (N1.out.cell (i := 3) rfl)
  have HS0 : Hid ((fun w' => ∃ u : Later W9, w' = u.w) W9.drew) := ⟨⟨W9.drew, (Below.refl _ _).drew⟩, rfl⟩
  refine wp_region_noPanic ?_
  refine wp_region_ord (fun w' => ∃ u : Later W9, w' = u.w) 11 (fun k => !(k == 0 || k == 5 || k == 11 || k == 12 || k == 13)) (ordOf _ [1, 2, 3, 4, 6, 7, 8, 9, 10, 0, 5, 11, 12, 13]) (by kernel_rfl) (by kernel_rfl) (ordOf_mem _ _) (fun _ _ _ _ _ h => h) ?_
  simp only [ordOf, List.filterMap_cons, List.filterMap_nil, List.getElem?_cons_zero, List.getElem?_cons_succ, Option.map_some]
  iterate 9 ((first | refine ord_quiet rfl rfl rfl HS0.out ?_ | refine ord_slice rfl _ _ _ _ _ rfl rfl HS0.out ?_); intro K hK; go_big_quiet_op; go_big_quiet_on)
  clear q2' hAD HS0
  have hbs := build25
  refine ord_op rfl ?_
  go_wp2_with fail
  refine mix_post (fun _ => ⟨⟨_, ((Below.refl _ W9).alloc (Nat.le_refl _) (.cells #[] 61)).drew⟩, rfl⟩) ?_
  clear hbs
  have HO0 : Hid ((W9.alloc (.cells #[] 61)).drew.ownsRow W9.heap.size 61 7 (.slice (some ⟨W9.heap.size, 0, none⟩) 0 0) 0 []) := own_drew (own_empty W9 W9.heap.size (Nat.le_refl _) 61 7)
  have HRaa : Hid (RdW (W9.alloc (.cells #[] 61)).drew (some ad) n' t.works) := (HT.out.hw.below HB9.out).below (((Below.refl _ W9).alloc (Nat.le_refl _) (.cells #[] 61)).drew)
  refine ord_op rfl ?_
  refine wpList_append_own _ rfl _ _ 25 rfl W9.heap.size 61 i0 (.agg #[.string ⟨#[]⟩, .int .i64 0, .int .i64 0, .int .i64 0, .int .i64 0, .int .i64 0, .int .i64 0]) 7 64 Try.underlying25 hi hz0' hz1' hz2' rfl (by decide) _ 0 [] rfl HO0.out ad k _ ((t.works.take k).flatMap Work.enc) rfl (by rw [flat_len work_len, List.length_take]; omega) (news_take work_len HRaa.out k) (enc_one work_one _) (by unfold maxLen; omega) (by omega) (by simp [World.drew]) ?_
  intro v1 W11 hown1 hgrow1 _
  have HB11 : Hid (Below W9.heap.size W9 W11) := ((Below.refl _ W9).alloc (Nat.le_refl _) (.cells #[] 61)).drew.grown hgrow1 (by simp [World.drew]) (fun j e => by cases e; exact Nat.le_refl _)
  have HO1 := Lib.hid hown1
  clear hgrow1 hown1
  go_wp2
  refine mix_post (fun _ => ⟨⟨_, HB11.out⟩, rfl⟩) ?_
  refine ord_op rfl ?_
  have HRb2 : Hid (RdW W11 (some ad) n' t.works) := (HT.out.hw.below HB9.out).below HB11.out
  refine wpList_append_own _ rfl _ _ 25 rfl W9.heap.size 61 i0 (.agg #[.string ⟨#[]⟩, .int .i64 0, .int .i64 0, .int .i64 0, .int .i64 0, .int .i64 0, .int .i64 0]) 7 64 Try.underlying25 hi hz0' hz1' hz2' rfl (by decide) _ _ _ rfl HO1.out AD (n' - (k + 1)) _ ((t.works.drop (k + 1)).flatMap Work.enc) rfl (by rw [flat_len work_len, List.length_drop]; omega) (HDr.out W11 HRb2.out) (enc_one work_one _) (by unfold maxLen; omega) (by omega) HB11.out.size ?_
  intro v2 W12 hown2 hgrow2 _
  have HB12 : Hid (Below W9.heap.size W9 W12) := HB11.out.grown hgrow2 HB11.out.size (fun j e => (HO1.out.lt j e).1)
  have HO2 : Hid (W12.ownsRow W9.heap.size 61 7 v2 (n' - 1) ((t.works.eraseIdx k).flatMap Work.enc)) := by
    have e : 0 + k + (n' - (k + 1)) = n' - 1 := by omega
    rw [e, List.nil_append, flat_app, erase_eq] at hown2
    exact hown2
  have hll : (t.works.eraseIdx k).length = n' - 1 := by rw [List.length_eraseIdx, if_pos (by omega)]; omega
  obtain ⟨A2, c2, hv2, _, hc2, _⟩ := rd_of_own work_len HO2.out hll
  subst hv2
  have HC2 := Lib.hid hc2
  clear hgrow2 hown2 HO1 HO0 HRaa HRb2 hc2 HDr
  go_wp2
  refine mix_post (fun h => absurd h (by decide)) ?_
  refine ord_op rfl ?_
  go_wp2
  refine mix_post (fun h => absurd h (by decide)) ?_
  have NU2 := NU.out.later HB12.out
  have v20 := NU2.cell (i := 3) rfl
  have v21 := NU2.frozen 3
  have HNU := Lib.hid NU2
  clear NU2
  refine ord_op rfl ?_
  go_wp2
  refine mix_post (fun h => absurd h (by decide)) ?_
  refine ord_nil (NoPanic.normal ?_)
  have HO3 : Hid ((W12.setCell ⟨W4.heap.size, 3, none⟩ (.slice A2 (n' - 1) c2)).ownsRow W9.heap.size 61 7 (.slice A2 (n' - 1) c2) (n' - 1) ((t.works.eraseIdx k).flatMap Work.enc)) := own_low HO2.out (p := ⟨W4.heap.size, 3, none⟩) NU.out.lt _
  have HU3 := Lib.hid (HNU.out.set 3 (.slice A2 (n' - 1) c2))
  have hb13 : Below W4.heap.size W4 (W12.setCell ⟨W4.heap.size, 3, none⟩ (.slice A2 (n' - 1) c2)) := (HB9'.out.trans (HB12.out.mono HB9'.out.size)).setCell (p := ⟨W4.heap.size, 3, none⟩) (Nat.le_refl _) _
  have HB13 : Hid (Below w.heap.size w (W12.setCell ⟨W4.heap.size, 3, none⟩ (.slice A2 (n' - 1) c2))) := HB4.out.trans (hb13.mono HB4.out.size)
  have HP13 := Lib.hid (HP4.out.below hb13)
  have X13 := Lib.hid ((NX.out.later HB12.out).far (p := ⟨W4.heap.size, 3, none⟩) (by have := HL1.out; dsimp only; omega) (.slice A2 (n' - 1) c2))
  clear v20 v21 hb13 HO2 HNU NU N1 NX
  generalize W12.setCell ⟨W4.heap.size, 3, none⟩ (.slice A2 (n' - 1) c2) = W13 at *
  obtain ⟨AD2, hAD2, hdr2⟩ := drop_at (enc := fun x : Int => [Value.int .i64 x]) (z := 1) (fun _ => rfl) pd n' cp k hkn hcp P hPl
  have ead : pd.add (k + 1) = ⟨pd.block, pd.off + (k + 1), none⟩ := by unfold Addr.add; simp
  rw [Nat.mul_one, ead] at hAD2
  clear ead
  have HDr2 := Lib.hid hdr2
  clear hdr2
  go_wp2_with fail
  have HS1 : Hid ((fun w' => ∃ u : Later W13, w' = u.w) W13.drew) := ⟨⟨W13.drew, (Below.refl _ _).drew⟩, rfl⟩
  refine wp_region_noPanic ?_
  refine wp_region_ord (fun w' => ∃ u : Later W13, w' = u.w) 9 (fun k => !(k == 0 || k == 4 || k == 9 || k == 10)) (ordOf _ [1, 2, 3, 5, 6, 7, 8, 0, 4, 9, 10]) (by kernel_rfl) (by kernel_rfl) (ordOf_mem _ _) (fun _ _ _ _ _ h => h) ?_
  simp only [ordOf, List.filterMap_cons, List.filterMap_nil, List.getElem?_cons_zero, List.getElem?_cons_succ, Option.map_some]
  iterate 7 ((first | refine ord_quiet rfl rfl rfl HS1.out ?_ | refine ord_slice rfl _ _ _ _ _ rfl rfl HS1.out ?_); intro K hK; go_big_quiet_op; go_big_quiet_on)
  clear hAD2 HS1
  have hbs := buildI
  refine ord_op rfl ?_
  go_wp2_with fail
  refine mix_post (fun _ => ⟨⟨_, ((Below.refl _ W13).alloc (Nat.le_refl _) (.cells #[] 3)).drew⟩, rfl⟩) ?_
  clear hbs
  have HO0 : Hid ((W13.alloc (.cells #[] 3)).drew.ownsRow W13.heap.size 3 1 (.slice (some ⟨W13.heap.size, 0, none⟩) 0 0) 0 []) := own_drew (own_empty W13 W13.heap.size (Nat.le_refl _) 3 1)
  have HRaa : Hid (RdI (W13.alloc (.cells #[] 3)).drew (some pd) n' P) := HP13.out.below (((Below.refl _ W13).alloc (Nat.le_refl _) (.cells #[] 3)).drew)
  refine ord_op rfl ?_
  refine wpList_append_own _ rfl _ _ 33 rfl W13.heap.size 3 i1 (.int .i64 0) 1 8 Try.underlying33 hi1 hy0 hy1 hy2 rfl (by decide) _ 0 [] rfl HO0.out pd k _ ((P.take k).flatMap (fun x : Int => [Value.int .i64 x])) rfl (by rw [flat_len (enc := fun x : Int => [Value.int .i64 x]) (k := 1) (fun _ => rfl), List.length_take]; omega) (news_take (enc := fun x : Int => [Value.int .i64 x]) (k := 1) (fun _ => rfl) HRaa.out k) (enc_one int_one _) (by unfold maxLen; omega) (by omega) (by simp [World.drew]) ?_
  intro v4 W14 hown4 hgrow4 _
  have HB14 : Hid (Below W13.heap.size W13 W14) := ((Below.refl _ W13).alloc (Nat.le_refl _) (.cells #[] 3)).drew.grown hgrow4 (by simp [World.drew]) (fun j e => by cases e; exact Nat.le_refl _)
  have HO4 := Lib.hid hown4
  clear hgrow4 hown4
  go_wp2
  refine mix_post (fun _ => ⟨⟨_, HB14.out⟩, rfl⟩) ?_
  refine ord_op rfl ?_
  refine wpList_append_own _ rfl _ _ 33 rfl W13.heap.size 3 i1 (.int .i64 0) 1 8 Try.underlying33 hi1 hy0 hy1 hy2 rfl (by decide) _ _ _ rfl HO4.out AD2 (n' - (k + 1)) _ ((P.drop (k + 1)).flatMap (fun x : Int => [Value.int .i64 x])) rfl (by rw [flat_len (enc := fun x : Int => [Value.int .i64 x]) (k := 1) (fun _ => rfl), List.length_drop]; omega) (HDr2.out W14 (HP13.out.below HB14.out)) (enc_one int_one _) (by unfold maxLen; omega) (by omega) HB14.out.size ?_
  intro v5 W15 hown5 hgrow5 _
  have HB15 : Hid (Below W13.heap.size W13 W15) := HB14.out.grown hgrow5 HB14.out.size (fun j e => (HO4.out.lt j e).1)
  have HO5 : Hid (W15.ownsRow W13.heap.size 3 1 v5 (n' - 1) ((P.eraseIdx k).flatMap (fun x : Int => [Value.int .i64 x]))) := by
    have e : 0 + k + (n' - (k + 1)) = n' - 1 := by omega
    rw [e, List.nil_append, flat_app, erase_eq] at hown5
    exact hown5
  have hpl5 : (P.eraseIdx k).length = n' - 1 := by rw [List.length_eraseIdx, if_pos (by omega)]; omega
  obtain ⟨A4, c4, hv5, hr5, _, _⟩ := rd_of_own (enc := fun x : Int => [Value.int .i64 x]) (k := 1) (fun _ => rfl) HO5.out hpl5
  subst hv5
  have HQ := Lib.hid hr5
  clear hgrow5 hown5 HO4 HO0 HRaa hr5 HDr2
  go_wp2
  refine mix_post (fun h => absurd h (by decide)) ?_
  refine ord_op rfl ?_
  go_wp2
  refine mix_post (fun h => absurd h (by decide)) ?_
  refine ord_nil (NoPanic.normal ?_)
  have HB15w : Hid (Below w.heap.size w W15) := HB13.out.trans (HB15.out.mono HB13.out.size)
  have KU := Lib.hid (HU3.out.later HB15.out)
  have X15 := Lib.hid (X13.out.later HB15.out)
  have HT15 : Hid (TkM W15 (t.less k) A n c A2 (n' - 1) c2) := by
    obtain ⟨A3, c3, hv3, hrd3, _, _⟩ := rd_of_own work_len (HO3.out.kept (grown_of_below HB15.out none) (Classical.em _)) hll
    injection hv3 with ha3 _ hc3
    subst ha3 hc3
    exact ⟨HT.out.hr.below HB15w.out, hrd3, HC2.out, fun i v hv => HT.out.nm (upI k i) v (by rw [← less_get]; exact hv)⟩
  obtain ⟨_, hsh, himp⟩ := best_less k HChk.out HBest.out
  dsimp only at hsh himp
  have hchk' := chk_less k HChk.out
  have hokU := taskOK_of hchk'
  have C3 : Hid (Calls Try.prog 32 #[.agg #[.int .i64 t.rd.first, .int .i64 t.rd.years, .slice A n c, .slice A2 (n' - 1) c2, .int .i64 t.gap, .int .i64 t.width, .int .i64 t.day.1, .int .i64 t.day.2, .int .i64 t.plan.1, .int .i64 t.plan.2], .slice A4 (n' - 1) c4] W15 fun e w' => ∃ Ay cy, e = .returned (.tuple #[.slice Ay (harmL (t.less k) (P.eraseIdx k)).length cy, .agg #[.int .i64 (harmR (t.less k) (P.eraseIdx k)).1, .int .i64 (harmR (t.less k) (P.eraseIdx k)).2], .int .i64 0]) ∧ Below W15.heap.size W15 w') :=
    (Years_any (t.less k) (P.eraseIdx k) A n c A2 (n' - 1) c2 A4 (n' - 1) c4 W15 HT15.out HQ.out).mono fun e w' h => by
      obtain ⟨Ay, cy, h1, _, h3⟩ := years_of h
      have ey : yOf (t.less k) (P.eraseIdx k) = (harmL (t.less k) (P.eraseIdx k), harmR (t.less k) (P.eraseIdx k), 0) := if_pos hsh
      rw [ey] at h1
      exact ⟨Ay, cy, h1, h3⟩
  have HImp := Lib.hid himp
  have HRu := Lib.hid (fun z => harmR_bounds hokU z)
  have C4 : Hid (∀ W, Below W15.heap.size W15 W → judgeL (t.less k) (P.eraseIdx k) = [] → Calls Try.prog 34 #[.agg #[.int .i64 t.rd.first, .int .i64 t.rd.years, .slice A n c, .slice A2 (n' - 1) c2, .int .i64 t.gap, .int .i64 t.width, .int .i64 t.day.1, .int .i64 t.day.2, .int .i64 t.plan.1, .int .i64 t.plan.2], .slice A4 (n' - 1) c4] W fun e w' => ∃ Ay cy, e = .returned (.tuple #[.slice Ay 0 cy, .int .i64 0]) ∧ Below W.heap.size W w') := fun W hW hj =>
    (Judge_any (t.less k) (P.eraseIdx k) A n c A2 (n' - 1) c2 A4 (n' - 1) c4 W (HT15.out.below hW) (HQ.out.below hW)).mono fun e w' h => by
      obtain ⟨Ay, cy, h1, h3⟩ := judge_of h
      have ey : jOf (t.less k) (P.eraseIdx k) = ([], 0) := by unfold jOf; rw [if_pos hsh, hj]
      rw [ey] at h1
      exact ⟨Ay, cy, h1, h3⟩
  have C5 : Hid (∀ W z, Below W15.heap.size W15 W → bestF (t.less k) = some z → Calls Try.prog 25 #[.agg #[.int .i64 t.rd.first, .int .i64 t.rd.years, .slice A n c, .slice A2 (n' - 1) c2, .int .i64 t.gap, .int .i64 t.width, .int .i64 t.day.1, .int .i64 t.day.2, .int .i64 t.plan.1, .int .i64 t.plan.2]] W fun e w' => Below W.heap.size W w' ∧ ∃ Ay cy, e = .returned (.tuple #[.slice Ay z.1.length cy, .agg #[.int .i64 z.2.1, .int .i64 z.2.2], .int .i64 0])) := fun W z hW hz =>
    (best_ok (t.less k) A n c A2 (n' - 1) c2 W (HT15.out.below hW).hr (HT15.out.below hW).hw HT15.out.hc HT15.out.nm hchk').mono fun e w' ⟨h1, h2⟩ => by
      rw [hz] at h2
      obtain ⟨Ay, cy, h3, _⟩ := h2
      exact ⟨h1, Ay, cy, h3⟩
  have HZr : Hid (∀ z, bestF (t.less k) = some z → (0 ≤ z.2.1 ∧ z.2.1 ≤ 1000) ∧ 0 ≤ z.2.2 ∧ z.2.2 ≤ 1000) := fun z hz => by
    have h := ((best_found hokU).some _ hz).2.2.1
    have hb := harmR_bounds hokU z.1
    rw [← h] at hb
    exact ⟨⟨by omega, by omega⟩, by omega, by omega⟩
  clear hsh himp hchk' hokU HT15 HQ HO3 HO5 HU3 X13
  generalize harmL (t.less k) (P.eraseIdx k) = HLs at *
  generalize (harmR (t.less k) (P.eraseIdx k)).1 = y1 at *
  generalize (harmR (t.less k) (P.eraseIdx k)).2 = y2 at *
  have q0 := KU.out.cell (i := 0) rfl
  have q1 := KU.out.cell (i := 1) rfl
  have q2 := KU.out.cell (i := 2) rfl
  have q3 := KU.out.cell (i := 3) rfl
  have q4 := KU.out.cell (i := 4) rfl
  have q5 := KU.out.cell (i := 5) rfl
  have q6 := KU.out.cell (i := 6) rfl
  have q7 := KU.out.cell (i := 7) rfl
  have q8 := KU.out.cell (i := 8) rfl
  have q9 := KU.out.cell (i := 9) rfl
  go_wp2_with fail
  refine C3.out.mono ?_
  rintro e W17 ⟨Ay, cy, rfl, hb17⟩
  have HB17 := Lib.hid hb17
  have KU17 := Lib.hid (KU.out.later hb17)
  have X17 := Lib.hid (X15.out.later hb17)
  clear hb17 q0 q1 q2 q3 q4 q5 q6 q7 q8 q9 KU X15
  have p0 := X17.out.cell (i := 1) rfl
  have p1 := X17.out.lt
  have p2 : W2.heap.size ≠ W17.heap.size := by omega
  cases hreq : (y2 != r2)
  · have HRq : Hid (y2 = r2) := by have h : (y2 != r2) = false := hreq; rw [bne_eq_false_iff_eq] at h; exact h
    obtain ⟨hjn, z, hz, hgz⟩ := HImp.out HRq.out
    have HZ := Lib.hid hz
    have hzr := HZr.out z hz
    obtain ⟨Z, z1, z2⟩ := z
    dsimp only at hzr hgz
    have HJn := Lib.hid hjn
    clear hz hjn
    have HU18 : Hid (Blk (W17.alloc (Obj.cells #[.int .i64 y1, .int .i64 y2] 27)) W4.heap.size 29 _) := KU17.out.alloc _
    have q0 := KU17.out.cell (i := 0) rfl
    have q1 := KU17.out.cell (i := 1) rfl
    have q2 := KU17.out.cell (i := 2) rfl
    have q3 := KU17.out.cell (i := 3) rfl
    have q4 := KU17.out.cell (i := 4) rfl
    have q5 := KU17.out.cell (i := 5) rfl
    have q6 := KU17.out.cell (i := 6) rfl
    have q7 := KU17.out.cell (i := 7) rfl
    have q8 := KU17.out.cell (i := 8) rfl
    have q9 := KU17.out.cell (i := 9) rfl
    have qz := KU17.out.lt
    go_wp2_with fail
    have HB18 : Hid (Below W15.heap.size W15 (W17.alloc (Obj.cells #[.int .i64 y1, .int .i64 y2] 27))) := HB17.out.alloc HB17.out.size _
    have X18 := Lib.hid (X17.out.alloc (Obj.cells #[.int .i64 y1, .int .i64 y2] 27))
    refine (C4.out _ HB18.out HJn.out).mono ?_
    rintro e W19 ⟨Aj, cj, rfl, hb19⟩
    have HB19 : Hid (Below W15.heap.size W15 W19) := HB18.out.trans (hb19.mono HB18.out.size)
    have U19 := Lib.hid (HU18.out.later hb19)
    have X19 := Lib.hid (X18.out.later hb19)
    clear hb19 q0 q1 q2 q3 q4 q5 q6 q7 q8 q9 qz p0 p1 p2
    have q0 := U19.out.cell (i := 0) rfl
    have q1 := U19.out.cell (i := 1) rfl
    have q2 := U19.out.cell (i := 2) rfl
    have q3 := U19.out.cell (i := 3) rfl
    have q4 := U19.out.cell (i := 4) rfl
    have q5 := U19.out.cell (i := 5) rfl
    have q6 := U19.out.cell (i := 6) rfl
    have q7 := U19.out.cell (i := 7) rfl
    have q8 := U19.out.cell (i := 8) rfl
    have q9 := U19.out.cell (i := 9) rfl
    go_wp2_with fail
    refine (C5.out _ _ HB19.out HZ.out).mono ?_
    rintro e W20 ⟨hb20, Az, cz, rfl⟩
    have HB20 : Hid (Below W15.heap.size W15 W20) := HB19.out.trans (hb20.mono HB19.out.size)
    have X20 := Lib.hid (X19.out.later hb20)
    clear hb20 q0 q1 q2 q3 q4 q5 q6 q7 q8 q9
    have p0 := X20.out.cell (i := 0) rfl
    have p1 := X20.out.cell (i := 1) rfl
    have p2 := X20.out.lt
    have hr := HRb.out
    have HB21 : Hid (Below W15.heap.size W15 (W20.alloc (Obj.cells #[.int .i64 z1, .int .i64 z2] 27))) := HB20.out.alloc HB20.out.size _
    have HG : Hid (Calls Try.prog 37 #[.agg #[.int .i64 z1, .int .i64 z2], .agg #[.int .i64 r1, .int .i64 r2]] (W20.alloc (Obj.cells #[.int .i64 z1, .int .i64 z2] 27)) fun e w' => e = .returned (.bool false) ∧ Below (W20.alloc (Obj.cells #[.int .i64 z1, .int .i64 z2] 27)).heap.size (W20.alloc (Obj.cells #[.int .i64 z1, .int .i64 z2] 27)) w') := by
      have h := lawGreater_any (z1, z2) (r1, r2) (W20.alloc (Obj.cells #[.int .i64 z1, .int .i64 z2] 27)) (by dsimp only; omega) (by dsimp only; omega) (by dsimp only; omega) (by dsimp only; omega) (by dsimp only; omega) (by dsimp only; omega) (by dsimp only; omega) (by dsimp only; omega)
      rw [hgz] at h
      exact h
    go_wp2_with fail
    refine HG.out.mono ?_
    rintro e W22 ⟨rfl, hb22⟩
    have HB22 : Hid (Below w.heap.size w W22) := (HB15w.out.trans (HB21.out.mono HB15w.out.size)).trans (hb22.mono (HB15w.out.trans (HB21.out.mono HB15w.out.size)).size)
    clear hb22
    go_wp2_with fail
    refine (Awake_any _).mono ?_
    rintro e WA ⟨rfl, hbA⟩
    have HBA := Lib.hid (HB22.out.trans (hbA.mono HB22.out.size))
    clear hbA
    go_wp2_with fail
    go_ret
    exact ⟨rfl, HBA.out⟩
  · have h18 : Below W15.heap.size W15 (W17.alloc (Obj.cells #[.int .i64 y1, .int .i64 y2] 27)) := HB17.out.alloc HB17.out.size _
    have HB18 := Lib.hid (HB15w.out.trans (h18.mono HB15w.out.size))
    clear h18
    go_wp2_with fail
    refine (Awake_any _).mono ?_
    rintro e WA ⟨rfl, hbA⟩
    have HBA := Lib.hid (HB18.out.trans (hbA.mono HB18.out.size))
    clear hbA
    go_wp2_with fail
    go_ret
    exact ⟨rfl, HBA.out⟩

theorem UpkeepWithout_any (t : Task) (a8 : Int) (A : Option Addr) (n c : Nat) (A' : Option Addr) (n' c' : Nat) (w : World) (hT : TkM w t A n c A' n' c') (u0 : 0 ≤ a8) (u1 : a8 ≤ 255) :
    Calls Try.prog 13 #[.agg (t.val A n c A' n' c'), .int .u8 a8] w fun e w' => e = .returned (.bool true) ∧ Below w.heap.size w w' := by
  by_cases he : (chkTask t).2.2 = 0
  · cases hB : bestF t with
    | none =>
      refine UpkeepWithout_err t a8 A n c A' n' c' w hT 9 (by decide) (.slice none 0 0) 0 0 fun W hW => (best_ok t A n c A' n' c' W (hT.hr.below hW) (hT.hw.below hW) hT.hc hT.nm he).mono fun e w' ⟨h1, h2⟩ => ?_
      rw [hB] at h2
      exact ⟨h2, h1⟩
    | some q =>
      obtain ⟨P, r1, r2⟩ := q
      exact UpkeepWithout_ok t a8 A n c A' n' c' w hT P r1 r2 he hB u0 u1
  · have he' : ((chkTask t).2.2 != 0) = true := by simpa using he
    exact UpkeepWithout_err t a8 A n c A' n' c' w hT _ he' (.slice none 0 0) 0 0 fun W hW => best_err t A n c A' n' c' W (hT.hr.below hW) (hT.hw.below hW) hT.hc hT.nm he'
end Go.Proofs.Ytkkajemahehoaaa
