/- The peaks of all histories; Decide; Holds. -/
import Derived.Test.YtjdaigffgfnhaaaGreatKl
namespace Go.Proofs.YtjdaigffgfnhaaaGreat
open Go.RowKit

theorem loadDec {w : World} {g : Nat} {x y z u : Value} (h : w.cell? ⟨g, 0, none⟩ = some x) (h' : w.cell? ⟨g, 1, none⟩ = some y) (h2 : w.cell? ⟨g, 2, none⟩ = some z) (h3 : w.cell? ⟨g, 3, none⟩ = some u) : (loadVar 52 ⟨g, 0, none⟩).run Tryz.prog w = .ok (.agg #[x, y, z, u]) w := by
  simp [loadVar, Tryz.isAgg52, Tryz.sizeOf52, go_sem, h, h', h2, h3]
theorem loadErr {w : World} {g : Nat} {x : Value} (h : w.cell? ⟨g, 0, none⟩ = some x) : (loadVar 37 ⟨g, 0, none⟩).run Tryz.prog w = .ok x w := by
  simp [loadVar, Tryz.isAgg37, Tryz.sizeOf37, go_sem, h]

set_option maxRecDepth 100000 in
set_option maxHeartbeats 2000000 in
theorem peaks_any (t : Clt) (m : ClM) (rb : Nat) (w : World) (hg : RlB w t m rb) (hr : ClR w t m) (hnh : m.nh ≤ 60) :
    Calls Tryz.prog 28 #[.pointer (some ⟨rb, 0, none⟩), .agg #[.int .i64 (-1), .int .i64 (-1)]] w fun e w' => (∃ A n c, e = .returned (.slice A n c)) ∧ Below w.heap.size w w' := by
  have HC : Hid (∀ W, Below w.heap.size w W → Calls Tryz.prog 59 #[.pointer (some ⟨rb, 0, none⟩), .int .i64 0, .agg #[.int .i64 (-1), .int .i64 (-1)]] W fun e w' => (∃ a b : Int, e = .returned (.agg #[.int .i64 a, .int .i64 b])) ∧ Below W.heap.size W w') :=
    fun W hb => peak_any t m rb W (hg.later hb) (hr.below hb) hnh
  obtain ⟨gb, hR, mb, hG⟩ := hg
  have HG := Lib.hid hG; have HL := Lib.hid hR; clear hG hR hr
  obtain ⟨A, n, c, A', n', c', Af, nf, cf, hb, ch, Ah, nh, cv, Ar, cr⟩ := m
  obtain ⟨bas, filled, hv, out, limit, delay⟩ := t
  dsimp only [Clt.game] at *
  have b0 := cell_alloc (HL.out.cell (i := 0) rfl) (Obj.cells #[.int .i64 (-1), .int .i64 (-1)] 48)
  have b6 := cell_alloc (HG.out.cell (i := 6) rfl) (Obj.cells #[.int .i64 (-1), .int .i64 (-1)] 48)
  go_enter Tryz.func28, Tryz.ntmps28
  go_wp2_with fail
  obtain ⟨W1, hW1⟩ : ∃ W1, w.alloc (Obj.cells #[.int .i64 (-1), .int .i64 (-1)] 48) = W1 := ⟨_, rfl⟩
  have HB1 : Hid (Below w.heap.size w W1) := by rw [← hW1]; exact (Below.refl _ w).alloc (Nat.le_refl _) _
  have P1 : Hid (Blk W1 w.heap.size 48 #[.int .i64 (-1), .int .i64 (-1)]) := by rw [← hW1]; exact Blk.new _ _ _ rfl
  rw [hW1] at b0 b6 ⊢
  clear hW1
  go_loopw [4, 15] (fun a q wr => ∃ k : Nat, k ≤ 1 ∧ (∃ A n c, a = .slice A n c) ∧ (k = 0 → a = .slice none 0 0) ∧ q = .int .i64 k ∧ Below W1.heap.size W1 wr) (fun _ q _ => 1 - (intOf q).toNat)
  case atStart => exact ⟨0, by omega, ⟨_, _, _, rfl⟩, fun _ => rfl, rfl, Below.refl _ _⟩
  case round =>
    obtain ⟨k, hk, ⟨Aa, na, ca, rfl⟩, hz, rfl, hB⟩ := hrel
    have HB := Lib.hid hB; clear hB
    have HBR : Hid (Below w.heap.size w wr) := HB1.out.trans (HB.out.mono HB1.out.size)
    have PR := Lib.hid (P1.out.later HB.out)
    by_cases hlt : k < 1
    · obtain rfl : k = 0 := by omega
      obtain ⟨rfl, rfl, rfl⟩ : Aa = none ∧ na = 0 ∧ ca = 0 := by have := hz rfl; cases this; exact ⟨rfl, rfl, rfl⟩
      clear hz
      have p0 := PR.out.cell (i := 0) rfl
      have p1 := PR.out.cell (i := 1) rfl
      have HC1 := Lib.hid (HC.out wr HBR.out)
      go_wp2_with (go_at_call 59; refine HC1.out.mono ?_; rintro e W2 ⟨⟨pa, pb, rfl⟩, hb2⟩; have HB2 := Lib.hid hb2; clear hb2)
      have HBW2 : Hid (Below W1.heap.size W1 W2) := HB.out.trans (HB2.out.mono HB.out.size)
      refine ⟨⟨1, by omega, ⟨_, _, _, rfl⟩, fun h => (by cases h), rfl, ((HBW2.out.alloc HBW2.out.size _).alloc (by have := HBW2.out.size; simp; omega) _).drew⟩, by simp [intOf]⟩
    · obtain rfl : k = 1 := by omega
      go_wp2
      go_ret
      exact ⟨⟨_, _, _, rfl⟩, HBR.out⟩

set_option maxRecDepth 100000 in
set_option maxHeartbeats 2000000 in
theorem decide_any' (t : Clt) (m : ClM) (w : World) (hr : ClR w t m) (hok : t.err = 0) (hlim : ∀ v ∈ t.hv, v ≤ t.limit) (hnh : m.nh ≤ 60) :
    Calls Tryz.prog 7 #[.agg (t.val m), .agg #[.int .i64 1, .int .i64 60]] w fun e w' => (∃ A n c A' n' c', e = .returned (.tuple #[.agg #[.int .i64 (-1), .int .i64 (-1), .slice A n c, .slice A' n' c'], .int .i64 0])) ∧ Below w.heap.size w w' := by
  have HW : Hid (∀ W, Below w.heap.size w W → Calls Tryz.prog 25 #[.agg (t.val m), .agg #[.int .i64 1, .int .i64 60]] W fun e w' => ∃ rb, e = .returned (.tuple #[.pointer (some ⟨rb, 0, none⟩), .int .i64 0]) ∧ RlB w' t m rb ∧ Below W.heap.size W w') := fun W hb => with_any t m W (hr.below hb) hok hlim hnh
  have HA : Hid (∀ rb W, Below w.heap.size w W → RlB W t m rb → Calls Tryz.prog 26 #[.pointer (some ⟨rb, 0, none⟩)] W fun e w' => (∃ x : Int, e = .returned (.tuple #[.bool false, .int .i64 x])) ∧ Below W.heap.size W w') := fun rb W hb hg => allowed_any t m rb W hg (hr.below hb) hlim
  have HP : Hid (∀ rb W, Below w.heap.size w W → RlB W t m rb → Calls Tryz.prog 28 #[.pointer (some ⟨rb, 0, none⟩), .agg #[.int .i64 (-1), .int .i64 (-1)]] W fun e w' => (∃ A n c, e = .returned (.slice A n c)) ∧ Below W.heap.size W w') := fun rb W hb hg => peaks_any t m rb W hg (hr.below hb) hnh
  clear hr hok hlim hnh
  obtain ⟨A, n, c, A', n', c', Af, nf, cf, hb, ch, Ah, nh, cv, Ar, cr⟩ := m
  obtain ⟨bas, filled, hv, out, limit, delay⟩ := t
  dsimp only [Clt.val] at *
  go_enter Tryz.func7, Tryz.ntmps7
  go_wp2_with fail
  obtain ⟨W1, hW1⟩ : ∃ W1, (((w.alloc (Obj.cells #[.slice A n c, .int .i64 bas.leak, .int .i64 bas.crest, .int .i64 bas.over, .slice A' n' c', .slice Af nf cf, .slice (some ⟨hb, 0, none⟩) 1 ch, .slice Ar nh cr, .int .i64 out, .int .i64 limit, .int .i64 delay] 34)).alloc (Obj.cells #[.int .i64 1, .int .i64 60] 56)).alloc (Obj.cells #[.int .i64 0, .int .i64 0, .slice none 0 0, .slice none 0 0] 52)).alloc (Obj.cells #[.int .i64 0] 37) = W1 := ⟨_, rfl⟩
  have HB1 : Hid (Below w.heap.size w W1) := by rw [← hW1]; exact ((((Below.refl _ w).alloc (Nat.le_refl _) _).alloc (by simp) _).alloc (by simp; omega) _).alloc (by simp; omega) _
  have D1 : Hid (Blk W1 (w.heap.size + 1 + 1) 52 #[.int .i64 0, .int .i64 0, .slice none 0 0, .slice none 0 0]) := by rw [← hW1]; exact (Blk.new _ _ _ (by simp)).alloc _
  have E1 : Hid (Blk W1 (w.heap.size + 1 + 1 + 1) 37 #[.int .i64 0]) := by rw [← hW1]; exact Blk.new _ _ _ (by simp)
  rw [hW1]
  clear hW1
  refine (HW.out W1 HB1.out).mono ?_
  rintro e W2 ⟨rb, rfl, hR, hb2⟩
  have HR := Lib.hid hR; have HB2 := Lib.hid hb2; clear hR hb2 HW
  have hB3 : Below W2.heap.size W2 (W2.alloc (Obj.cells #[.pointer (some ⟨rb, 0, none⟩)] 87)) := (Below.refl _ _).alloc (Nat.le_refl _) _
  have HB3' : Hid (Below w.heap.size w (W2.alloc (Obj.cells #[.pointer (some ⟨rb, 0, none⟩)] 87))) := HB1.out.trans ((HB2.out.trans (hB3.mono HB2.out.size)).mono HB1.out.size)
  have HA3 := Lib.hid (HA.out rb _ HB3'.out (HR.out.later hB3))
  have HB3 := Lib.hid hB3; clear hB3
  go_wp2_with (go_at_call 26; refine HA3.out.mono ?_; rintro e W4 ⟨⟨x, rfl⟩, hb4⟩; have HX4 := Lib.hid hb4; clear hb4)
  have HB24 : Hid (Below W2.heap.size W2 W4) := HB3.out.trans (HX4.out.mono HB3.out.size)
  have HB14 : Hid (Below W1.heap.size W1 W4) := HB2.out.trans (HB24.out.mono HB2.out.size)
  have HB4 : Hid (Below w.heap.size w W4) := HB1.out.trans (HB14.out.mono HB1.out.size)
  have D4 := Lib.hid (D1.out.later HB14.out)
  have E4 := Lib.hid (E1.out.later HB14.out)
  have R4 := Lib.hid (HR.out.later HB24.out)
  have Y4 : Hid (Blk W4 W2.heap.size 87 #[.pointer (some ⟨rb, 0, none⟩)]) := (Blk.new W2 _ _ rfl).later HX4.out
  clear HB3 HB3' HA3 HX4 HB24 HB14 D1 E1 HR HA HB2 HB1
  have x0 := later_cell (Y4.out.cell (i := 0) rfl)
  have HS0 : Hid ((fun w' => ∃ u : Later W4, w' = u.w) W4.drew) := ⟨⟨W4.drew, (Below.refl _ _).drew⟩, rfl⟩
  have HBd : Hid (Below W4.heap.size W4 W4.drew) := (Below.refl _ _).drew
  refine wp_region_tr (fun w' => ∃ u : Later W4, w' = u.w) 5 (.qu 1 (.on 0 (.on 2 (.on 3 (.on 4 (.on 5 (.on 6 .leaf))))))) (by kernel_rfl) (by kernel_rfl) ?_
  simp only [TrN.fill, List.getElem?_cons_zero, List.getElem?_cons_succ]
  refine tr_quiet rfl rfl HS0.out ?_; intro K hK; go_big_quiet_op; go_big_quiet_on
  clear x0
  refine tr_on ?_
  go_wp2_with (go_at_call 27; refine (never_any _).mono ?_; rintro e W5 ⟨rfl, hb⟩; have HB5 : Hid (Below W4.heap.size W4 W5) := HBd.out.trans (hb.mono HBd.out.size); clear hb)
  refine mix_post (fun _ => ⟨⟨W5, HB5.out⟩, rfl⟩) ?_
  refine tr_on ?_
  go_wp2_with (go_at_call 27; refine (never_any _).mono ?_; rintro e W6 ⟨rfl, hb⟩; have HB6 : Hid (Below W4.heap.size W4 W6) := HB5.out.trans (hb.mono HB5.out.size); clear hb)
  refine mix_post (fun _ => ⟨⟨W6, HB6.out⟩, rfl⟩) ?_
  refine tr_on ?_
  go_wp2_with (go_at_call 28; refine (HP.out rb _ (HB4.out.trans (HB6.out.mono HB4.out.size)) (R4.out.later HB6.out)).mono ?_; rintro e W7 ⟨⟨Ap, np, cp, rfl⟩, hb⟩; have HB7 : Hid (Below W4.heap.size W4 W7) := HB6.out.trans (hb.mono HB6.out.size); clear hb)
  refine mix_post (fun _ => ⟨⟨W7, HB7.out⟩, rfl⟩) ?_
  refine tr_on ?_
  go_wp2_with fail
  refine mix_post (fun _ => ⟨⟨W7, HB7.out⟩, rfl⟩) ?_
  have D6 := Lib.hid (D4.out.later HB7.out)
  have E6 := Lib.hid (E4.out.later HB7.out)
  have HB8 : Hid (Below w.heap.size w W7) := HB4.out.trans (HB7.out.mono HB4.out.size)
  have f0 := D6.out.frozen 0
  have f1 := D6.out.frozen 1
  have f2 := D6.out.frozen 2
  have f3 := D6.out.frozen 3
  have c0 := D6.out.cell (i := 0) rfl
  have c1 := D6.out.cell (i := 1) rfl
  have c2 := D6.out.cell (i := 2) rfl
  have c3 := D6.out.cell (i := 3) rfl
  have g0 := E6.out.frozen 0
  have e0 := E6.out.cell (i := 0) rfl
  have hl6 := E6.out.lt
  refine tr_on ?_
  go_wp2_with fail
  refine mix_post (fun h => absurd h (by decide)) ?_
  refine tr_on ?_
  go_wp2_with fail
  refine mix_post (fun h => absurd h (by decide)) ?_
  refine tr_leaf (NoPanic.normal ?_)
  go_wp2_with fail
  generalize hW8 : ((((W7.setCell ⟨w.heap.size + 1 + 1, 0, none⟩ (.int .i64 (-1))).setCell ⟨w.heap.size + 1 + 1, 1, none⟩ (.int .i64 (-1))).setCell ⟨w.heap.size + 1 + 1, 2, none⟩ (.slice Ap np cp)).setCell ⟨w.heap.size + 1 + 1, 3, none⟩ (.slice none 0 0)) = W8
  have D8 : Hid (Blk W8 (w.heap.size + 1 + 1) 52 #[.int .i64 (-1), .int .i64 (-1), .slice Ap np cp, .slice none 0 0]) := by rw [← hW8]; exact (((D6.out.set 0 (.int .i64 (-1))).set 1 (.int .i64 (-1))).set 2 (.slice Ap np cp)).set 3 (.slice none 0 0)
  have E8 : Hid (Blk W8 (w.heap.size + 1 + 1 + 1) 37 #[.int .i64 0]) := by rw [← hW8]; exact (((E6.out.far (by simp) _).far (by simp) _).far (by simp) _).far (by simp) _
  have HB9 : Hid (Below w.heap.size w W8) := by rw [← hW8]; exact (((HB8.out.setCell (by dsimp only; omega) _).setCell (by dsimp only; omega) _).setCell (by dsimp only; omega) _).setCell (by dsimp only; omega) _
  clear hW8
  have D9 := D8.out.far (p := ⟨w.heap.size + 1 + 1 + 1, 0, none⟩) (by simp) (.int .i64 0)
  have E9 := E8.out.set 0 (.int .i64 0)
  exact bodyPost_ret (results_cc rfl rfl (loadDec (D9.cell (i := 0) rfl) (D9.cell (i := 1) rfl) (D9.cell (i := 2) rfl) (D9.cell (i := 3) rfl)) rfl (loadErr (E9.cell (i := 0) rfl))) rfl ⟨⟨_, _, _, _, _, _, rfl⟩, HB9.out.setCell (by dsimp only; omega) _⟩
end Go.Proofs.YtjdaigffgfnhaaaGreat

namespace Go.Proofs.YtjdaigffgfnhaaaGreat
open Go.RowKit

set_option maxRecDepth 100000 in
set_option maxHeartbeats 2000000 in
theorem holds_any' (t : Clt) (m : ClM) (w : World) (hr : ClR w t m) (hok : t.err = 0) (hlim : ∀ v ∈ t.hv, v ≤ t.limit) (hnh : m.nh ≤ 60) :
    Calls Tryz.prog 8 #[.agg (t.val m), .agg #[.int .i64 (-1), .int .i64 (-1)]] w fun e w' => ∃ ad c, e = .returned (.tuple #[.slice (some ad) 1 c, .int .i64 0]) ∧ w'.cell? ad = some (.bool true) ∧ Below w.heap.size w w' := by
  have HW : Hid (∀ W, Below w.heap.size w W → Calls Tryz.prog 34 #[.agg (t.val m)] W (BeginPost t m W)) := fun W hb => begin_any t m W (hr.below hb) hok hlim hnh
  have HF : Hid (∀ gb W, Below w.heap.size w W → GmB W t m gb → Calls Tryz.prog 36 #[.pointer (some ⟨gb, 0, none⟩), .int .i64 0, .agg #[.int .i64 (-1), .int .i64 (-1)]] W fun e w' => e = .returned (.int .i64 (-1)) ∧ Below W.heap.size W w') := fun gb W hb hg => fails_any t m gb W hg (hr.below hb) hlim
  clear hr hok hlim hnh
  obtain ⟨A, n, c, A', n', c', Af, nf, cf, hb, ch, Ah, nh, cv, Ar, cr⟩ := m
  obtain ⟨bas, filled, hv, out, limit, delay⟩ := t
  dsimp only [Clt.val] at *
  go_enter Tryz.func8, Tryz.ntmps8
  go_wp2_with fail
  obtain ⟨W1, hW1⟩ : ∃ W1, (w.alloc (Obj.cells #[.slice A n c, .int .i64 bas.leak, .int .i64 bas.crest, .int .i64 bas.over, .slice A' n' c', .slice Af nf cf, .slice (some ⟨hb, 0, none⟩) 1 ch, .slice Ar nh cr, .int .i64 out, .int .i64 limit, .int .i64 delay] 34)).alloc (Obj.cells #[.int .i64 (-1), .int .i64 (-1)] 48) = W1 := ⟨_, rfl⟩
  have HB1 : Hid (Below w.heap.size w W1) := by rw [← hW1]; exact ((Below.refl _ w).alloc (Nat.le_refl _) _).alloc (by simp) _
  have T1 : Hid (Blk W1 w.heap.size 34 #[.slice A n c, .int .i64 bas.leak, .int .i64 bas.crest, .int .i64 bas.over, .slice A' n' c', .slice Af nf cf, .slice (some ⟨hb, 0, none⟩) 1 ch, .slice Ar nh cr, .int .i64 out, .int .i64 limit, .int .i64 delay]) := by rw [← hW1]; exact (Blk.new _ _ _ rfl).alloc _
  have P1 : Hid (Blk W1 (w.heap.size + 1) 48 #[.int .i64 (-1), .int .i64 (-1)]) := by rw [← hW1]; exact Blk.new _ _ _ (by simp)
  rw [hW1]
  clear hW1
  refine (HW.out W1 HB1.out).mono ?_
  rintro e W2 ⟨gb, rfl, hG, hb2⟩
  have HG := Lib.hid hG
  have HB2 : Hid (Below w.heap.size w W2) := HB1.out.trans (hb2.mono HB1.out.size)
  have T2 := Lib.hid (T1.out.later hb2)
  have P2 := Lib.hid (P1.out.later hb2)
  clear hG hb2 HW T1 P1 HB1
  have p0 := P2.out.cell (i := 0) rfl
  have p1 := P2.out.cell (i := 1) rfl
  go_wp2_with (go_at_call 35; refine (stranger_any gb _).mono ?_; rintro e W3 ⟨rfl, hb3⟩; have HB3 := Lib.hid hb3; have q6 := (T2.out.later hb3).cell (i := 6) rfl; clear hb3)
  clear p0 p1
  go_loopw [4, 24] (fun a q wr => ∃ k : Nat, k ≤ 1 ∧ (k = 0 → a = .slice none 0 0) ∧ (k = 1 → ∃ ad c, a = .slice (some ad) 1 c ∧ wr.cell? ad = some (.bool true)) ∧ q = .int .i64 k ∧ Below W3.heap.size W3 wr) (fun _ q _ => 1 - (intOf q).toNat)
  case atStart => exact ⟨0, by omega, fun _ => rfl, fun h => (by cases h), rfl, Below.refl _ _⟩
  case round =>
    obtain ⟨k, hk, h0, h1, rfl, hB⟩ := hrel
    have HB23 : Hid (Below W2.heap.size W2 wr) := HB3.out.trans (hB.mono HB3.out.size)
    have HB := Lib.hid hB; clear hB
    have HBR : Hid (Below w.heap.size w wr) := HB2.out.trans (HB23.out.mono HB2.out.size)
    have PR := Lib.hid (P2.out.later HB23.out)
    by_cases hlt : k < 1
    · obtain rfl : k = 0 := by omega
      obtain rfl := h0 rfl
      clear h0 h1
      have p0 := PR.out.cell (i := 0) rfl
      have p1 := PR.out.cell (i := 1) rfl
      have HC1 := Lib.hid (HF.out gb wr HBR.out (HG.out.later HB23.out))
      go_wp2_with (go_at_call 36; refine HC1.out.mono ?_; rintro e W5 ⟨rfl, hb5⟩; have HB5 := Lib.hid hb5; clear hb5)
      have HBW : Hid (Below W3.heap.size W3 W5) := HB.out.trans (HB5.out.mono HB.out.size)
      refine ⟨⟨1, by omega, fun h => (by cases h), fun _ => ⟨_, _, rfl, ?_⟩, rfl, ((HBW.out.alloc HBW.out.size _).alloc (by have := HBW.out.size; simp; omega) _).drew⟩, by simp [intOf]⟩
      exact cell_at_new (by simp) (by rw [Array.getElem?_append_left (by simp)]; rfl)
    · obtain rfl : k = 1 := by omega
      obtain ⟨ad, c1, rfl, hc⟩ := h1 rfl
      have HC := Lib.hid hc; clear hc h0 h1
      go_wp2
      go_ret2
      exact ⟨_, _, rfl, HC.out, HBR.out⟩
end Go.Proofs.YtjdaigffgfnhaaaGreat
