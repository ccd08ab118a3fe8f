/- The walks by which closing is called for, where no history is above the limit. -/
import Derived.Test.YtjdaigffgfnhaaaGreatKg
import Derived.Test.YtjdaigffgfnhaaaGreatKi
namespace Go.Proofs.YtjdaigffgfnhaaaGreat
open Go.RowKit

set_option maxRecDepth 100000 in
set_option maxHeartbeats 2000000 in
theorem highs1_any (t : Clt) (m : ClM) (rb Br : Nat) (w : World) (hg : RlB w t m rb) (i : Nat) (v : Int) (hl : v ≤ t.limit)
    (xr : w.cell? ⟨Br, 0, none⟩ = some (.pointer (some ⟨rb, 0, none⟩))) :
    Calls Tryz.prog 72 #[.int .i64 i, .int .i64 v, .pointer (some ⟨Br, 0, none⟩)] w fun e w' => e = .returned (.bool false) ∧ Below w.heap.size w w' := by
  obtain ⟨gb, hR, mb, hG⟩ := hg
  obtain ⟨A, n, c, A', n', c', Af, nf, cf, hb, ch, Ah, nh, cv, Ar, cr⟩ := m
  obtain ⟨bas, filled, hv, out, limit, delay⟩ := t
  dsimp only [Clt.game] at *
  have r0 := hR.cell (i := 0) rfl
  have g9 := hG.cell (i := 9) rfl
  clear hR hG
  have hgt : decide (limit < v) = false := by simp; omega
  clear hl
  go_enter Tryz.func72, Tryz.ntmps72
  go_wp2
  go_ret
  exact ⟨by simp, Below.refl _ _⟩

set_option maxHeartbeats 1000000 in
theorem whereH_any (t : Clt) (m : ClM) (rb Br : Nat) (w : World) (hg : RlB w t m rb) (hr : ClR w t m) (hl : ∀ v ∈ t.hv, v ≤ t.limit)
    (xr : w.cell? ⟨Br, 0, none⟩ = some (.pointer (some ⟨rb, 0, none⟩))) :
    Calls Tryz.prog 23 #[.slice m.Ah m.nh m.cv, .func (.func 72) #[] #[.pointer (some ⟨Br, 0, none⟩)]] w fun e w' => e = .returned (.int .i64 (-1)) ∧ Below w.heap.size w w' := by
  have HC : Hid (∀ W (i : Nat) (v : Int), Below w.heap.size w W → t.hv[i]? = some v → Calls Tryz.prog 72 #[.int .i64 i, .int .i64 v, .pointer (some ⟨Br, 0, none⟩)] W fun e w' => e = .returned (.bool false) ∧ Below W.heap.size W w') :=
    fun W i v hb hi => highs1_any t m rb Br W (hg.later hb) i v (hl v (List.mem_of_getElem? hi)) (cell_below hb xr)
  have HR := Lib.hid hr.vals
  have hnn := hr.bigh
  clear hg hr hl xr
  obtain ⟨A, n, c, A', n', c', Af, nf, cf, hb, ch, Ah, nh, cv, Ar, cr⟩ := m
  dsimp only at *
  go_enter Tryz.func23, Tryz.ntmps23
  go_wp2
  go_loopw [9] (fun q wr => ∃ k : Nat, k ≤ nh ∧ q = .int .i64 k ∧ Below w.heap.size w wr) (fun q _ => nh - (intOf q).toNat)
  case atStart => exact ⟨0, Nat.zero_le _, rfl, Below.refl _ _⟩
  case round =>
    obtain ⟨k, hk, rfl, hB⟩ := hrel
    have HB := Lib.hid hB; clear hB
    by_cases hlt : k < nh
    · obtain ⟨v, ad, hv, rfl, c0⟩ := rdI_get (HR.out.below HB.out) hlt
      have HC1 := Lib.hid (HC.out wr k v HB.out hv)
      clear hv
      go_wp2_with (go_at_call 72; refine HC1.out.mono ?_; rintro e w2 ⟨rfl, hb2⟩; have HB2 := Lib.hid hb2; clear hb2)
      go_roundw
      case rel => exact ⟨k + 1, by omega, by go_num, HB.out.trans (HB2.out.mono HB.out.size)⟩
      case measure => simp [intOf]; omega
    · go_wp2
      go_ret
      exact ⟨rfl, HB.out⟩

set_option maxRecDepth 100000 in
set_option maxHeartbeats 2000000 in
theorem stranger_any (gb : Nat) (w : World) :
    Calls Tryz.prog 35 #[.pointer (some ⟨gb, 0, none⟩), .agg #[.int .i64 (-1), .int .i64 (-1)]] w fun e w' => e = .returned (.bool false) ∧ Below w.heap.size w w' := by
  go_enter Tryz.func35, Tryz.ntmps35
  go_wp2_with fail
  obtain ⟨W1, hW1⟩ : ∃ W1, w.alloc (Obj.cells #[Value.int IntKind.i64 (-1), Value.int IntKind.i64 (-1)] 48) = W1 := ⟨_, rfl⟩
  have HB1 : Hid (Below w.heap.size w W1) := by rw [← hW1]; exact (Below.refl _ w).alloc (Nat.le_refl _) _
  have P1 : Hid (Blk W1 w.heap.size 48 #[.int .i64 (-1), .int .i64 (-1)]) := by rw [← hW1]; exact Blk.new _ _ _ rfl
  rw [hW1]
  clear hW1
  have z0 := later_cell (P1.out.cell (i := 0) rfl)
  have z1 := later_cell (P1.out.cell (i := 1) rfl)
  refine wp_region_later (by kernel_rfl) (by kernel_rfl) ?_
  repeat (first | go_big_quiet_skip | (go_big_quiet_want; go_big_quiet_op; first | go_big_quiet_on | (apply Exists.intro; refine ⟨fun _ => ?_, ?_⟩; (· go_at_call 27; with_reducible exact later_calls (never_any _)); go_big_quiet_on)))
  refine wpQuiet_nil ?_
  intro _ hw'
  obtain ⟨u, hu⟩ := hw'
  subst hu
  clear z0 z1
  go_wp2_with fail
  go_ret
  exact ⟨rfl, HB1.out.trans (u.h.mono HB1.out.size)⟩

set_option maxHeartbeats 2000000 in
theorem with_any (t : Clt) (m : ClM) (w : World) (hr : ClR w t m) (hok : t.err = 0) (hlim : ∀ v ∈ t.hv, v ≤ t.limit) (hnh : m.nh ≤ 60) :
    Calls Tryz.prog 25 #[.agg (t.val m), .agg #[.int .i64 1, .int .i64 60]] w fun e w' => ∃ rb, e = .returned (.tuple #[.pointer (some ⟨rb, 0, none⟩), .int .i64 0]) ∧ RlB w' t m rb ∧ Below w.heap.size w w' := by
  have HC : Hid (∀ W, Below w.heap.size w W → Calls Tryz.prog 34 #[.agg (t.val m)] W (BeginPost t m W)) := fun W hb => begin_any t m W (hr.below hb) hok hlim hnh
  clear hr hok hlim hnh
  obtain ⟨A, n, c, A', n', c', Af, nf, cf, hb, ch, Ah, nh, cv, Ar, cr⟩ := m
  obtain ⟨bas, filled, hv, out, limit, delay⟩ := t
  dsimp only [Clt.val] at *
  go_enter Tryz.func25, Tryz.ntmps25
  go_wp2_with fail
  obtain ⟨W1, hW1⟩ : ∃ W1, (w.alloc (Obj.cells #[.slice A n c, .int .i64 bas.leak, .int .i64 bas.crest, .int .i64 bas.over, .slice A' n' c', .slice Af nf cf, .slice (some ⟨hb, 0, none⟩) 1 ch, .slice Ar nh cr, .int .i64 out, .int .i64 limit, .int .i64 delay] 34)).alloc (Obj.cells #[.int .i64 1, .int .i64 60] 56) = W1 := ⟨_, rfl⟩
  have HB1 : Hid (Below w.heap.size w W1) := by rw [← hW1]; exact ((Below.refl _ w).alloc (Nat.le_refl _) _).alloc (by simp) _
  have P1 : Hid (Blk W1 (w.heap.size + 1) 56 #[.int .i64 1, .int .i64 60]) := by rw [← hW1]; exact Blk.new _ _ _ (by simp)
  rw [hW1]
  clear hW1
  refine (HC.out W1 HB1.out).mono ?_
  rintro e W2 ⟨gb, rfl, hG, hb2⟩
  have HG := Lib.hid hG; clear hG HC
  have P2 := Lib.hid (P1.out.later hb2)
  have HB2 : Hid (Below w.heap.size w W2) := HB1.out.trans (hb2.mono HB1.out.size)
  clear hb2 P1 HB1
  have y0 := P2.out.cell (i := 0) rfl
  have y1 := P2.out.cell (i := 1) rfl
  have o1 : outB 1 1 8 = false := by decide
  have o2 : outB 60 0 60 = false := by decide
  go_wp2_with (go_at_call 19; (first | (with_reducible refine Calls.mono (cout_is o1 _) ?_) | (with_reducible refine Calls.mono (cout_is o2 _) ?_)); rintro e w' ⟨rfl, rfl⟩)
  go_ret2
  exact ⟨_, rfl, ⟨gb, Blk.new _ _ _ rfl, ⟨_, HG.out.choose_spec.alloc _⟩⟩, HB2.out.alloc HB2.out.size _⟩

set_option maxRecDepth 100000 in
set_option maxHeartbeats 2000000 in
theorem highs_any (t : Clt) (m : ClM) (rb : Nat) (w : World) (hg : RlB w t m rb) (hr : ClR w t m) (hl : ∀ v ∈ t.hv, v ≤ t.limit) :
    Calls Tryz.prog 58 #[.pointer (some ⟨rb, 0, none⟩)] w fun e w' => e = .returned (.tuple #[.slice none 0 0, .int .i64 m.nh]) ∧ Below w.heap.size w w' := by
  have HC : Hid (∀ W Br, Below w.heap.size w W → W.cell? ⟨Br, 0, none⟩ = some (.pointer (some ⟨rb, 0, none⟩)) → Calls Tryz.prog 23 #[.slice m.Ah m.nh m.cv, .func (.func 72) #[] #[.pointer (some ⟨Br, 0, none⟩)]] W fun e w' => e = .returned (.int .i64 (-1)) ∧ Below W.heap.size W w') :=
    fun W Br hb hx => whereH_any t m rb Br W (hg.later hb) (hr.below hb) hl hx
  have HR := Lib.hid hr; clear hr
  obtain ⟨gb, hR, mb, hG⟩ := hg
  obtain ⟨A, n, c, A', n', c', Af, nf, cf, hb, ch, Ah, nh, cv, Ar, cr⟩ := m
  obtain ⟨bas, filled, hv, out, limit, delay⟩ := t
  dsimp only [Clt.game] at *
  have HG := Lib.hid hG; have HL := Lib.hid hR; clear hG hR hl
  go_enter Tryz.func58, Tryz.ntmps58
  have b0 := cell_alloc (HL.out.cell (i := 0) rfl) (Obj.cells #[.pointer (some ⟨rb, 0, none⟩)] 87)
  have b6 := cell_alloc (HG.out.cell (i := 6) rfl) (Obj.cells #[.pointer (some ⟨rb, 0, none⟩)] 87)
  have b12 := cell_alloc (HG.out.cell (i := 12) rfl) (Obj.cells #[.pointer (some ⟨rb, 0, none⟩)] 87)
  go_wp2_with fail
  obtain ⟨W1, hW1⟩ : ∃ W1, w.alloc (Obj.cells #[.pointer (some ⟨rb, 0, none⟩)] 87) = W1 := ⟨_, rfl⟩
  have HB1 : Hid (Below w.heap.size w W1) := by rw [← hW1]; exact (Below.refl _ w).alloc (Nat.le_refl _) _
  have P1 : Hid (Blk W1 w.heap.size 87 #[.pointer (some ⟨rb, 0, none⟩)]) := by rw [← hW1]; exact Blk.new _ _ _ rfl
  rw [hW1] at b0 b6 b12 ⊢
  clear hW1
  go_loopw [2, 3, 23] (fun a b q wr => ∃ k : Nat, k ≤ 1 ∧ a = .slice none 0 0 ∧ b = .int .i64 nh ∧ q = .int .i64 k ∧ Below W1.heap.size W1 wr) (fun _ _ q _ => 1 - (intOf q).toNat)
  case atStart => exact ⟨0, by omega, rfl, rfl, rfl, Below.refl _ _⟩
  case round =>
    obtain ⟨k, hk, rfl, rfl, rfl, hB⟩ := hrel
    have HB := Lib.hid hB; clear hB
    have HBR : Hid (Below w.heap.size w wr) := HB1.out.trans (HB.out.mono HB1.out.size)
    have PR := Lib.hid (P1.out.later HB.out)
    by_cases hlt : k < 1
    · obtain rfl : k = 0 := by omega
      have s0 : wr.cell? ⟨hb, 0, none⟩ = some (.int .i64 0) := cell_below HBR.out HR.out.h0
      have s1 : wr.cell? ⟨hb, 1, none⟩ = some (.slice Ah nh cv) := cell_below HBR.out HR.out.h1
      have hBa : Below wr.heap.size wr (wr.alloc (Obj.cells #[.int .i64 0, .slice Ah nh cv] 42)) := (Below.refl _ _).alloc (Nat.le_refl _) _
      have HC1 := Lib.hid (HC.out _ w.heap.size (HBR.out.trans (hBa.mono HBR.out.size)) ((PR.out.later hBa).cell (i := 0) rfl))
      have HBA := Lib.hid hBa; clear hBa
      go_wp2_with (go_at_call 23; refine HC1.out.mono ?_; rintro e W2 ⟨rfl, hb2⟩; have HB2 : Hid (Below wr.heap.size wr W2) := HBA.out.trans (hb2.mono HBA.out.size); clear hb2)
      go_roundw
      case rel => exact ⟨1, by omega, rfl, rfl, by go_num, HB.out.trans (HB2.out.mono HB.out.size)⟩
      case measure => simp [intOf]
    · obtain rfl : k = 1 := by omega
      go_wp2
      go_ret2
      exact ⟨rfl, HBR.out⟩

set_option maxRecDepth 100000 in
set_option maxHeartbeats 2000000 in
theorem allowed_any (t : Clt) (m : ClM) (rb : Nat) (w : World) (hg : RlB w t m rb) (hr : ClR w t m) (hl : ∀ v ∈ t.hv, v ≤ t.limit) :
    Calls Tryz.prog 26 #[.pointer (some ⟨rb, 0, none⟩)] w fun e w' => (∃ x : Int, e = .returned (.tuple #[.bool false, .int .i64 x])) ∧ Below w.heap.size w w' := by
  have HC := Lib.hid (highs_any t m rb w hg hr hl)
  obtain ⟨gb, hR, _⟩ := hg
  have HL := Lib.hid hR; clear hR hr hl
  obtain ⟨A, n, c, A', n', c', Af, nf, cf, hb, ch, Ah, nh, cv, Ar, cr⟩ := m
  dsimp only at *
  go_enter Tryz.func26, Tryz.ntmps26
  go_wp2_with (go_at_call 58; refine HC.out.mono ?_; rintro e W2 ⟨rfl, hb2⟩; have HB2 := Lib.hid hb2; clear hb2)
  have L2 := Lib.hid (HL.out.later HB2.out)
  have z1 := later_cell (L2.out.cell (i := 1) rfl)
  have z2 := later_cell (L2.out.cell (i := 2) rfl)
  refine wp_region_later (by kernel_rfl) (by kernel_rfl) ?_
  repeat (first | go_big_quiet_skip | (go_big_quiet_want; go_big_quiet_op; go_big_quiet_on))
  refine wpQuiet_nil ?_
  intro _ hw'
  obtain ⟨u, hu⟩ := hw'
  subst hu
  clear z1 z2
  go_wp2_with fail
  go_ret2
  exact ⟨⟨_, rfl⟩, HB2.out.trans (u.h.mono HB2.out.size)⟩
end Go.Proofs.YtjdaigffgfnhaaaGreat
