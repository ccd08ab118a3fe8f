/- The walks by which a plan is held against the histories, where no history is above the limit. -/
import Derived.Test.YtjdaigffgfnhaaaGreatKh
import Derived.Test.YtjdaigffgfnhaaaGreatEx
namespace Go.Proofs.YtjdaigffgfnhaaaGreat
open Go.RowKit

set_option maxRecDepth 100000 in
set_option maxHeartbeats 2000000 in
theorem above_any (t : Clt) (m : ClM) (gb : Nat) (w : World) (hg : GmB w t m gb) (hr : ClR w t m) (hl : ∀ v ∈ t.hv, v ≤ t.limit) (i : Nat) (hi : i < m.nh) :
    Calls Tryz.prog 64 #[.pointer (some ⟨gb, 0, none⟩), .int .i64 0, .agg #[.int .i64 (-1), .int .i64 (-1)], .int .i64 i] w fun e w' => e = .returned (.bool false) ∧ Below w.heap.size w w' := by
  obtain ⟨v, ad, hv, _, _⟩ := rdI_get hr.vals hi
  have hle : v ≤ t.limit := hl v (List.mem_of_getElem? hv)
  have HC : Hid (∀ W, Below w.heap.size w W → Calls Tryz.prog 74 #[.pointer (some ⟨gb, 0, none⟩), .int .i64 0, .agg #[.int .i64 (-1), .int .i64 (-1)], .int .i64 i] W fun e w' => e = .returned (.tuple #[.agg #[.int .i64 v, .int .i64 v], .bool true]) ∧ Below W.heap.size W w') :=
    fun W hb => inside_any t m gb W (hg.later hb) (hr.below hb) i v hv hi
  obtain ⟨mb, hG⟩ := hg
  have HG := Lib.hid hG; clear hG hr hl hv
  obtain ⟨A, n, c, A', n', c', Af, nf, cf, hb, ch, Ah, nh, cv, Ar, cr⟩ := m
  obtain ⟨bas, filled, hv, out, limit, delay⟩ := t
  dsimp only [Clt.game] at *
  go_enter Tryz.func64, Tryz.ntmps64
  go_wp2_with (go_at_call 74; refine (HC.out _ ((Below.refl _ w).alloc (Nat.le_refl _) _)).mono ?_; rintro e W2 ⟨rfl, hb2⟩; have HB2 : Hid (Below w.heap.size w W2) := ((Below.refl _ w).alloc (Nat.le_refl _) _).trans (hb2.mono (by simp)); clear hb2)
  obtain ⟨W3, hW3⟩ : ∃ W3, W2.alloc (Obj.cells #[Value.int IntKind.i64 v, Value.int IntKind.i64 v] 158) = W3 := ⟨_, rfl⟩
  have HB3 : Hid (Below w.heap.size w W3) := by rw [← hW3]; exact HB2.out.alloc HB2.out.size _
  have S3 : Hid (Blk W3 W2.heap.size 158 #[.int .i64 v, .int .i64 v]) := by rw [← hW3]; exact Blk.new _ _ _ rfl
  rw [hW3]
  clear hW3 HC
  have G3 := Lib.hid (HG.out.later HB3.out)
  have z1 := later_cell (S3.out.cell (i := 1) rfl)
  have z9 := later_cell (G3.out.cell (i := 9) rfl)
  have hgt : decide (limit < v) = false := by simp; omega
  refine wp_region_later (by kernel_rfl) (by kernel_rfl) ?_
  repeat (first | go_big_quiet_skip | (go_big_quiet_want; go_big_quiet_op; go_big_quiet_on))
  refine wpQuiet_nil ?_
  intro _ hw'
  obtain ⟨u, hu⟩ := hw'
  subst hu
  clear z1 z9
  go_wp2_with fail
  go_ret
  exact ⟨rfl, HB3.out.trans (u.h.mono HB3.out.size)⟩

set_option maxRecDepth 100000 in
set_option maxHeartbeats 2000000 in
theorem fails1_any (t : Clt) (m : ClM) (gb Bg Bh Bp : Nat) (w : World) (hg : GmB w t m gb) (hr : ClR w t m) (hl : ∀ v ∈ t.hv, v ≤ t.limit) (i : Nat) (v : Int) (hi : i < m.nh)
    (xg : w.cell? ⟨Bg, 0, none⟩ = some (.pointer (some ⟨gb, 0, none⟩))) (xh : w.cell? ⟨Bh, 0, none⟩ = some (.int .i64 0)) (xp : w.cell? ⟨Bp, 0, none⟩ = some (.int .i64 (-1))) (xq : w.cell? ⟨Bp, 1, none⟩ = some (.int .i64 (-1))) :
    Calls Tryz.prog 63 #[.int .i64 i, .int .i64 v, .pointer (some ⟨Bg, 0, none⟩), .pointer (some ⟨Bh, 0, none⟩), .pointer (some ⟨Bp, 0, none⟩)] w fun e w' => e = .returned (.bool false) ∧ Below w.heap.size w w' := by
  have HC := Lib.hid (above_any t m gb w hg hr hl i hi)
  clear hg hr hl
  go_enter Tryz.func63, Tryz.ntmps63
  go_wp2_with (go_at_call 64; refine HC.out.mono ?_; rintro e W2 ⟨rfl, hb2⟩; have HB2 := Lib.hid hb2; clear hb2)
  go_ret
  exact ⟨rfl, HB2.out⟩

set_option maxHeartbeats 1000000 in
theorem whereN_any (t : Clt) (m : ClM) (gb Bg Bh Bp : Nat) (w : World) (hg : GmB w t m gb) (hr : ClR w t m) (hl : ∀ v ∈ t.hv, v ≤ t.limit)
    (xg : w.cell? ⟨Bg, 0, none⟩ = some (.pointer (some ⟨gb, 0, none⟩))) (xh : w.cell? ⟨Bh, 0, none⟩ = some (.int .i64 0)) (xp : w.cell? ⟨Bp, 0, none⟩ = some (.int .i64 (-1))) (xq : w.cell? ⟨Bp, 1, none⟩ = some (.int .i64 (-1))) :
    Calls Tryz.prog 23 #[.slice m.Ar m.nh m.cr, .func (.func 63) #[] #[.pointer (some ⟨Bg, 0, none⟩), .pointer (some ⟨Bh, 0, none⟩), .pointer (some ⟨Bp, 0, none⟩)]] w fun e w' => e = .returned (.int .i64 (-1)) ∧ Below w.heap.size w w' := by
  have HC : Hid (∀ W (i : Nat) (v : Int), Below w.heap.size w W → i < m.nh → Calls Tryz.prog 63 #[.int .i64 i, .int .i64 v, .pointer (some ⟨Bg, 0, none⟩), .pointer (some ⟨Bh, 0, none⟩), .pointer (some ⟨Bp, 0, none⟩)] W fun e w' => e = .returned (.bool false) ∧ Below W.heap.size W w') :=
    fun W i v hb hi => fails1_any t m gb Bg Bh Bp W (hg.later hb) (hr.below hb) hl i v hi (cell_below hb xg) (cell_below hb xh) (cell_below hb xp) (cell_below hb xq)
  have HR := Lib.hid hr.river
  have hnn := hr.bigh
  clear hg hr hl xg xh xp xq
  obtain ⟨A, n, c, A', n', c', Af, nf, cf, hb, ch, Ah, nh, cv, Ar, cr⟩ := m
  dsimp only at *
  go_enter Tryz.func23, Tryz.ntmps23
  go_wp2
  go_loopw [9] (fun q wr => ∃ k : Nat, k ≤ nh ∧ q = .int .i64 k ∧ Below w.heap.size w wr) (fun q _ => nh - (intOf q).toNat)
  case atStart => exact ⟨0, Nat.zero_le _, rfl, Below.refl _ _⟩
  case round =>
    obtain ⟨k, hk, rfl, hB⟩ := hrel
    have HB := Lib.hid hB; clear hB
    by_cases hlt : k < nh
    · obtain ⟨v, ad, hv, rfl, c0⟩ := rdI_get (HR.out.below HB.out) hlt
      have HC1 := Lib.hid (HC.out wr k v HB.out hlt)
      clear hv
      go_wp2_with (go_at_call 63; refine HC1.out.mono ?_; rintro e w2 ⟨rfl, hb2⟩; have HB2 := Lib.hid hb2; clear hb2)
      go_roundw
      case rel => exact ⟨k + 1, by omega, by go_num, HB.out.trans (HB2.out.mono HB.out.size)⟩
      case measure => simp [intOf]; omega
    · go_wp2
      go_ret
      exact ⟨rfl, HB.out⟩

set_option maxHeartbeats 1000000 in
theorem fails_any (t : Clt) (m : ClM) (gb : Nat) (w : World) (hg : GmB w t m gb) (hr : ClR w t m) (hl : ∀ v ∈ t.hv, v ≤ t.limit) :
    Calls Tryz.prog 36 #[.pointer (some ⟨gb, 0, none⟩), .int .i64 0, .agg #[.int .i64 (-1), .int .i64 (-1)]] w fun e w' => e = .returned (.int .i64 (-1)) ∧ Below w.heap.size w w' := by
  have HC : Hid (∀ W Bg Bh Bp, Below w.heap.size w W → W.cell? ⟨Bg, 0, none⟩ = some (.pointer (some ⟨gb, 0, none⟩)) → W.cell? ⟨Bh, 0, none⟩ = some (.int .i64 0) → W.cell? ⟨Bp, 0, none⟩ = some (.int .i64 (-1)) → W.cell? ⟨Bp, 1, none⟩ = some (.int .i64 (-1)) →
      Calls Tryz.prog 23 #[.slice m.Ar m.nh m.cr, .func (.func 63) #[] #[.pointer (some ⟨Bg, 0, none⟩), .pointer (some ⟨Bh, 0, none⟩), .pointer (some ⟨Bp, 0, none⟩)]] W fun e w' => e = .returned (.int .i64 (-1)) ∧ Below W.heap.size W w') :=
    fun W Bg Bh Bp hb h1 h2 h3 h4 => whereN_any t m gb Bg Bh Bp W (hg.later hb) (hr.below hb) hl h1 h2 h3 h4
  obtain ⟨mb, hG⟩ := hg
  have HG := Lib.hid hG; clear hG hr hl
  obtain ⟨A, n, c, A', n', c', Af, nf, cf, hb, ch, Ah, nh, cv, Ar, cr⟩ := m
  obtain ⟨bas, filled, hv, out, limit, delay⟩ := t
  dsimp only [Clt.game] at *
  go_enter Tryz.func36, Tryz.ntmps36
  have z7 : (((w.alloc (Obj.cells #[.pointer (some ⟨gb, 0, none⟩)] 97)).alloc (Obj.cells #[.int .i64 0] 3)).alloc (Obj.cells #[.int .i64 (-1), .int .i64 (-1)] 48)).cell? ⟨gb, 7, none⟩ = some (.slice Ar nh cr) := cell_alloc (cell_alloc (cell_alloc (HG.out.cell (i := 7) rfl) _) _) _
  have hB : Below w.heap.size w (((w.alloc (Obj.cells #[.pointer (some ⟨gb, 0, none⟩)] 97)).alloc (Obj.cells #[.int .i64 0] 3)).alloc (Obj.cells #[.int .i64 (-1), .int .i64 (-1)] 48)) := (((Below.refl _ w).alloc (Nat.le_refl _) _).alloc (by simp) _).alloc (by simp; omega) _
  have HC1 := Lib.hid (HC.out _ w.heap.size (w.heap.size + 1) (w.heap.size + 1 + 1) hB (cell_alloc (cell_alloc (cell_at_new rfl rfl) _) _) (cell_alloc (cell_at_new (by simp) rfl) _) (cell_at_new (by simp) rfl) (cell_at_new (by simp) rfl))
  have HB := Lib.hid hB; clear hB HC
  go_wp2_with (go_at_call 23; refine HC1.out.mono ?_; rintro e W2 ⟨rfl, hb2⟩; have HB2 : Hid (Below w.heap.size w W2) := HB.out.trans (hb2.mono HB.out.size); clear hb2)
  go_ret
  exact ⟨rfl, HB2.out⟩
end Go.Proofs.YtjdaigffgfnhaaaGreat
