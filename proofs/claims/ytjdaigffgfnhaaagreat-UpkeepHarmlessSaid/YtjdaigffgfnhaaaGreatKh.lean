/- The small walks of a decision, where no history is above the limit: what is inside. -/
import Derived.Test.YtjdaigffgfnhaaaGreatKc
namespace Go.Proofs.YtjdaigffgfnhaaaGreat
open Go.RowKit

theorem results_cs {P : Program} {fn : Func} {p q : Tmp} {tp : TypeId} (h : fn.results = #[.cell p tp, .tmp q]) {tmps : Array Value} {w : World} {a : Addr} {x y : Value} (ha : tmps.getD p undef = .pointer (some a)) (h1 : (loadVar tp a).run P w = .ok x w) (hy : tmps.getD q undef = y) :
    (results fn tmps).run P w = .ok (.tuple #[x, y]) w := by
  rw [Array.getD_eq_getD_getElem?] at ha hy
  simp only [results, h]
  simp [ha, hy, asAddr, h1]
theorem results_cc {P : Program} {fn : Func} {p q : Tmp} {tp tq : TypeId} (h : fn.results = #[.cell p tp, .cell q tq]) {tmps : Array Value} {w : World} {a b : Addr} {x y : Value} (ha : tmps.getD p undef = .pointer (some a)) (h1 : (loadVar tp a).run P w = .ok x w)
    (hb : tmps.getD q undef = .pointer (some b)) (h2 : (loadVar tq b).run P w = .ok y w) :
    (results fn tmps).run P w = .ok (.tuple #[x, y]) w := by
  rw [Array.getD_eq_getD_getElem?] at ha hb
  simp only [results, h]
  simp [ha, hb, asAddr, h1, h2]
theorem loadSpan {w : World} {g : Nat} {x y : Value} (h : w.cell? ⟨g, 0, none⟩ = some x) (h' : w.cell? ⟨g, 1, none⟩ = some y) : (loadVar 158 ⟨g, 0, none⟩).run Tryz.prog w = .ok (.agg #[x, y]) w := by
  simp [loadVar, Tryz.isAgg158, Tryz.sizeOf158, go_sem, h, h']

set_option maxRecDepth 100000 in
set_option maxHeartbeats 2000000 in
theorem inside_any (t : Clt) (m : ClM) (gb : Nat) (w : World) (hg : GmB w t m gb) (hr : ClR w t m) (i : Nat) (v : Int) (hv : t.hv[i]? = some v) (hi : i < m.nh) :
    Calls Tryz.prog 74 #[.pointer (some ⟨gb, 0, none⟩), .int .i64 0, .agg #[.int .i64 (-1), .int .i64 (-1)], .int .i64 i] w fun e w' => e = .returned (.tuple #[.agg #[.int .i64 v, .int .i64 v], .bool true]) ∧ Below w.heap.size w w' := by
  have HR := Lib.hid hr; clear hr
  have HV := Lib.hid hv; clear hv
  obtain ⟨mb, hG⟩ := hg
  have HG := Lib.hid hG; clear hG
  obtain ⟨A, n, c, A', n', c', Af, nf, cf, hb, ch, Ah, nh, cv, Ar, cr⟩ := m
  obtain ⟨bas, filled, hv, out, limit, delay⟩ := t
  dsimp only [Clt.game] at *
  go_enter Tryz.func74, Tryz.ntmps74
  go_wp2_with fail
  obtain ⟨W1, hW1⟩ : ∃ W1, (w.alloc (Obj.cells #[Value.int IntKind.i64 (-1), Value.int IntKind.i64 (-1)] 48)).alloc (Obj.cells #[Value.int IntKind.i64 0, Value.int IntKind.i64 0] 158) = W1 := ⟨_, rfl⟩
  have HB1 : Hid (Below w.heap.size w W1) := by rw [← hW1]; exact ((Below.refl _ w).alloc (Nat.le_refl _) _).alloc (by simp) _
  have P1 : Hid (Blk W1 w.heap.size 48 #[.int .i64 (-1), .int .i64 (-1)]) := by rw [← hW1]; exact (Blk.new _ _ _ rfl).alloc _
  have S1 : Hid (Blk W1 (w.heap.size + 1) 158 #[.int .i64 0, .int .i64 0]) := by rw [← hW1]; exact Blk.new _ _ _ (by simp)
  rw [hW1]
  clear hW1
  have G1 := Lib.hid (HG.out.later HB1.out)
  have z0 := later_cell (P1.out.cell (i := 0) rfl)
  have z1 := later_cell (G1.out.cell (i := 11) rfl)
  have z2 := later_cell (G1.out.cell (i := 10) rfl)
  refine wp_region_later (by kernel_rfl) (by kernel_rfl) ?_
  repeat (first | go_big_quiet_skip | (go_big_quiet_want; go_big_quiet_op; go_big_quiet_on))
  refine wpQuiet_nil ?_
  intro _ hw'
  obtain ⟨u, hu⟩ := hw'
  subst hu
  clear z0 z1 z2
  have P2 := Lib.hid (P1.out.later u.h)
  have S2 := Lib.hid (S1.out.later u.h)
  have G2 := Lib.hid (G1.out.later u.h)
  have HB2 : Hid (Below w.heap.size w u.w) := HB1.out.trans (u.h.mono HB1.out.size)
  obtain ⟨W2, hW2⟩ : ∃ W2, u.w = W2 := ⟨_, rfl⟩
  rw [hW2] at P2 S2 G2 HB2 ⊢
  clear hW2 u P1 S1 G1 HB1
  have z0 := later_cell (P2.out.cell (i := 0) rfl)
  have z1 := later_cell (P2.out.cell (i := 1) rfl)
  go_wp2_with fail
  refine wp_region_later (by kernel_rfl) (by kernel_rfl) ?_
  repeat (first | go_big_quiet_skip | (go_big_quiet_want; go_big_quiet_op; first | go_big_quiet_on | (apply Exists.intro; refine ⟨fun _ => ?_, ?_⟩; (· go_at_call 27; with_reducible exact later_calls (never_any _)); go_big_quiet_on)))
  refine wpQuiet_nil ?_
  intro _ hw'
  obtain ⟨u, hu⟩ := hw'
  subst hu
  clear z0 z1
  have S3 := Lib.hid (S2.out.later u.h)
  have G3 := Lib.hid (G2.out.later u.h)
  have HB3 : Hid (Below w.heap.size w u.w) := HB2.out.trans (u.h.mono HB2.out.size)
  have hsz : w.heap.size + 1 < u.w.heap.size := S3.out.lt
  have fr0 := S3.out.frozen 0
  have fr1 := S3.out.frozen 1
  have s0 := S3.out.cell (i := 0) rfl
  have s1 := S3.out.cell (i := 1) rfl
  have z6 := G3.out.cell (i := 6) rfl
  have y1 := cell_below HB3.out HR.out.h1
  obtain ⟨v', ad, hv', hA, c0⟩ := rdI_get (HR.out.vals.below HB3.out) hi
  rw [HV.out] at hv'
  cases hv'
  dsimp only at hA y1
  subst hA
  go_wp2_with fail
  have S4 := (S3.out.set 0 (.int .i64 v)).set 1 (.int .i64 v)
  have HB4 : Below w.heap.size w ((u.w.setCell ⟨w.heap.size + 1, 0, none⟩ (.int .i64 v)).setCell ⟨w.heap.size + 1, 1, none⟩ (.int .i64 v)) := (HB3.out.setCell (by dsimp only; omega) _).setCell (by dsimp only; omega) _
  exact bodyPost_ret (results_cs rfl rfl (loadSpan (S4.cell (i := 0) rfl) (S4.cell (i := 1) rfl)) rfl) rfl ⟨rfl, HB4⟩
end Go.Proofs.YtjdaigffgfnhaaaGreat
