import Derived.Test.YtjdaigffgfnhaaaGreatNx
namespace Go.Proofs.YtjdaigffgfnhaaaGreat
open Go.RowKit

/-- What Best finds in a task that is whole. -/
def bestF (t : Task) : Acc := dfs t t.works.length none []

theorem three (w : World) (a b c : Array Value) (ta tb tc : TypeId) :
    Below w.heap.size w (((w.alloc (.cells a ta)).alloc (.cells b tb)).alloc (.cells c tc)) ∧ Blk (((w.alloc (.cells a ta)).alloc (.cells b tb)).alloc (.cells c tc)) w.heap.size ta a ∧ Blk (((w.alloc (.cells a ta)).alloc (.cells b tb)).alloc (.cells c tc)) (w.heap.size + 1) tb b ∧ Blk (((w.alloc (.cells a ta)).alloc (.cells b tb)).alloc (.cells c tc)) (w.heap.size + 1 + 1) tc c := by
  have h1 : (w.alloc (.cells a ta)).heap.size = w.heap.size + 1 := by simp
  have h2 : ((w.alloc (.cells a ta)).alloc (.cells b tb)).heap.size = w.heap.size + 1 + 1 := by simp
  refine ⟨(((Below.refl _ w).alloc (Nat.le_refl _) _).alloc (by omega) _).alloc (by omega) _, ((Blk.new _ _ _ rfl).alloc _).alloc _, (Blk.new _ _ _ h1.symm).alloc _, Blk.new _ _ _ h2.symm⟩

theorem load33 {w : World} {g : Nat} {v : Value} (h : w.cell? ⟨g, 0, none⟩ = some v) : (loadVar 31 ⟨g, 0, none⟩).run Tryz.prog w = .ok v w := by
  simp [loadVar, Tryz.isAgg31, go_sem, h]
theorem load27 {w : World} {g : Nat} {u v : Value} (h : w.cell? ⟨g, 0, none⟩ = some u) (h2 : w.cell? ⟨g, 1, none⟩ = some v) : (loadVar 36 ⟨g, 0, none⟩).run Tryz.prog w = .ok (.agg #[u, v]) w := by
  simp [loadVar, Tryz.isAgg36, Tryz.sizeOf36, go_sem, h, h2]
theorem results_cct {P : Program} {fn : Func} {p q u : Tmp} {tp tq : TypeId} (h : fn.results = #[.cell p tp, .cell q tq, .tmp u]) {tmps : Array Value} {w : World} {a b : Addr} {x y z : Value} (ha : tmps.getD p undef = .pointer (some a)) (hb : tmps.getD q undef = .pointer (some b)) (hz : tmps.getD u undef = z) (h1 : (loadVar tp a).run P w = .ok x w) (h2 : (loadVar tq b).run P w = .ok y w) :
    (results fn tmps).run P w = .ok (.tuple #[x, y, z]) w := by
  rw [Array.getD_eq_getD_getElem?] at ha hb hz
  simp only [results, h]
  simp [Sem.run_bind, Result.andThen, ha, hb, hz, asAddr, h1, h2]

theorem best_out {W : World} {bs br : Nat} (h : bs ≠ br) {x y0 y1 : Value} (h1 : Blk W bs 31 #[x]) (h2 : Blk W br 36 #[y0, y1]) (v r0 r1 : Value) :
    Blk (((W.setCell ⟨bs, 0, none⟩ v).setCell ⟨br, 0, none⟩ r0).setCell ⟨br, 1, none⟩ r1) bs 31 #[v] ∧ Blk (((W.setCell ⟨bs, 0, none⟩ v).setCell ⟨br, 0, none⟩ r0).setCell ⟨br, 1, none⟩ r1) br 36 #[r0, r1] :=
  ⟨((h1.set 0 v).far (p := ⟨br, 0, none⟩) h _).far (p := ⟨br, 1, none⟩) h _, (((h2.far (p := ⟨bs, 0, none⟩) (Ne.symm h) _).set 0 r0).set 1 r1)⟩

set_option maxRecDepth 100000 in
set_option maxHeartbeats 2000000 in
theorem best_err (t : Task) (A : Option Addr) (n c : Nat) (A' : Option Addr) (n' c' : Nat) (w : World) (hr : RdH w A n t.rd.highs) (hr' : RdW w A' n' t.works) (hc' : n' ≤ c') (hnm : ∀ (i : Nat) (v : Work), t.works[i]? = some v → v.name.size ≤ 9223372036854775807) (he : ((chkTask t).2.2 != 0) = true) :
    Calls Tryz.prog 14 #[.agg (t.val A n c A' n' c')] w fun e w' => e = .returned (.tuple #[.slice none 0 0, .agg #[.int .i64 0, .int .i64 0], .int .i64 (chkTask t).2.2]) ∧ Below w.heap.size w w' := by
  have HC : Hid (∀ W, Below w.heap.size w W → Calls Tryz.prog 45 #[.agg (t.val A n c A' n' c')] W fun e w' => e = .returned (.tuple #[.pointer none, .int .i64 (chkTask t).2.2]) ∧ Below W.heap.size W w') := fun W hW => begin_err t A n c A' n' c' W (hr.below hW) (hr'.below hW) hc' hnm he
  clear hr hr' hnm
  generalize (chkTask t).2.2 = X at *
  have he' : (X != 0) = true := he
  unfold Task.val at *
  go_enter Tryz.func14, Tryz.ntmps14
  go_wp2_with fail
  obtain ⟨b1, b2, b3, b4⟩ := three w (t.val A n c A' n' c') #[.slice none 0 0] #[.int .i64 0, .int .i64 0] 73 31 36
  refine (HC.out _ b1).mono ?_
  rintro e W2 ⟨rfl, hb2⟩
  have hs := b1.size
  have B3 := b3.later hb2
  have B4 := b4.later hb2
  have HB2 : Hid (Below w.heap.size w W2) := b1.trans (hb2.mono hs)
  have z1 := B3.cell (i := 0) rfl
  have z2 := B4.cell (i := 0) rfl
  have z3 := B4.cell (i := 1) rfl
  have y1 := B3.frozen 0
  have y2 := B4.frozen 0
  have y3 := B4.frozen 1
  have hsz : w.heap.size + 1 + 1 < W2.heap.size := B4.lt
  have hsz1 : w.heap.size + 1 < W2.heap.size := B3.lt
  have HO := Lib.hid (best_out (by omega) B3 B4 (.slice none 0 0) (.int .i64 0) (.int .i64 0))
  clear b1 b2 b3 b4 B3 B4 hs
  clear hb2
  go_wp2_with fail
  refine bodyPost_ret (results_cct rfl rfl rfl rfl (load33 (v := .slice none 0 0) ?_) (load27 (u := .int .i64 0) (v := .int .i64 0) ?_ ?_)) rfl ⟨rfl, ?_⟩
  · exact (HO.out.1.alloc _).cell rfl
  · exact (HO.out.2.alloc _).cell rfl
  · exact (HO.out.2.alloc _).cell rfl
  · exact (((HB2.out.setCell (p := ⟨w.heap.size + 1, 0, none⟩) (by simp) _).setCell (p := ⟨w.heap.size + 1 + 1, 0, none⟩) (by simp; omega) _).setCell (p := ⟨w.heap.size + 1 + 1, 1, none⟩) (by simp; omega) _).alloc (by have := HB2.out.size; simp; omega) _
end Go.Proofs.YtjdaigffgfnhaaaGreat
