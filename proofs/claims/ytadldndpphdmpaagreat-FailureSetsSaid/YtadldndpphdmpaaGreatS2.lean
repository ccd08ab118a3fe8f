/- Example: the tree of the document. -/
import Derived.Test.YtadldndpphdmpaaGreatQC
import Derived.Test.YtadldndpphdmpaaGreatG2
namespace Go.Proofs.YtadldndpphdmpaaGreat
open Go.RowKit

theorem rd_blk {α : Type} {enc : α → List Value} {z : Nat} (hk : ∀ x, (enc x).length = z) {w : World} {g : Nat} {t : TypeId} {cs : Array Value} (h : Blk w g t cs) (xs : List α) (hc : cs.toList = xs.flatMap enc) : Rd enc z w (some ⟨g, 0, none⟩) xs.length xs :=
  ⟨rfl, fun i x hx => ⟨_, rfl, fun j v hj => by
    rw [add_add', Addr.add_mid]
    have h1 := flat_get hk xs i x j v hx hj
    rw [← hc] at h1
    have h2 : cs[i * z + j]? = some v := by simpa using h1
    have h3 := h.cell (i := i * z + j) h2
    simpa using h3⟩⟩
def exT : List Nd := [⟨⟨#[109, 97, 105, 110, 115]⟩, 1, [], 0, 0⟩, ⟨⟨#[100, 105, 101, 115, 101, 108]⟩, 1, [], 0, 0⟩, ⟨⟨#[112, 117, 109, 112]⟩, 1, [], 0, 0⟩, ⟨⟨#[108, 105, 110, 107]⟩, 1, [], 0, 0⟩,
  ⟨⟨#[112, 111, 119, 101, 114]⟩, 2, [0, 1], 0, 3⟩, ⟨⟨#[100, 114, 105, 118, 101]⟩, 3, [2, 4], 0, 0⟩, ⟨⟨#[98, 108, 105, 110, 100]⟩, 3, [3], 0, 0⟩, ⟨⟨#[115, 116, 117, 99, 107]⟩, 4, [5, 6, 0], 2, 0⟩]
def exM (b1 b2 b3 b4 : Nat) : List NdM := [⟨⟨⟨#[109, 97, 105, 110, 115]⟩, 1, [], 0, 0⟩, none, 0⟩, ⟨⟨⟨#[100, 105, 101, 115, 101, 108]⟩, 1, [], 0, 0⟩, none, 0⟩, ⟨⟨⟨#[112, 117, 109, 112]⟩, 1, [], 0, 0⟩, none, 0⟩, ⟨⟨⟨#[108, 105, 110, 107]⟩, 1, [], 0, 0⟩, none, 0⟩,
  ⟨⟨⟨#[112, 111, 119, 101, 114]⟩, 2, [0, 1], 0, 3⟩, some ⟨b1, 0, none⟩, 2⟩, ⟨⟨⟨#[100, 114, 105, 118, 101]⟩, 3, [2, 4], 0, 0⟩, some ⟨b2, 0, none⟩, 2⟩, ⟨⟨⟨#[98, 108, 105, 110, 100]⟩, 3, [3], 0, 0⟩, some ⟨b3, 0, none⟩, 1⟩, ⟨⟨⟨#[115, 116, 117, 99, 107]⟩, 4, [5, 6, 0], 2, 0⟩, some ⟨b4, 0, none⟩, 3⟩]
theorem exTr {w : World} {b0 b1 b2 b3 b4 : Nat} {cs : Array Value} (h0 : Blk w b0 40 cs) (hc : cs.toList = (exM b1 b2 b3 b4).flatMap NdM.enc) (h1 : Blk w b1 3 #[.int .i64 0, .int .i64 1]) (h2 : Blk w b2 3 #[.int .i64 2, .int .i64 4]) (h3 : Blk w b3 3 #[.int .i64 3]) (h4 : Blk w b4 3 #[.int .i64 5, .int .i64 6, .int .i64 0]) :
    TrM w exT (some ⟨b0, 0, none⟩) 8 (exM b1 b2 b3 b4) := by
  refine ⟨rd_blk (enc := NdM.enc) (z := 5) (fun _ => rfl) h0 (exM b1 b2 b3 b4) hc, rfl, fun m hm => ?_, by omega⟩
  have hn : ∀ nd : Nd, nd.ins = [] → nd.name.size ≤ 9223372036854775807 → NdR w ⟨nd, none, 0⟩ := fun nd hi hz => ⟨by dsimp only; rw [hi]; exact Rd.nil, by dsimp only; rw [hi]; decide, by dsimp only; rw [hi]; decide, hz⟩
  simp only [exM, List.mem_cons, List.not_mem_nil, or_false] at hm
  rcases hm with rfl | rfl | rfl | rfl | rfl | rfl | rfl | rfl
  · exact hn _ rfl (by decide)
  · exact hn _ rfl (by decide)
  · exact hn _ rfl (by decide)
  · exact hn _ rfl (by decide)
  · exact ⟨rd_blk (enc := fun x : Int => [Value.int .i64 x]) (z := 1) (fun _ => rfl) h1 [0, 1] rfl, (show 2 ≤ 1000000000000000 by omega), (show 2 ≤ 2 by omega), (show 5 ≤ 9223372036854775807 by omega)⟩
  · exact ⟨rd_blk (enc := fun x : Int => [Value.int .i64 x]) (z := 1) (fun _ => rfl) h2 [2, 4] rfl, (show 2 ≤ 1000000000000000 by omega), (show 2 ≤ 2 by omega), (show 5 ≤ 9223372036854775807 by omega)⟩
  · exact ⟨rd_blk (enc := fun x : Int => [Value.int .i64 x]) (z := 1) (fun _ => rfl) h3 [3] rfl, (show 1 ≤ 1000000000000000 by omega), (show 1 ≤ 1 by omega), (show 5 ≤ 9223372036854775807 by omega)⟩
  · exact ⟨rd_blk (enc := fun x : Int => [Value.int .i64 x]) (z := 1) (fun _ => rfl) h4 [5, 6, 0] rfl, (show 3 ≤ 1000000000000000 by omega), (show 3 ≤ 3 by omega), (show 5 ≤ 9223372036854775807 by omega)⟩

theorem six_blk (w : World) (c0 c1 c2 c3 c4 c5 : Array Value) :
    ∃ W, ((((((w.alloc (.cells c0 24)).alloc (.cells c1 3)).alloc (.cells c2 3)).alloc (.cells c3 3)).alloc (.cells c4 3)).alloc (.cells c5 40)) = W ∧ Below w.heap.size w W ∧ Blk W w.heap.size 24 c0 ∧ Blk W (w.heap.size + 1) 3 c1 ∧ Blk W (w.heap.size + 1 + 1) 3 c2 ∧ Blk W (w.heap.size + 1 + 1 + 1) 3 c3 ∧ Blk W (w.heap.size + 1 + 1 + 1 + 1) 3 c4 ∧ Blk W (w.heap.size + 1 + 1 + 1 + 1 + 1) 40 c5 :=
  ⟨_, rfl, ((((((Below.refl _ w).alloc (Nat.le_refl _) _).alloc (by simp) _).alloc (by simp; omega) _).alloc (by simp; omega) _).alloc (by simp; omega) _).alloc (by simp; omega) _,
    (((((Blk.new w _ _ rfl).alloc _).alloc _).alloc _).alloc _).alloc _, ((((Blk.new _ _ _ (by simp)).alloc _).alloc _).alloc _).alloc _, (((Blk.new _ _ _ (by simp)).alloc _).alloc _).alloc _, ((Blk.new _ _ _ (by simp)).alloc _).alloc _, (Blk.new _ _ _ (by simp)).alloc _, Blk.new _ _ _ (by simp)⟩
theorem loadTree {w : World} {g : Nat} {x : Value} (h : w.cell? ⟨g, 0, none⟩ = some x) : (loadVar 24 ⟨g, 0, none⟩).run Tryz.prog w = .ok (.agg #[x]) w := by
  simp [loadVar, Tryz.isAgg24, Tryz.sizeOf24, go_sem, h]
theorem results_c {P : Program} {fn : Func} {p : Tmp} {tp : TypeId} (h : fn.results = #[.cell p tp]) {tmps : Array Value} {w : World} {a : Addr} {x : Value} (ha : tmps.getD p undef = .pointer (some a)) (h1 : (loadVar tp a).run P w = .ok x w) :
    (results fn tmps).run P w = .ok x w := by
  rw [Array.getD_eq_getD_getElem?] at ha
  simp only [results, h]
  simp [ha, asAddr, h1]
/-- The tree of the document, new in memory. -/
def ExPost (w : World) (e : Ending) (w' : World) : Prop := ∃ A ms, e = .returned (.agg #[.slice A 8 8]) ∧ TrM w' exT A 8 ms ∧ Below w.heap.size w w'
set_option maxRecDepth 100000 in
set_option maxHeartbeats 4000000 in
theorem Example_any (w : World) : Calls Tryz.prog 16 #[] w (ExPost w) := by
  go_enter Tryz.func16, Tryz.ntmps16
  go_wp2
  obtain ⟨W, hW, hb, k0, k1, k2, k3, k4, k5⟩ := six_blk w #[.slice (some ⟨w.heap.size + 1 + 1 + 1 + 1 + 1, 0, none⟩) 8 8] #[.int .i64 0, .int .i64 1] #[.int .i64 2, .int .i64 4] #[.int .i64 3] #[.int .i64 5, .int .i64 6, .int .i64 0] ((exM (w.heap.size + 1) (w.heap.size + 1 + 1) (w.heap.size + 1 + 1 + 1) (w.heap.size + 1 + 1 + 1 + 1)).flatMap NdM.enc).toArray
  simp only [exM, List.flatMap_cons, List.flatMap_nil, NdM.enc, List.cons_append, List.nil_append, List.length_cons, List.length_nil, Nat.zero_add, Nat.reduceAdd] at hW
  rw [hW]
  exact bodyPost_ret (results_c rfl rfl (loadTree (k0.cell (i := 0) rfl))) rfl ⟨_, _, rfl, exTr k5 (by simp) k1 k2 k3 k4, hb⟩
end Go.Proofs.YtadldndpphdmpaaGreat
