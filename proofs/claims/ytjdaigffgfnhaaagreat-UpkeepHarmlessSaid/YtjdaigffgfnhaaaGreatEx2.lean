import Derived.Test.YtjdaigffgfnhaaaGreatIn
namespace Go.Proofs.YtjdaigffgfnhaaaGreat
open Go.RowKit

def exRec : Rec := { first := 2001, years := 4, highs := [⟨2001, 10, 2500⟩, ⟨2001, 350, 3100⟩, ⟨2002, 5, 2900⟩, ⟨2003, 100, 2600⟩, ⟨2004, 362, 3300⟩] }

theorem load24 {w : World} {g : Nat} {x y z : Value} (h : w.cell? ⟨g, 0, none⟩ = some x) (h2 : w.cell? ⟨g, 1, none⟩ = some y) (h3 : w.cell? ⟨g, 2, none⟩ = some z) : (loadVar 24 ⟨g, 0, none⟩).run Tryz.prog w = .ok (.agg #[x, y, z]) w := by
  simp [loadVar, Tryz.isAgg24, Tryz.sizeOf24, go_sem, h, h2, h3]
theorem results_c {P : Program} {fn : Func} {p : Tmp} {tp : TypeId} (h : fn.results = #[.cell p tp]) {tmps : Array Value} {w : World} {a : Addr} {x : Value} (ha : tmps.getD p undef = .pointer (some a)) (h1 : (loadVar tp a).run P w = .ok x w) :
    (results fn tmps).run P w = .ok x w := by
  rw [Array.getD_eq_getD_getElem?] at ha
  simp only [results, h]
  simp [ha, asAddr, h1]

set_option maxRecDepth 100000 in
set_option maxHeartbeats 1000000 in
theorem Record_any (w : World) : Calls Tryz.prog 13 #[] w fun e w' => e = .returned (.agg #[.int .i64 exRec.first, .int .i64 exRec.years, .slice (some ⟨w.heap.size + 1, 0, none⟩) 5 5]) ∧ RdH w' (some ⟨w.heap.size + 1, 0, none⟩) 5 exRec.highs ∧ Below w.heap.size w w' := by
  go_enter Tryz.func13, Tryz.ntmps13
  go_wp2_with fail
  obtain ⟨W1, hW1⟩ : ∃ W1, w.alloc (Obj.cells #[.int .i64 2001, .int .i64 4, .slice (some ⟨w.heap.size + 1, 0, none⟩) 5 5] 24) = W1 := ⟨_, rfl⟩
  have hz : W1.heap.size = w.heap.size + 1 := by rw [← hW1]; simp
  have hb : Below w.heap.size w W1 := by rw [← hW1]; exact (Below.refl _ _).alloc (Nat.le_refl _) _
  have hk : Blk W1 w.heap.size 24 #[.int .i64 2001, .int .i64 4, .slice (some ⟨w.heap.size + 1, 0, none⟩) 5 5] := by rw [← hW1]; exact Blk.new _ _ _ rfl
  rw [hW1]
  have hk2 := hk.alloc (Obj.cells #[.int .i64 2001, .int .i64 10, .int .i64 2500, .int .i64 2001, .int .i64 350, .int .i64 3100, .int .i64 2002, .int .i64 5, .int .i64 2900, .int .i64 2003, .int .i64 100, .int .i64 2600, .int .i64 2004, .int .i64 362, .int .i64 3300] 44)
  refine bodyPost_ret (results_c rfl rfl (load24 (hk2.cell (i := 0) rfl) (hk2.cell (i := 1) rfl) (hk2.cell (i := 2) rfl))) rfl ⟨rfl, ?_, hb.alloc hb.size _⟩
  have ho := World.ownsRow_lit (base := 0) (e := 44) (size := 3) W1 #[.int .i64 2001, .int .i64 10, .int .i64 2500, .int .i64 2001, .int .i64 350, .int .i64 3100, .int .i64 2002, .int .i64 5, .int .i64 2900, .int .i64 2003, .int .i64 100, .int .i64 2600, .int .i64 2004, .int .i64 362, .int .i64 3300] 5 (Nat.zero_le _) (by unfold maxLen; omega) rfl
  obtain ⟨A, c, e, hr, _⟩ := rd_of_own (enc := High.enc) (xs := exRec.highs) (fun _ => rfl) ho rfl
  injection e with e1 e2 e3
  rw [hz] at e1
  rw [e1]
  exact hr
end Go.Proofs.YtjdaigffgfnhaaaGreat
