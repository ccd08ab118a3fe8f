import Derived.Test.YtjdaigffgfnhaaaGreatEx2
namespace Go.Proofs.YtjdaigffgfnhaaaGreat
open Go.RowKit

def exTask : Task := { rd := exRec, works := [⟨⟨#[112, 97, 105, 110, 116]⟩, 1, 20, 90, 150, 15, 2550⟩, ⟨⟨#[115, 101, 97, 108]⟩, 2, 10, 100, 130, 10, 2000⟩], gap := 5, width := 5, day := (0, 1), plan := (1, 4) }

theorem rd_same {α : Type} {enc : α → List Value} {k : Nat} {w w' : World} {ad : Addr} {n : Nat} {xs : List α} (h : Rd enc k w (some ad) n xs) (hb : w'.heap[ad.block]? = w.heap[ad.block]?) : Rd enc k w' (some ad) n xs :=
  ⟨h.1, fun i x hx => by
    obtain ⟨ad', e, ha⟩ := h.2 i x hx
    cases e
    exact ⟨ad, rfl, fun j v hj => (World.cell?_of_block (by rw [block_add, block_add]; exact hb)).trans (ha j v hj)⟩⟩
theorem load29 {w : World} {g : Nat} {x0 x1 x2 x3 x4 x5 x6 x7 x8 x9 : Value} (h : Blk w g 73 #[x0, x1, x2, x3, x4, x5, x6, x7, x8, x9]) : (loadVar 73 ⟨g, 0, none⟩).run Tryz.prog w = .ok (.agg #[x0, x1, x2, x3, x4, x5, x6, x7, x8, x9]) w := by
  have h0 := h.cell (i := 0) rfl; have h1 := h.cell (i := 1) rfl; have h2 := h.cell (i := 2) rfl; have h3 := h.cell (i := 3) rfl; have h4 := h.cell (i := 4) rfl
  have h5 := h.cell (i := 5) rfl; have h6 := h.cell (i := 6) rfl; have h7 := h.cell (i := 7) rfl; have h8 := h.cell (i := 8) rfl; have h9 := h.cell (i := 9) rfl
  simp [loadVar, Tryz.isAgg73, Tryz.sizeOf73, go_sem, h0, h1, h2, h3, h4, h5, h6, h7, h8, h9]

set_option maxRecDepth 100000 in
set_option maxHeartbeats 2000000 in
theorem Task_any (w : World) : Calls Tryz.prog 15 #[] w fun e w' => ∃ A B, e = .returned (.agg (exTask.val A 5 5 B 2 2)) ∧ RdH w' A 5 exTask.rd.highs ∧ RdW w' B 2 exTask.works ∧ Below w.heap.size w w' := by
  go_enter Tryz.func15, Tryz.ntmps15
  go_wp2_with fail
  refine (Record_any _).mono ?_
  rintro e W2 ⟨rfl, hr, hb2⟩
  have e1 : exRec.first = 2001 := rfl
  have e2 : exRec.years = 4 := rfl
  rw [e1, e2]
  have hk0 : Blk (w.alloc (Obj.cells #[.int .i64 0, .int .i64 0, .slice none 0 0, .slice none 0 0, .int .i64 0, .int .i64 0, .int .i64 0, .int .i64 0, .int .i64 0, .int .i64 0] 73)) w.heap.size 73 _ := Blk.new _ _ _ rfl
  have e3 : (w.alloc (Obj.cells #[.int .i64 0, .int .i64 0, .slice none 0 0, .slice none 0 0, .int .i64 0, .int .i64 0, .int .i64 0, .int .i64 0, .int .i64 0, .int .i64 0] 73)).heap.size = w.heap.size + 1 := by simp
  rw [e3] at hr
  rw [e3]
  have HRh := Lib.hid hr; clear hr
  have hk2 := hk0.later hb2
  have HBa : Hid (Below w.heap.size w W2) := ((Below.refl _ w).alloc (Nat.le_refl _) _).trans (hb2.mono (by simp))
  have hsz : w.heap.size < W2.heap.size := hk2.lt
  have z0 := hk2.cell (i := 0) rfl
  have y0 := hk2.frozen 0
  have z1 := hk2.cell (i := 1) rfl
  have y1 := hk2.frozen 1
  have z2 := hk2.cell (i := 2) rfl
  have y2 := hk2.frozen 2
  have z3 := hk2.cell (i := 3) rfl
  have y3 := hk2.frozen 3
  have z4 := hk2.cell (i := 4) rfl
  have y4 := hk2.frozen 4
  have z5 := hk2.cell (i := 5) rfl
  have y5 := hk2.frozen 5
  have z6 := hk2.cell (i := 6) rfl
  have y6 := hk2.frozen 6
  have z7 := hk2.cell (i := 7) rfl
  have y7 := hk2.frozen 7
  have z8 := hk2.cell (i := 8) rfl
  have y8 := hk2.frozen 8
  have z9 := hk2.cell (i := 9) rfl
  have y9 := hk2.frozen 9
  have HKf := Lib.hid ((((((((((hk2.set 0 (.int .i64 2001)).set 1 (.int .i64 4)).set 2 (.slice (some ⟨w.heap.size + 1 + 1, 0, none⟩) 5 5)).set 3 (.slice (some ⟨W2.heap.size, 0, none⟩) 2 2)).set 4 (.int .i64 5)).set 5 (.int .i64 5)).set 6 (.int .i64 0)).set 7 (.int .i64 1)).set 8 (.int .i64 1)).set 9 (.int .i64 4))
  have HBf : Hid (Below w.heap.size w ((((((((((W2.setCell ⟨w.heap.size, 0, none⟩ (.int .i64 2001)).setCell ⟨w.heap.size, 1, none⟩ (.int .i64 4)).setCell ⟨w.heap.size, 2, none⟩ (.slice (some ⟨w.heap.size + 1 + 1, 0, none⟩) 5 5)).setCell ⟨w.heap.size, 3, none⟩ (.slice (some ⟨W2.heap.size, 0, none⟩) 2 2)).setCell ⟨w.heap.size, 4, none⟩ (.int .i64 5)).setCell ⟨w.heap.size, 5, none⟩ (.int .i64 5)).setCell ⟨w.heap.size, 6, none⟩ (.int .i64 0)).setCell ⟨w.heap.size, 7, none⟩ (.int .i64 1)).setCell ⟨w.heap.size, 8, none⟩ (.int .i64 1)).setCell ⟨w.heap.size, 9, none⟩ (.int .i64 4))) := ((((((((((HBa.out.setCell (p := ⟨w.heap.size, 0, none⟩) (Nat.le_refl _) _).setCell (p := ⟨w.heap.size, 1, none⟩) (Nat.le_refl _) _).setCell (p := ⟨w.heap.size, 2, none⟩) (Nat.le_refl _) _).setCell (p := ⟨w.heap.size, 3, none⟩) (Nat.le_refl _) _).setCell (p := ⟨w.heap.size, 4, none⟩) (Nat.le_refl _) _).setCell (p := ⟨w.heap.size, 5, none⟩) (Nat.le_refl _) _).setCell (p := ⟨w.heap.size, 6, none⟩) (Nat.le_refl _) _).setCell (p := ⟨w.heap.size, 7, none⟩) (Nat.le_refl _) _).setCell (p := ⟨w.heap.size, 8, none⟩) (Nat.le_refl _) _).setCell (p := ⟨w.heap.size, 9, none⟩) (Nat.le_refl _) _)
  have HFar : Hid (∀ q, q ≠ w.heap.size → ((((((((((W2.setCell ⟨w.heap.size, 0, none⟩ (.int .i64 2001)).setCell ⟨w.heap.size, 1, none⟩ (.int .i64 4)).setCell ⟨w.heap.size, 2, none⟩ (.slice (some ⟨w.heap.size + 1 + 1, 0, none⟩) 5 5)).setCell ⟨w.heap.size, 3, none⟩ (.slice (some ⟨W2.heap.size, 0, none⟩) 2 2)).setCell ⟨w.heap.size, 4, none⟩ (.int .i64 5)).setCell ⟨w.heap.size, 5, none⟩ (.int .i64 5)).setCell ⟨w.heap.size, 6, none⟩ (.int .i64 0)).setCell ⟨w.heap.size, 7, none⟩ (.int .i64 1)).setCell ⟨w.heap.size, 8, none⟩ (.int .i64 1)).setCell ⟨w.heap.size, 9, none⟩ (.int .i64 4)).heap[q]? = W2.heap[q]?) := fun q hq => (Below.heap_setCell (((((((((W2.setCell ⟨w.heap.size, 0, none⟩ (.int .i64 2001)).setCell ⟨w.heap.size, 1, none⟩ (.int .i64 4)).setCell ⟨w.heap.size, 2, none⟩ (.slice (some ⟨w.heap.size + 1 + 1, 0, none⟩) 5 5)).setCell ⟨w.heap.size, 3, none⟩ (.slice (some ⟨W2.heap.size, 0, none⟩) 2 2)).setCell ⟨w.heap.size, 4, none⟩ (.int .i64 5)).setCell ⟨w.heap.size, 5, none⟩ (.int .i64 5)).setCell ⟨w.heap.size, 6, none⟩ (.int .i64 0)).setCell ⟨w.heap.size, 7, none⟩ (.int .i64 1)).setCell ⟨w.heap.size, 8, none⟩ (.int .i64 1)) ⟨w.heap.size, 9, none⟩ _ q hq).trans ((Below.heap_setCell ((((((((W2.setCell ⟨w.heap.size, 0, none⟩ (.int .i64 2001)).setCell ⟨w.heap.size, 1, none⟩ (.int .i64 4)).setCell ⟨w.heap.size, 2, none⟩ (.slice (some ⟨w.heap.size + 1 + 1, 0, none⟩) 5 5)).setCell ⟨w.heap.size, 3, none⟩ (.slice (some ⟨W2.heap.size, 0, none⟩) 2 2)).setCell ⟨w.heap.size, 4, none⟩ (.int .i64 5)).setCell ⟨w.heap.size, 5, none⟩ (.int .i64 5)).setCell ⟨w.heap.size, 6, none⟩ (.int .i64 0)).setCell ⟨w.heap.size, 7, none⟩ (.int .i64 1)) ⟨w.heap.size, 8, none⟩ _ q hq).trans ((Below.heap_setCell (((((((W2.setCell ⟨w.heap.size, 0, none⟩ (.int .i64 2001)).setCell ⟨w.heap.size, 1, none⟩ (.int .i64 4)).setCell ⟨w.heap.size, 2, none⟩ (.slice (some ⟨w.heap.size + 1 + 1, 0, none⟩) 5 5)).setCell ⟨w.heap.size, 3, none⟩ (.slice (some ⟨W2.heap.size, 0, none⟩) 2 2)).setCell ⟨w.heap.size, 4, none⟩ (.int .i64 5)).setCell ⟨w.heap.size, 5, none⟩ (.int .i64 5)).setCell ⟨w.heap.size, 6, none⟩ (.int .i64 0)) ⟨w.heap.size, 7, none⟩ _ q hq).trans ((Below.heap_setCell ((((((W2.setCell ⟨w.heap.size, 0, none⟩ (.int .i64 2001)).setCell ⟨w.heap.size, 1, none⟩ (.int .i64 4)).setCell ⟨w.heap.size, 2, none⟩ (.slice (some ⟨w.heap.size + 1 + 1, 0, none⟩) 5 5)).setCell ⟨w.heap.size, 3, none⟩ (.slice (some ⟨W2.heap.size, 0, none⟩) 2 2)).setCell ⟨w.heap.size, 4, none⟩ (.int .i64 5)).setCell ⟨w.heap.size, 5, none⟩ (.int .i64 5)) ⟨w.heap.size, 6, none⟩ _ q hq).trans ((Below.heap_setCell (((((W2.setCell ⟨w.heap.size, 0, none⟩ (.int .i64 2001)).setCell ⟨w.heap.size, 1, none⟩ (.int .i64 4)).setCell ⟨w.heap.size, 2, none⟩ (.slice (some ⟨w.heap.size + 1 + 1, 0, none⟩) 5 5)).setCell ⟨w.heap.size, 3, none⟩ (.slice (some ⟨W2.heap.size, 0, none⟩) 2 2)).setCell ⟨w.heap.size, 4, none⟩ (.int .i64 5)) ⟨w.heap.size, 5, none⟩ _ q hq).trans ((Below.heap_setCell ((((W2.setCell ⟨w.heap.size, 0, none⟩ (.int .i64 2001)).setCell ⟨w.heap.size, 1, none⟩ (.int .i64 4)).setCell ⟨w.heap.size, 2, none⟩ (.slice (some ⟨w.heap.size + 1 + 1, 0, none⟩) 5 5)).setCell ⟨w.heap.size, 3, none⟩ (.slice (some ⟨W2.heap.size, 0, none⟩) 2 2)) ⟨w.heap.size, 4, none⟩ _ q hq).trans ((Below.heap_setCell (((W2.setCell ⟨w.heap.size, 0, none⟩ (.int .i64 2001)).setCell ⟨w.heap.size, 1, none⟩ (.int .i64 4)).setCell ⟨w.heap.size, 2, none⟩ (.slice (some ⟨w.heap.size + 1 + 1, 0, none⟩) 5 5)) ⟨w.heap.size, 3, none⟩ _ q hq).trans ((Below.heap_setCell ((W2.setCell ⟨w.heap.size, 0, none⟩ (.int .i64 2001)).setCell ⟨w.heap.size, 1, none⟩ (.int .i64 4)) ⟨w.heap.size, 2, none⟩ _ q hq).trans ((Below.heap_setCell (W2.setCell ⟨w.heap.size, 0, none⟩ (.int .i64 2001)) ⟨w.heap.size, 1, none⟩ _ q hq).trans ((Below.heap_setCell W2 ⟨w.heap.size, 0, none⟩ _ q hq).trans (rfl))))))))))
  have HSz : Hid (((((((((((W2.setCell ⟨w.heap.size, 0, none⟩ (.int .i64 2001)).setCell ⟨w.heap.size, 1, none⟩ (.int .i64 4)).setCell ⟨w.heap.size, 2, none⟩ (.slice (some ⟨w.heap.size + 1 + 1, 0, none⟩) 5 5)).setCell ⟨w.heap.size, 3, none⟩ (.slice (some ⟨W2.heap.size, 0, none⟩) 2 2)).setCell ⟨w.heap.size, 4, none⟩ (.int .i64 5)).setCell ⟨w.heap.size, 5, none⟩ (.int .i64 5)).setCell ⟨w.heap.size, 6, none⟩ (.int .i64 0)).setCell ⟨w.heap.size, 7, none⟩ (.int .i64 1)).setCell ⟨w.heap.size, 8, none⟩ (.int .i64 1)).setCell ⟨w.heap.size, 9, none⟩ (.int .i64 4)).heap.size = W2.heap.size) := Lib.hid (by simp [World.setCell])
  clear hk0 hk2 hb2 e1 e2 e3
  go_wp2_with fail
  clear z0 y0 z1 y1 z2 y2 z3 y3 z4 y4 z5 y5 z6 y6 z7 y7 z8 y8 z9 y9
  generalize ((((((((((W2.setCell ⟨w.heap.size, 0, none⟩ (.int .i64 2001)).setCell ⟨w.heap.size, 1, none⟩ (.int .i64 4)).setCell ⟨w.heap.size, 2, none⟩ (.slice (some ⟨w.heap.size + 1 + 1, 0, none⟩) 5 5)).setCell ⟨w.heap.size, 3, none⟩ (.slice (some ⟨W2.heap.size, 0, none⟩) 2 2)).setCell ⟨w.heap.size, 4, none⟩ (.int .i64 5)).setCell ⟨w.heap.size, 5, none⟩ (.int .i64 5)).setCell ⟨w.heap.size, 6, none⟩ (.int .i64 0)).setCell ⟨w.heap.size, 7, none⟩ (.int .i64 1)).setCell ⟨w.heap.size, 8, none⟩ (.int .i64 1)).setCell ⟨w.heap.size, 9, none⟩ (.int .i64 4)) = W9 at *
  have hk9 := HKf.out.alloc (Obj.cells #[.string ⟨#[112, 97, 105, 110, 116]⟩, .int .i64 1, .int .i64 20, .int .i64 90, .int .i64 150, .int .i64 15, .int .i64 2550, .string ⟨#[115, 101, 97, 108]⟩, .int .i64 2, .int .i64 10, .int .i64 100, .int .i64 130, .int .i64 10, .int .i64 2000] 128)
  have ho := World.ownsRow_lit (base := 0) (e := 128) (size := 7) W9 #[.string ⟨#[112, 97, 105, 110, 116]⟩, .int .i64 1, .int .i64 20, .int .i64 90, .int .i64 150, .int .i64 15, .int .i64 2550, .string ⟨#[115, 101, 97, 108]⟩, .int .i64 2, .int .i64 10, .int .i64 100, .int .i64 130, .int .i64 10, .int .i64 2000] 2 (Nat.zero_le _) (by unfold maxLen; omega) rfl
  obtain ⟨B, c, e, hr, _⟩ := rd_of_own (enc := Work.enc) (xs := exTask.works) (fun _ => rfl) ho rfl
  injection e with e1 e2 e3
  rw [HSz.out] at e1
  subst e1
  have hh : RdH W9 (some ⟨w.heap.size + 1 + 1, 0, none⟩) 5 exTask.rd.highs := rd_same HRh.out (HFar.out _ (by dsimp only; omega))
  exact bodyPost_ret (results_c rfl rfl (load29 hk9)) rfl ⟨_, _, rfl, hh.below ((Below.refl _ _).alloc (Nat.le_refl _) _), hr, HBf.out.alloc HBf.out.size _⟩
end Go.Proofs.YtjdaigffgfnhaaaGreat
