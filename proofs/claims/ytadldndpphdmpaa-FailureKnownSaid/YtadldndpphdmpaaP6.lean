/- Run, by the program. -/
import Derived.Test.YtadldndpphdmpaaR6
namespace Go.Proofs.Ytadldndpphdmpaa
open Go.RowKit Go.Shelf

theorem run_min2 (a : Act) (o : Oper) (w' : World) (x y : Nat) (b c : Int) (ho : o.op = .call { callee := .builtin .min, args := #[.tmp x, .tmp y], argTypes := #[3, 3] }) (hx : a.tmps.getD x undef = .int .i64 b) (hy : a.tmps.getD y undef = .int .i64 c) : (execOp a.eval o).run Try.prog w' = .ok (.value (.int .i64 (min b c))) w' := by
  unfold execOp
  rw [ho]
  have hx' : a.tmps[x]?.getD undef = .int .i64 b := by simpa using hx
  have hy' : a.tmps[y]?.getD undef = .int .i64 c := by simpa using hy
  simp [go_sem, resolve, invoke, hx', hy']

set_option maxRecDepth 100000 in
set_option maxHeartbeats 4000000 in
theorem run1_any (l : List Sp) (i : Nat) (N : Int) (B1 B2 : Nat) (L : Option Addr) (cl : Nat) (W : World) (hl : l.length ≤ 1000000) (h1 : W.cell? ⟨B1, 0, none⟩ = some (.slice L l.length cl)) (h2 : W.cell? ⟨B2, 0, none⟩ = some (.int .i64 N)) (hL : RdS W L l.length l) :
    Calls Try.prog 70 #[.int .i64 i, .pointer (some ⟨B1, 0, none⟩), .pointer (some ⟨B2, 0, none⟩)] W fun e W' => ∃ B c, e = .returned (.slice B (ownR l N i).length c) ∧ RdS W' B (ownR l N i).length (ownR l N i) ∧ Below W.heap.size W W' := by
  have HL := Lib.hid hL
  have H2 := Lib.hid h2
  have z1 : B1 < W.heap.size := cell_lt h1
  have z2 : B2 < W.heap.size := cell_lt h2
  clear hL h2
  obtain ⟨jj, hij, hzj0, hzj1, hzj2⟩ := info_parts infoSp
  go_enter Try.func70, Try.ntmps70
  go_wp2_with fail
  clear h1
  go_loopw [4, 9] (fun v i' wr => ∃ j : Nat, j ≤ l.length ∧ i' = .int .i64 j ∧ wr.ownsRow W.heap.size 65 3 v (ownR (l.take j) N i).length ((ownR (l.take j) N i).flatMap Sp.enc) ∧ Below W.heap.size W wr) (fun _ i' _ => l.length - (intOf i').toNat)
  case atStart => exact ⟨0, Nat.zero_le _, rfl, World.ownsRow_nil _ _ _ _, Below.refl _ _⟩
  case round =>
    obtain ⟨j, hj, rfl, hrw, hB⟩ := hrel
    have HRw := Lib.hid hrw; have HB := Lib.hid hB
    have hBz := hB.size
    have HBz := Lib.hid hBz
    have hol := ownR_len (l.take j) N i
    rw [List.length_take] at hol
    clear hrw hB
    by_cases hlt : j < l.length
    · obtain ⟨s, sd, hs, rfl, hcs⟩ := (HL.out.below HB.out).get hlt
      have HSt := Lib.hid (ownR_take (N := N) (i := i) hs)
      obtain ⟨d0, d1, d2⟩ := hcs.three
      have hn2 := cell_below HB.out H2.out
      have hjl : (j : Int) < (l.length : Int) := by omega
      have hzb2 : B2 < wr.heap.size := by omega
      clear hs hcs
      obtain ⟨sn, sa, sb⟩ := s
      dsimp only at *
      cases hq : (sn == (i : Int))
      · have HS2 : Hid (ownR (l.take (j + 1)) N i = ownR (l.take j) N i) := by have := HSt.out; rw [hq, if_neg (by decide), List.append_nil] at this; exact this
        have HB4 : Hid (Below wr.heap.size wr (wr.alloc (.cells #[.int .i64 sn, .int .i64 sa, .int .i64 sb] 65))) := (Below.refl _ _).alloc (Nat.le_refl _) _
        have HRw4 : Hid ((wr.alloc (.cells #[.int .i64 sn, .int .i64 sa, .int .i64 sb] 65)).ownsRow W.heap.size 65 3 u4 (ownR (l.take j) N i).length ((ownR (l.take j) N i).flatMap Sp.enc)) := HRw.out.alloc _
        go_wp2_with fail
        go_roundw
        case rel => exact ⟨j + 1, by omega, by go_num, by rw [HS2.out]; exact HRw4.out, HB.out.trans (HB4.out.mono HBz.out)⟩
        case measure => simp [intOf]; omega
      · have HS2 : Hid (ownR (l.take (j + 1)) N i = ownR (l.take j) N i ++ [⟨(i : Int), sa, min sb N⟩]) := by have := HSt.out; rw [hq, if_pos rfl] at this; exact this
        have HB4 : Hid (Below wr.heap.size wr (wr.alloc (.cells #[.int .i64 sn, .int .i64 sa, .int .i64 sb] 65))) := (Below.refl _ _).alloc (Nat.le_refl _) _
        have HRw4 : Hid ((wr.alloc (.cells #[.int .i64 sn, .int .i64 sa, .int .i64 sb] 65)).ownsRow W.heap.size 65 3 u4 (ownR (l.take j) N i).length ((ownR (l.take j) N i).flatMap Sp.enc)) := HRw.out.alloc _
        have HZ4 : Hid (W.heap.size ≤ (wr.alloc (.cells #[.int .i64 sn, .int .i64 sa, .int .i64 sb] 65)).heap.size) := by show _ ≤ _; simp; omega
        go_wp2_with (first | (refine wpList_buildSlice_one rfl 56 65 _ rfl 3 _ #[.int .i64 (i : Int), .int .i64 sa, .int .i64 (min sb N)] rfl Try.underlying56 (Try.sizeOf65 _) (Try.zeroValue65 _) rfl (by omega) (by omega) ?_) | (at_builtin; refine wpList_append_st rfl _ _ 56 rfl W.heap.size 65 jj (.agg #[.int .i64 0, .int .i64 0, .int .i64 0]) 3 24 Try.underlying56 hij hzj0 hzj1 hzj2 rfl (by decide) _ _ _ rfl HRw4.out #[.int .i64 (i : Int), .int .i64 sa, .int .i64 (min sb N)] rfl (wr.alloc (.cells #[.int .i64 sn, .int .i64 sa, .int .i64 sb] 65)).heap.size rfl rfl (by simp [Value.oneCell']) (by unfold maxLen; omega) (by omega) HZ4.out ?_; intro A' c'' w2 hown' hgrow _; have HO2 := Lib.hid hown'; have HG2 := Lib.hid hgrow; clear hown' hgrow))
        go_roundw
        case rel => exact ⟨j + 1, by omega, by go_num, by rw [HS2.out, List.length_append, List.flatMap_append]; exact HO2.out, (HB.out.trans (HB4.out.mono HBz.out)).grown HG2.out HZ4.out (fun r e => (HRw4.out.lt r e).1)⟩
        case measure => simp [intOf]; omega
    · obtain rfl : j = l.length := by omega
      rw [List.take_length] at HRw
      obtain ⟨A7, c7, e7, hr7, _, _⟩ := rd_of_own enc3 HRw.out rfl
      subst e7
      go_wp2_with fail
      go_ret
      exact ⟨_, _, rfl, hr7, HB.out⟩
end Go.Proofs.Ytadldndpphdmpaa
