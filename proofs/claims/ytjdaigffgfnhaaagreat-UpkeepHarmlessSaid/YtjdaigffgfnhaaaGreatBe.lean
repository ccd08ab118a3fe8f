import Derived.Test.YtjdaigffgfnhaaaGreatSe
import Derived.Test.YtjdaigffgfnhaaaGreatCk2
import Derived.Test.YtjdaigffgfnhaaaGreatMix
import Derived.Deep.AppendLies
import Derived.Test.YtjdaigffgfnhaaaGreatBs
import Derived.Test.YtjdaigffgfnhaaaGreatOwn
namespace Go.Proofs.YtjdaigffgfnhaaaGreat
open Go.RowKit

theorem below_of_drew {B : Nat} {w w' : World} (h : Below B w.drew w') : Below B w w' := ⟨h.os, h.tape, h.output, h.size, h.block⟩
theorem grown_row {a b c : World} {row : Option Nat} (h : a.grownBy b row) (k : b.grownBy c row) : a.grownBy c row :=
  ⟨k.os.trans h.os, k.tape.trans h.tape, k.output.trans h.output, Nat.le_trans h.size k.size, fun i hi hne => (k.block i (Nat.lt_of_lt_of_le hi h.size) hne).trans (h.block i hi hne)⟩
/-- The seasons of the works of a task. -/
def seaOf (t : Task) (v : Work) (i : Nat) : Bool := seasonB t.rd t.width v.level t.day i
abbrev seaEnc (g : Nat → Bool) : List Value := (seaA g 365).toList
abbrev Task.pval (t : Task) (A : Option Addr) (n c : Nat) (A' : Option Addr) (n' c' : Nat) (v : Value) : Array Value := #[.int .i64 t.rd.first, .int .i64 t.rd.years, .slice A n c, .slice A' n' c', .int .i64 t.gap, .int .i64 t.width, .int .i64 t.day.1, .int .i64 t.day.2, .int .i64 t.plan.1, .int .i64 t.plan.2, v]

theorem info109' : (Tryz.prog.info? 153).map (fun i => (i.zero, i.size, i.bytes)) = some (some (.agg Tryz.zeroCells153), 365, 365) := by kernel_rfl

/-- A planner in memory. -/
structure Pl (w : World) (p : Nat) (t : Task) (A : Option Addr) (n c : Nat) (A' : Option Addr) (n' c' : Nat) : Prop where
  blk : ∃ S cap, Blk w p 152 (t.pval A n c A' n' c' (.slice S n' cap)) ∧ Rd seaEnc 365 w S n' (t.works.map (seaOf t))
  highs : RdH w A n t.rd.highs
  works : RdW w A' n' t.works

theorem Pl.below {w w' : World} {p : Nat} {t : Task} {A : Option Addr} {n c : Nat} {A' : Option Addr} {n' c' : Nat} (h : Pl w p t A n c A' n' c') (hb : Below w.heap.size w w') : Pl w' p t A n c A' n' c' := by
  obtain ⟨S, cap, h1, h2⟩ := h.blk
  exact ⟨⟨S, cap, h1.later hb, h2.below hb⟩, h.highs.below hb, h.works.below hb⟩

structure TaskOK (t : Task) : Prop where
  rd : RecOK t.rd
  len : t.works.length ≤ 4
  rows : ∀ (i : Nat) (v : Work), t.works[i]? = some v → nameB v.name = true ∧ anyB t.works v.name i = false ∧ wOut v = false ∧ (v.til - v.frm) / v.step < 40
  gap : 0 ≤ t.gap ∧ t.gap ≤ 365
  width : 1 ≤ t.width ∧ t.width ≤ 365
  day : (1 ≤ t.day.2 ∧ t.day.2 ≤ 200) ∧ 0 ≤ t.day.1 ∧ t.day.1 ≤ t.day.2
  plan : (1 ≤ t.plan.2 ∧ t.plan.2 ≤ 200) ∧ 0 ≤ t.plan.1 ∧ t.plan.1 ≤ t.plan.2

theorem vErr_zero {ws : List Work} {i : Nat} {v : Work} (h : vErr ws i v = 0) : nameB v.name = true ∧ anyB ws v.name i = false ∧ wOut v = false ∧ (v.til - v.frm) / v.step < 40 := by
  unfold vErr at h
  by_cases h1 : nameB v.name = false
  · rw [if_pos h1] at h; omega
  · rw [if_neg h1] at h
    by_cases h2 : anyB ws v.name i = true
    · rw [if_pos h2] at h; omega
    · rw [if_neg h2] at h
      by_cases h3 : wOut v = true
      · rw [if_pos h3] at h; omega
      · rw [if_neg h3] at h
        by_cases h4 : 40 ≤ (v.til - v.frm) / v.step
        · rw [if_pos h4] at h; omega
        · exact ⟨by simpa using h1, by simpa using h2, by simpa using h3, by omega⟩

theorem taskOK_of {t : Task} (h : (chkTask t).2.2 = 0) : TaskOK t := by
  unfold chkTask at h
  by_cases h1 : ((chkRec t.rd).2 != 0) = true
  · rw [if_pos h1] at h; dsimp only at h; simp [h] at h1
  · rw [if_neg h1] at h
    have h1' : (chkRec t.rd).2 = 0 := by simpa using h1
    by_cases h2 : 4 < t.works.length
    · rw [if_pos h2] at h; simp at h
    · rw [if_neg h2] at h
      by_cases h3 : (firstErr (wErr t.works) 0 (t.works.length - 0)).2 = 0
      · rw [if_pos h3] at h
        unfold chkTail at h
        by_cases h4 : (outB t.gap 0 365 || outB t.width 1 365 || wildB t.day || wildB t.plan) = true
        · rw [if_pos h4] at h; simp at h
        · have h5 : (outB t.gap 0 365 || outB t.width 1 365 || wildB t.day || wildB t.plan) = false := by simpa using h4
          unfold wildB at h5
          simp only [Bool.or_eq_false_iff] at h5
          obtain ⟨⟨⟨g1, g2⟩, g3, g4⟩, g5, g6⟩ := h5
          refine ⟨recOK_of h1', by omega, fun i v hv => ?_, outB_false g1, outB_false g2, ⟨outB_false g3, outB_false g4⟩, ⟨outB_false g5, outB_false g6⟩⟩
          have hl : i < t.works.length := (List.getElem?_eq_some_iff.1 hv).1
          have := firstErr_all _ _ h3 i (by omega) (by omega)
          unfold wErr at this
          rw [hv] at this
          exact vErr_zero this
      · rw [if_neg h3] at h
        exact absurd h h3

set_option maxRecDepth 100000 in
set_option maxHeartbeats 1000000 in
theorem begin_err (t : Task) (A : Option Addr) (n c : Nat) (A' : Option Addr) (n' c' : Nat) (w : World) (hr : RdH w A n t.rd.highs) (hr' : RdW w A' n' t.works) (hc' : n' ≤ c') (hnm : ∀ (i : Nat) (v : Work), t.works[i]? = some v → v.name.size ≤ 9223372036854775807) (he : ((chkTask t).2.2 != 0) = true) :
    Calls Tryz.prog 45 #[.agg (t.val A n c A' n' c')] w fun e w' => e = .returned (.tuple #[.pointer none, .int .i64 (chkTask t).2.2]) ∧ Below w.heap.size w w' := by
  obtain ⟨rd, works, gap, width, ⟨dy, dof⟩, ⟨py, pof⟩⟩ := t
  have HB1 : Hid (Below w.heap.size w (w.alloc (.cells (Task.val ⟨rd, works, gap, width, (dy, dof), (py, pof)⟩ A n c A' n' c') 73))) := (Below.refl _ _).alloc (Nat.le_refl _) _
  have HC := Lib.hid (check_any ⟨rd, works, gap, width, (dy, dof), (py, pof)⟩ A n c A' n' c' _ (hr.below HB1.out) (hr'.below HB1.out) hc' hnm)
  clear hr hr' hnm
  generalize chkTask ⟨rd, works, gap, width, (dy, dof), (py, pof)⟩ = X at *
  obtain ⟨x1, x2, x3⟩ := X
  dsimp only [Task.val] at *
  go_enter Tryz.func45, Tryz.ntmps45
  go_wp2_with (go_at_call 67; refine HC.out.mono ?_; rintro e w2 ⟨rfl, hb2⟩; have HB2 := Lib.hid hb2; clear hb2)
  go_ret2
  exact ⟨rfl, HB1.out.trans (HB2.out.mono (by simp))⟩

set_option maxRecDepth 100000 in
set_option maxHeartbeats 2000000 in
theorem begin_ok (t : Task) (A : Option Addr) (n c : Nat) (A' : Option Addr) (n' c' : Nat) (w : World) (hr : RdH w A n t.rd.highs) (hr' : RdW w A' n' t.works) (hc' : n' ≤ c') (hnm : ∀ (i : Nat) (v : Work), t.works[i]? = some v → v.name.size ≤ 9223372036854775807) (he : (chkTask t).2.2 = 0) :
    Calls Tryz.prog 45 #[.agg (t.val A n c A' n' c')] w fun e w' => ∃ p, e = .returned (.tuple #[.pointer (some ⟨p, 0, none⟩), .int .i64 0]) ∧ Pl w' p t A n c A' n' c' ∧ Below w.heap.size w w' := by
  have hok := taskOK_of he
  have HOK := Lib.hid hok
  obtain ⟨w0, w1⟩ := hok.width
  obtain ⟨⟨y0, y1⟩, y2, y3⟩ := hok.day
  have hlen := hok.len
  clear hok
  have hl' : t.works.length = n' := hr'.1
  have hn4 : n' ≤ 4 := by omega
  have HB1 : Hid (Below w.heap.size w (w.alloc (.cells (t.val A n c A' n' c') 73))) := (Below.refl _ _).alloc (Nat.le_refl _) _
  have HC := Lib.hid (check_any t A n c A' n' c' _ (hr.below HB1.out) (hr'.below HB1.out) hc' hnm)
  have HR := Lib.hid hr; clear hr
  have HR' := Lib.hid hr'; clear hr'
  have HL := Lib.hid hl'; clear hl' hlen
  clear hnm
  rw [he] at HC
  clear he
  generalize (chkTask t).1 = x1 at HC
  generalize (chkTask t).2.1 = x2 at HC
  dsimp only [Task.val] at *
  obtain ⟨i0, hi, hz0, hz1, hz2⟩ := info_parts info109'
  go_enter Tryz.func45, Tryz.ntmps45
  go_wp2_with (go_at_call 67; refine HC.out.mono ?_; rintro e W2 ⟨rfl, hb2⟩; have HB2 := Lib.hid hb2; clear hb2; have K2 := (Blk.new w 73 #[.int .i64 t.rd.first, .int .i64 t.rd.years, .slice A n c, .slice A' n' c', .int .i64 t.gap, .int .i64 t.width, .int .i64 t.day.1, .int .i64 t.day.2, .int .i64 t.plan.1, .int .i64 t.plan.2] rfl).later HB2.out; have e0 := K2.cell (i := 0) rfl; have e1 := K2.cell (i := 1) rfl; have e2 := K2.cell (i := 2) rfl; have e3 := K2.cell (i := 3) rfl; have e4 := K2.cell (i := 4) rfl; have e5 := K2.cell (i := 5) rfl; have e6 := K2.cell (i := 6) rfl; have e7 := K2.cell (i := 7) rfl; have e8 := K2.cell (i := 8) rfl; have e9 := K2.cell (i := 9) rfl; have hsz : w.heap.size < W2.heap.size := K2.lt; have KK := Lib.hid K2; clear K2)
  obtain ⟨W3, hW3⟩ : ∃ W3, W2.alloc (Obj.cells (t.pval A n c A' n' c' (.slice none 0 0)) 152) = W3 := ⟨_, rfl⟩
  have HB3 : Hid (Below W2.heap.size W2 W3) := by rw [← hW3]; exact (Below.refl _ _).alloc (Nat.le_refl _) _
  have KP : Hid (Blk W3 W2.heap.size 152 (t.pval A n c A' n' c' (.slice none 0 0))) := by rw [← hW3]; exact Blk.new _ _ _ rfl
  rw [hW3]
  clear hW3 e0 e1 e2 e3 e4 e5 e6 e7 e8 e9
  have HBW : Hid (Below w.heap.size w W2) := HB1.out.trans (HB2.out.mono HB1.out.size)
  go_loopw [25] (fun i wr => ∃ (k : Nat) (v : Value), k ≤ n' ∧ i = .int .i64 k ∧ Below W2.heap.size W2 wr ∧ Blk wr W2.heap.size 152 (t.pval A n c A' n' c' v) ∧ wr.ownsRow (W2.heap.size + 1) 153 365 v k ((t.works.take k).flatMap fun x => seaEnc (seaOf t x))) (fun i _ => n' - (intOf i).toNat)
  case atStart => exact ⟨0, _, Nat.zero_le _, rfl, HB3.out, KP.out, World.ownsRow_nil _ _ _ _⟩
  case round =>
    obtain ⟨k, v, hk, rfl, hB, hP, hO⟩ := hrel
    have HB := Lib.hid hB; clear hB
    have HP := Lib.hid hP; clear hP
    have HO := Lib.hid hO; clear hO
    have HBw : Hid (Below w.heap.size w wr) := HBW.out.trans (HB.out.mono HBW.out.size)
    by_cases hlt : k < n'
    · obtain ⟨x, ad, hx, rfl, ha⟩ := (HR'.out.below HBw.out).get hlt
      obtain ⟨c0, c1, c2, c3, c4, c5, c6⟩ := ha.seven
      have HX := Lib.hid hx; clear hx ha
      go_wp2_with fail
      obtain ⟨W4, hW4⟩ : ∃ W4, wr.alloc (Obj.cells #[.string x.name, .int .i64 x.gate, .int .i64 x.days, .int .i64 x.frm, .int .i64 x.til, .int .i64 x.step, .int .i64 x.level] 128) = W4 := ⟨_, rfl⟩
      have B4 : Blk W4 wr.heap.size 128 #[.string x.name, .int .i64 x.gate, .int .i64 x.days, .int .i64 x.frm, .int .i64 x.til, .int .i64 x.step, .int .i64 x.level] := by rw [← hW4]; exact Blk.new _ _ _ rfl
      have T4 : Blk W4 w.heap.size 73 #[.int .i64 t.rd.first, .int .i64 t.rd.years, .slice A n c, .slice (some ad) n' c', .int .i64 t.gap, .int .i64 t.width, .int .i64 t.day.1, .int .i64 t.day.2, .int .i64 t.plan.1, .int .i64 t.plan.2] := by rw [← hW4]; exact (KK.out.later HB.out).alloc _
      have P4 : Blk W4 W2.heap.size 152 (t.pval A n c (some ad) n' c' v) := by rw [← hW4]; exact HP.out.alloc _
      have O4 : Hid (W4.ownsRow (W2.heap.size + 1) 153 365 v k ((t.works.take k).flatMap fun x => seaEnc (seaOf t x))) := by rw [← hW4]; exact HO.out.alloc _
      have HB4 : Hid (Below W2.heap.size W2 W4) := by rw [← hW4]; exact HB.out.alloc HB.out.size _
      rw [hW4]
      clear hW4 c0 c1 c2 c3 c4 c5 c6
      have n1 : some w.heap.size ≠ v.ownBlock := fun e => by have := (HO.out.lt _ e.symm).1; omega
      have n2 : some W2.heap.size ≠ v.ownBlock := fun e => by have := (HO.out.lt _ e.symm).1; omega
      have n3 : some wr.heap.size ≠ v.ownBlock := fun e => by have := (HO.out.lt _ e.symm).2; omega
      have q0 := laterBut_cell (T4.cell (i := 0) rfl) n1
      have q1 := laterBut_cell (T4.cell (i := 1) rfl) n1
      have q2 := laterBut_cell (T4.cell (i := 2) rfl) n1
      have q5 := laterBut_cell (T4.cell (i := 5) rfl) n1
      have q6 := laterBut_cell (T4.cell (i := 6) rfl) n1
      have q7 := laterBut_cell (T4.cell (i := 7) rfl) n1
      have p10 := laterBut_cell (P4.cell (i := 10) rfl) n2
      have x6 := laterBut_cell (B4.cell (i := 6) rfl) n3
      have N1 := Lib.hid n1; have N2 := Lib.hid n2; have N3 := Lib.hid n3
      have HT4 := Lib.hid T4; have HP4 := Lib.hid P4; have HB4' := Lib.hid B4
      clear n1 n2 n3 T4 P4 B4
      have hS0 : (fun w' => ∃ u : LaterBut W4 v.ownBlock, w' = u.w) W4.drew := ⟨⟨W4.drew, ⟨rfl, rfl, rfl, Nat.le_refl _, fun _ _ _ => rfl⟩⟩, rfl⟩
      have HS0 := Lib.hid hS0; clear hS0
      refine wp_region_noPanic ?_
      refine wp_region_mix (fun w' => ∃ u : LaterBut W4 v.ownBlock, w' = u.w) 16 (fun k => decide (k < 13)) (by kernel_rfl) (by kernel_rfl) (fun _ _ _ _ _ h => h) ?_
      iterate 13 ((first | refine mix_quiet rfl rfl rfl HS0.out ?_ | refine mix_nilCheck rfl _ _ rfl rfl rfl HS0.out ?_); intro K hK; go_big_quiet_op; go_big_quiet_on)
      clear q0 q1 q2 q5 q6 q7 p10 x6
      have HBd : Hid (Below w.heap.size w W4.drew) := ((HBW.out.trans (HB4.out.mono HBW.out.size))).drew
      have HCS := Lib.hid (season_any t.rd t.width x.level t.day A n c W4.drew HOK.out.rd (HR.out.below HBd.out) w0 w1 (by omega) (by omega) (by omega) (by omega))
      have HG : Hid ((seaA (fun i => seasonB t.rd t.width x.level t.day i) 365).toList = seaEnc (seaOf t x)) := rfl
      have HSZ := Lib.hid (seaA_size (fun i => seasonB t.rd t.width x.level t.day i) 365)
      have HON := Lib.hid (seaA_one (fun i => seasonB t.rd t.width x.level t.day i) 365)
      generalize seaA (fun i => seasonB t.rd t.width x.level t.day i) 365 = cs at *
      refine mix_op rfl ?_
      go_wp2_with (go_at_call 68; refine HCS.out.mono ?_; rintro e W5 ⟨rfl, hb5⟩; have HB5 := Lib.hid (below_of_drew hb5); clear hb5)
      refine mix_post (fun _ => ⟨⟨W5, grown_of_below HB5.out _⟩, rfl⟩) ?_
      refine mix_op rfl ?_
      refine wpList_buildSlice_one rfl 150 153 _ rfl 365 _ cs rfl Tryz.underlying150 (Tryz.sizeOf153 _) (Tryz.zeroValue153 _) HSZ.out (by omega) (by omega) ?_
      go_wp2
      have HG6 : Hid (W4.grownBy (W5.alloc (.cells cs 153)) v.ownBlock) := grown_of_below (HB5.out.alloc HB5.out.size _) _
      refine mix_post (fun _ => ⟨⟨_, HG6.out⟩, rfl⟩) ?_
      have HO5 : Hid ((W5.alloc (.cells cs 153)).ownsRow (W2.heap.size + 1) 153 365 v k ((t.works.take k).flatMap fun x => seaEnc (seaOf t x))) := (O4.out.kept (grown_of_below HB5.out none) (by cases v.ownBlock <;> simp)).alloc _
      have hz5 : W4.heap.size ≤ W5.heap.size := HB5.out.size
      have hz4 : W2.heap.size < W4.heap.size := HP4.out.lt
      have HNews : Hid (∀ j u, cs.toList[j]? = some u → (W5.alloc (.cells cs 153)).cell? ((⟨W5.heap.size, 0, none⟩ : Addr).add j) = some u) := fun j u hu => by
        rw [Addr.add_mid]
        exact cell_at_new rfl (by simpa using hu)
      have HOne : Hid (∀ u ∈ cs.toList, u.oneCell' = true) := fun u hu => by
        have := HON.out
        rw [Array.all_eq_true] at this
        obtain ⟨i, hi, rfl⟩ := List.getElem_of_mem hu
        exact this i (by simpa using hi)
      refine mix_op rfl ?_
      refine wpList_append_lies _ rfl _ _ 150 rfl (W2.heap.size + 1) 153 i0 (.agg Tryz.zeroCells153) 365 365 Tryz.underlying150 hi hz0 hz1 hz2 (by kernel_rfl) (by decide) v k _ rfl HO5.out ⟨W5.heap.size, 0, none⟩ 1 1 cs.toList rfl (by have := HSZ.out; simp; omega) HNews.out HOne.out (by omega) (by unfold maxLen; omega) (by omega) (by simp; omega) (W5.heap.size + 1) (by simp) ?_
      intro g cap w7 hown7 hgrow7 hat7 hlt7
      have HW7 := Lib.hid hown7; clear hown7
      have HR7 := Lib.hid hgrow7; clear hgrow7
      go_wp2
      have HG7 : Hid (W4.grownBy w7 v.ownBlock) := grown_row HG6.out HR7.out
      refine mix_post (fun _ => ⟨⟨w7, HG7.out⟩, rfl⟩) ?_
      refine mix_op rfl ?_
      go_wp2
      refine mix_post (fun h => absurd h (by decide)) ?_
      refine mix_op rfl ?_
      go_wp2
      refine mix_post (fun h => absurd h (by decide)) ?_
      have P7 := HP4.out.grown HG7.out N2.out
      have p10 := P7.cell (i := 10) rfl
      have z10 := P7.frozen 10
      have HP7 := Lib.hid P7; clear P7
      refine mix_op rfl ?_
      go_wp2
      refine mix_post (fun h => absurd h (by decide)) ?_
      refine mix_nil ?_
      refine NoPanic.normal ?_
      have HP8 : Hid (Blk (w7.setCell ⟨W2.heap.size, 10, none⟩ (.slice (some ⟨g, 0, none⟩) (k + 1) cap)) W2.heap.size 152 (t.pval A n c (some ad) n' c' (.slice (some ⟨g, 0, none⟩) (k + 1) cap))) := HP7.out.set 10 _
      have hg1 : W2.heap.size + 1 ≤ g := (HW7.out.lt g rfl).1
      have HO8 : Hid ((w7.setCell ⟨W2.heap.size, 10, none⟩ (.slice (some ⟨g, 0, none⟩) (k + 1) cap)).ownsRow (W2.heap.size + 1) 153 365 (.slice (some ⟨g, 0, none⟩) (k + 1) cap) (k + 1) ((t.works.take (k + 1)).flatMap fun x => seaEnc (seaOf t x))) := by
        have h1 := ownsRow_setCell_below HW7.out (a := ⟨W2.heap.size, 10, none⟩) (by dsimp only; omega) (.slice (some ⟨g, 0, none⟩) (k + 1) cap)
        have hx := HX.out
        have hl : k < t.works.length := (List.getElem?_eq_some_iff.1 hx).1
        have e : t.works[k] = x := (List.getElem?_eq_some_iff.1 hx).2
        rw [List.take_succ_eq_append_getElem hl, List.flatMap_append, e]
        simp only [List.flatMap_cons, List.flatMap_nil, List.append_nil, ← HG.out]
        exact h1
      have HB8 : Hid (Below W2.heap.size W2 (w7.setCell ⟨W2.heap.size, 10, none⟩ (.slice (some ⟨g, 0, none⟩) (k + 1) cap))) := (HB4.out.grown HG7.out HB4.out.size (fun j e => by have := (O4.out.lt j e).1; omega)).setCell (p := ⟨W2.heap.size, 10, none⟩) (Nat.le_refl _) _
      clear p10 z10
      generalize w7.setCell ⟨W2.heap.size, 10, none⟩ (.slice (some ⟨g, 0, none⟩) (k + 1) cap) = w8 at *
      go_wp2
      go_roundw
      case rel => exact ⟨k + 1, _, by omega, by go_num, HB8.out, HP8.out, HO8.out⟩
      case measure => simp [intOf]; omega
    · obtain rfl : k = n' := by omega
      go_wp2
      go_ret2
      have ho := HO.out
      rw [List.take_of_length_le (by have := HL.out; omega), ← List.flatMap_map] at ho
      obtain ⟨S, cap, rfl, hrd, _⟩ := rd_of_own (enc := seaEnc) (k := 365) (fun g => by rw [Array.length_toList, seaA_size]) ho (by rw [List.length_map]; exact HL.out)
      exact ⟨W2.heap.size, rfl, ⟨⟨S, cap, HP.out, hrd⟩, HR.out.below HBw.out, HR'.out.below HBw.out⟩, HBw.out⟩
end Go.Proofs.YtjdaigffgfnhaaaGreat
