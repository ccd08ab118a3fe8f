import Derived.Test.YtjdaigffgfnhaaaGreatBe
namespace Go.Proofs.YtjdaigffgfnhaaaGreat
open Go.RowKit

set_option maxRecDepth 100000 in
set_option maxHeartbeats 1000000 in
theorem bad_any (t : Task) (p : Nat) (A : Option Addr) (n c : Nat) (A' : Option Addr) (n' c' : Nat) (i : Nat) (x : Work) (s : Int) (w : World) (hP : Pl w p t A n c A' n' c') (hx : t.works[i]? = some x) (hd0 : 0 ≤ x.days) (hd1 : x.days ≤ 1000) (s0 : 0 ≤ s) (s1 : s ≤ 100000) :
    Calls Tryz.prog 69 #[.pointer (some ⟨p, 0, none⟩), .int .i64 (i : Int), .int .i64 s] w fun e w' => e = .returned (.int .i64 (badF t x s)) ∧ w = w' := by
  obtain ⟨S, cap, hb, hsea⟩ := hP.blk
  have hi : i < n' := by have := (List.getElem?_eq_some_iff.1 hx).1; have := hP.works.1; omega
  obtain ⟨ad, rfl, ha⟩ := hP.works.2 i x hx
  obtain ⟨c0, c1, c2, c3, c4, c5, c6⟩ := ha.seven
  obtain ⟨sd, rfl, hs⟩ := hsea.2 i (seaOf t x) (by rw [List.getElem?_map, hx]; rfl)
  have p3 := hb.cell (i := 3) rfl
  have p10 := hb.cell (i := 10) rfl
  have hii : (i : Int) < (n' : Int) := by omega
  generalize hX : badF t x s = X
  have HX := Lib.hid hX; clear hX
  have HS := Lib.hid hs; clear hs
  clear hb hsea hP ha
  obtain ⟨D, hD⟩ : ∃ D : Nat, x.days = (D : Int) := ⟨x.days.toNat, by omega⟩
  have HX2 : Hid (dayF (sB t x) s 0 (D - 0) = X) := by have := HX.out; unfold badF at this; rw [hD] at this; exact this
  rw [hD] at c2 hd1
  clear hd0 hD
  go_enter Tryz.func69, Tryz.ntmps69
  go_wp2
  go_loop [18] (fun k => ∃ j : Nat, j ≤ D ∧ k = .int .i64 j ∧ dayF (sB t x) s j (D - j) = X) (fun k => D - (intOf k).toNat)
  case atStart => exact ⟨0, Nat.zero_le _, rfl, HX2.out⟩
  case round =>
    obtain ⟨j, hj, rfl, hE⟩ := hrel
    have HE := Lib.hid hE; clear hE
    by_cases hlt : j < D
    · have hm0 : 0 ≤ (s + (j : Int)) % 365 := by omega
      have hm1 : (s + (j : Int)) % 365 < 365 := by omega
      have hcell : w.cell? ((sd.add (i * 365)).add ((s + (j : Int)) % 365).toNat) = some (.bool (sB t x ((s + (j : Int)) % 365))) := by
        refine HS.out _ _ ?_
        have h1 := seaA_get (seaOf t x) 365 ((s + (j : Int)) % 365).toNat (by omega)
        have h2 : decide (((s + (j : Int)) % 365).toNat < 365) = true := by simp; omega
        rw [h2, Bool.true_and] at h1
        have h3 : seaOf t x ((s + (j : Int)) % 365).toNat = sB t x ((s + (j : Int)) % 365) := by
          unfold seaOf sB
          rw [Int.toNat_of_nonneg hm0]
        rw [h3] at h1
        simpa using h1
      cases hb : sB t x ((s + (j : Int)) % 365) with
      | true =>
        rw [hb] at hcell
        have F := Lib.hid (dayF_yes hlt hb)
        go_wp2
        go_ret
        exact ⟨ret_int (F.out.symm.trans HE.out), rfl⟩
      | false =>
        rw [hb] at hcell
        have F := Lib.hid (dayF_no hlt hb)
        go_wp2
        go_round
        case rel => exact ⟨j + 1, by omega, by go_num, F.out.symm.trans HE.out⟩
        case measure => simp [intOf]; omega
    · have F := Lib.hid (dayF_end (g := sB t x) (s := s) (Nat.le_of_not_lt hlt))
      go_wp2
      go_ret
      exact ⟨ret_int (F.out.symm.trans HE.out), rfl⟩

/-- What the numbers of a work that has been checked are. -/
structure WorkOK (v : Work) : Prop where
  d0 : 1 ≤ v.days
  d1 : v.days ≤ 200
  u0 : 0 ≤ v.til
  u1 : v.til ≤ 364
  f0 : 0 ≤ v.frm
  f1 : v.frm ≤ v.til
  s0 : 1 ≤ v.step
  s1 : v.step ≤ 365
  l0 : -20000 ≤ v.level
  l1 : v.level ≤ 20000
theorem workOK_of {v : Work} (h : wOut v = false) : WorkOK v := by
  unfold wOut at h
  simp only [Bool.or_eq_false_iff] at h
  obtain ⟨⟨⟨⟨⟨h1, h2⟩, h3⟩, h4⟩, h5⟩, h6⟩ := h
  have a := outB_false h2
  have b := outB_false h3
  have c := outB_false h4
  have d := outB_false h5
  have e := outB_false h6
  exact ⟨a.1, a.2, b.1, b.2, c.1, c.2, d.1, d.2, e.1, e.2⟩

set_option maxRecDepth 100000 in
set_option maxHeartbeats 1000000 in
theorem starts_any (t : Task) (p : Nat) (A : Option Addr) (n c : Nat) (A' : Option Addr) (n' c' : Nat) (i : Nat) (x : Work) (w : World) (hP : Pl w p t A n c A' n' c') (hx : t.works[i]? = some x) (hw : WorkOK x) :
    Calls Tryz.prog 46 #[.pointer (some ⟨p, 0, none⟩), .int .i64 (i : Int)] w fun e w' => ∃ v, e = .returned v ∧ w'.ownsRow w.heap.size 3 1 v (startsF t x).length ((startsF t x).map (Value.int .i64)) ∧ Below w.heap.size w w' := by
  obtain ⟨d0, d1, u0, u1, f0, f1, s0, s1, l0, l1⟩ := hw
  obtain ⟨i0, hi, hz0, hz1, hz2⟩ := info_parts info3
  obtain ⟨S, cap, hb, hsea⟩ := hP.blk
  have hin : i < n' := by have := (List.getElem?_eq_some_iff.1 hx).1; have := hP.works.1; omega
  obtain ⟨ad, rfl, ha⟩ := hP.works.2 i x hx
  obtain ⟨c0, c1, c2, c3, c4, c5, c6⟩ := ha.seven
  have p3 := hb.cell (i := 3) rfl
  have hii : (i : Int) < (n' : Int) := by omega
  have HP := Lib.hid hP; clear hP
  have HX := Lib.hid hx; clear hx
  clear hb hsea ha
  go_enter Tryz.func46, Tryz.ntmps46
  go_wp2
  obtain ⟨W1, hW1⟩ : ∃ W1, w.alloc (Obj.cells #[.string x.name, .int .i64 x.gate, .int .i64 x.days, .int .i64 x.frm, .int .i64 x.til, .int .i64 x.step, .int .i64 x.level] 128) = W1 := ⟨_, rfl⟩
  have K1 : Hid (Blk W1 w.heap.size 128 #[.string x.name, .int .i64 x.gate, .int .i64 x.days, .int .i64 x.frm, .int .i64 x.til, .int .i64 x.step, .int .i64 x.level]) := by rw [← hW1]; exact Blk.new _ _ _ rfl
  have HB1 : Hid (Below w.heap.size w W1) := by rw [← hW1]; exact (Below.refl _ _).alloc (Nat.le_refl _) _
  rw [hW1]
  have hsz1 : W1.heap.size = w.heap.size + 1 := by rw [← hW1]; simp
  have HSZ1 := Lib.hid hsz1; clear hsz1
  clear hW1 c0 c1 c2 c3 c4 c5 c6 p3
  go_loopw [4, 6] (fun v q wr => ∃ (d : Int) (f : Nat) (ls : List Int), q = .int .i64 d ∧ 0 ≤ d ∧ d ≤ 1000 ∧ (x.til + 1 - d).toNat ≤ f ∧ ls.length + f ≤ 400 ∧ ls ++ (triesG x.til x.step f d).filter (fun d => decide (badF t x d < 0)) = startsF t x ∧ wr.ownsRow (w.heap.size + 1) 3 1 v ls.length (ls.map (Value.int .i64)) ∧ Below W1.heap.size W1 wr) (fun _ q _ => (x.til + 1 - intOf q).toNat)
  case atStart => exact ⟨x.frm, 400, [], rfl, f0, by omega, by omega, by simp, rfl, World.ownsRow_nil _ _ _ _, Below.refl _ _⟩
  case round =>
    obtain ⟨d, f, ls, rfl, g0, g1, g2, g3, g4, hown, hB⟩ := hrel
    have HB := Lib.hid hB; clear hB
    have G4 := Lib.hid g4; clear g4
    have kk := K1.out.later HB.out
    have e4 := kk.cell (i := 4) rfl
    have e5 := kk.cell (i := 5) rfl
    have hsz := kk.lt
    clear kk
    have HBw : Hid (Below w.heap.size w wr) := HB1.out.trans (HB.out.mono HB1.out.size)
    by_cases hlt : d ≤ x.til
    · obtain ⟨f', rfl⟩ : ∃ f', f = f' + 1 := ⟨f - 1, by omega⟩
      have hdl : decide (d ≤ x.til) = true := by simpa using hlt
      have HT : Hid (triesG x.til x.step (f' + 1) d = d :: triesG x.til x.step f' (d + x.step)) := by rw [triesG, if_pos hlt]; rfl
      have HCB := Lib.hid (bad_any t p A n c (some ad) n' c' i x d wr (HP.out.below HBw.out) HX.out (by omega) (by omega) g0 (by omega))
      by_cases hbd : badF t x d < 0
      · have hbd' : decide (badF t x d < 0) = true := by simpa using hbd
        have G5 : Hid ((ls ++ [d]) ++ (triesG x.til x.step f' (d + x.step)).filter (fun d => decide (badF t x d < 0)) = startsF t x) := by
          have := G4.out
          rw [HT.out, List.filter_cons, if_pos hbd'] at this
          rw [List.append_assoc]
          exact this
        generalize badF t x d = bd at *
        go_wp2_with (first | (go_at_call 69; refine HCB.out.mono ?_; rintro e w' ⟨rfl, rfl⟩) | (at_builtin; refine wpList_append_own _ rfl _ _ 31 rfl (w.heap.size + 1) 3 i0 (.int .i64 0) 1 8 Tryz.underlying31 hi hz0 hz1 hz2 rfl (by decide) _ _ _ rfl (hown.alloc _) ⟨wr.heap.size, 0, none⟩ 1 1 [.int .i64 d] rfl rfl (cell_one_new _ _ _) (by simp [Value.oneCell']) (by unfold maxLen; omega) (by omega) (by simp; omega) ?_; intro v' w2 hown' hgrow _; have HB2 : Hid (Below W1.heap.size W1 w2) := ((HB.out.alloc HB.out.size _).grown hgrow (by have := HB.out.size; simp; omega) (fun j e => by have := (hown.lt j e).1; have := HSZ1.out; omega)); clear hgrow; have e5' := (K1.out.later HB2.out).cell (i := 5) rfl))
        go_roundw
        case rel => exact ⟨d + x.step, f', ls ++ [d], rfl, by omega, by omega, by omega, by simp; omega, G5.out, by rw [List.length_append, List.map_append]; exact hown', HB2.out⟩
        case measure => simp [intOf]; omega
      · have hbd' : decide (badF t x d < 0) = false := by simpa using hbd
        have G5 : Hid (ls ++ (triesG x.til x.step f' (d + x.step)).filter (fun d => decide (badF t x d < 0)) = startsF t x) := by
          have := G4.out
          rw [HT.out, List.filter_cons, if_neg (by rw [hbd']; simp)] at this
          exact this
        generalize badF t x d = bd at *
        go_wp2_with (go_at_call 69; refine HCB.out.mono ?_; rintro e w' ⟨rfl, rfl⟩)
        go_roundw
        case rel => exact ⟨d + x.step, f', ls, rfl, by omega, by omega, by omega, by omega, G5.out, hown, HB.out⟩
        case measure => simp [intOf]; omega
    · have hdl : decide (d ≤ x.til) = false := by simpa using hlt
      have HT : Hid (triesG x.til x.step f d = []) := by cases f with | zero => rfl | succ f => rw [triesG, if_neg hlt]; rfl
      have G5 : Hid (ls = startsF t x) := by have := G4.out; rw [HT.out, List.filter_nil, List.append_nil] at this; exact this
      go_wp2
      go_ret
      refine ⟨_, rfl, ?_, HBw.out⟩
      rw [← G5.out]
      exact own_lower hown (by omega)
end Go.Proofs.YtjdaigffgfnhaaaGreat
