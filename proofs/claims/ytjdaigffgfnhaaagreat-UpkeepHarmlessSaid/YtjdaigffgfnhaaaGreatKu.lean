/- The law: UpkeepHarmless returns true. -/
import Derived.Test.YtjdaigffgfnhaaaGreatKq
import Derived.Test.YtjdaigffgfnhaaaGreatKr
import Derived.Test.YtjdaigffgfnhaaaGreatKm
import Derived.Test.YtjdaigffgfnhaaaGreatAw
import Derived.Test.YtjdaigffgfnhaaaGreatOr
import Derived.Deep.CutRange
import Derived.Deep.CutBlock
namespace Go.Proofs.YtjdaigffgfnhaaaGreat
open Go.RowKit

theorem own_sliceU {w : World} {base : Nat} {e : TypeId} {size : Nat} {v : Value} {n : Nat} {xs : List Value} (h : w.ownsRow base e size v n xs) : ∃ A c, v = .slice A n c ∧ n ≤ c := by
  rcases h.2 with ⟨rfl, rfl⟩ | ⟨g, cap, cur, rfl, _, _, hc, _⟩
  · exact ⟨none, 0, rfl, Nat.le_refl _⟩
  · exact ⟨_, cap, rfl, hc⟩

theorem rdI_zero {w : World} {g n : Nat} (h : Blk w g 3 (ordA n 0)) : RdI w (some ⟨g, 0, none⟩) n (List.replicate n 0) := by
  refine ⟨by simp, fun i x hx => ⟨_, rfl, fun j v hj => ?_⟩⟩
  rw [List.getElem?_replicate] at hx
  by_cases hi : i < n
  · rw [if_pos hi] at hx
    cases hx
    match j, hj with
    | 0, hj =>
      cases hj
      have := h.cell (ordA_get n 0 i hi)
      by_cases h0 : i = 0
      · subst h0; simpa [Addr.add] using this
      · simpa [Addr.add, h0] using this
    | j + 1, hj => cases hj
  · rw [if_neg hi] at hx
    cases hx
theorem rdI_own' {w : World} {base : Nat} {A : Option Addr} {n c : Nat} {xs : List Int} (h : w.ownsRow base 3 1 (.slice A n c) n (xs.map (Value.int .i64))) (hn : xs.length = n) : RdI w A n xs := by
  obtain ⟨A', c', e, h', _⟩ := rdI_of_own h hn
  cases e
  exact h'

set_option maxRecDepth 100000 in
set_option maxHeartbeats 4000000 in
theorem harmless_any (r : Rec) (d k lvl : Int) (Y : Value) (RA : Option Addr) (rn rc : Nat) (t : Clt) (m : ClM) (H R : Value) (w : World) (hr : RdH w RA rn r.highs) (hm : rn ≤ maxLen) (hin : ClIn w t m) :
    Calls Tryz.prog 3 #[.agg #[.int .i64 r.first, .int .i64 r.years, .slice RA rn rc], .agg #[.int .i64 d, .int .i64 k, .int .i64 lvl, Y], .agg (t.inV m H R).toArray] w fun e w' => e = .returned (.bool true) ∧ Below w.heap.size w w' := by
  unfold maxLen at hm
  have HRk : Hid (∀ W, Below w.heap.size w W → Calls Tryz.prog 4 #[.agg #[.int .i64 r.first, .int .i64 r.years, .slice RA rn rc], .int .i64 d, .int .i64 k, .int .i64 lvl] W fun e w' => e = .returned (.tuple #[.agg #[.int .i64 (riskTop r d k lvl).1.1, .int .i64 (riskTop r d k lvl).1.2], .int .i64 (riskTop r d k lvl).2]) ∧ Below W.heap.size W w') := fun W hb => Risk_any r d k lvl RA rn rc W (hr.below hb)
  have HG : Hid ((riskTop r d k lvl).2 = 0 → (riskTop r d k lvl).1.1 ≤ 0 → d + k ≤ 365 → ∀ j, ∀ v ∈ gath d k (r.highs.take j), v ≤ lvl) := fun a b c j => harmless_le a b c j
  have HD : Hid ((riskTop r d k lvl).2 = 0 → (0 ≤ d ∧ d ≤ 364) ∧ 1 ≤ k ∧ k ≤ 365) := fun h => ⟨(riskTop_parts h).2.1, (riskTop_parts h).2.2.1⟩
  have HR := Lib.hid hr; have HI := Lib.hid hin; clear hr hin
  generalize riskTop r d k lvl = X at *
  obtain ⟨⟨x1, x2⟩, x3⟩ := X
  dsimp only at HRk HG HD
  obtain ⟨A, n, c, A', n', c', Af, nf, cf, hb, ch, Ah, nh, cv, Ar, cr⟩ := m
  obtain ⟨bas, filled, hv, out, limit, delay⟩ := t
  dsimp only [Clt.inV] at *
  go_enter Tryz.func3, Tryz.ntmps3
  go_wp2_with fail
  obtain ⟨W1, hW1⟩ : ∃ W1, ((w.alloc (Obj.cells #[.int .i64 r.first, .int .i64 r.years, .slice RA rn rc] 24)).alloc (Obj.cells #[.int .i64 d, .int .i64 k, .int .i64 lvl, Y] 26)).alloc (Obj.cells #[.slice A n c, .int .i64 bas.leak, .int .i64 bas.crest, .int .i64 bas.over, .slice A' n' c', .slice Af nf cf, H, R, .int .i64 out, .int .i64 limit, .int .i64 delay] 34) = W1 := ⟨_, rfl⟩
  have HB1 : Hid (Below w.heap.size w W1) := by rw [← hW1]; exact (((Below.refl _ w).alloc (Nat.le_refl _) _).alloc (by simp) _).alloc (by simp; omega) _
  have R1 : Hid (Blk W1 w.heap.size 24 #[.int .i64 r.first, .int .i64 r.years, .slice RA rn rc]) := by rw [← hW1]; exact ((Blk.new _ _ _ rfl).alloc _).alloc _
  have V1 : Hid (Blk W1 (w.heap.size + 1) 26 #[.int .i64 d, .int .i64 k, .int .i64 lvl, Y]) := by rw [← hW1]; exact (Blk.new _ _ _ (by simp)).alloc _
  have T1 : Hid (Blk W1 (w.heap.size + 1 + 1) 34 #[.slice A n c, .int .i64 bas.leak, .int .i64 bas.crest, .int .i64 bas.over, .slice A' n' c', .slice Af nf cf, H, R, .int .i64 out, .int .i64 limit, .int .i64 delay]) := by rw [← hW1]; exact Blk.new _ _ _ (by simp)
  rw [hW1]
  clear hW1
  refine (HRk.out W1 HB1.out).mono ?_
  rintro e W2 ⟨rfl, hb2⟩
  have HB2 : Hid (Below w.heap.size w W2) := HB1.out.trans (hb2.mono HB1.out.size)
  have R2 := Lib.hid (R1.out.later hb2)
  have V2 := Lib.hid (V1.out.later hb2)
  have T2 := Lib.hid (T1.out.later hb2)
  clear HB1 R1 V1 T1 HRk hb2
  by_cases he : x3 ≠ 0
  · have he' : (x3 != 0) = true := by simpa using he
    clear he
    go_wp2_with fail
    refine (Awake_any _).mono ?_
    rintro e W4 ⟨rfl, hb4⟩
    have hX : Below w.heap.size w (W2.alloc (Obj.cells #[.int .i64 x1, .int .i64 x2] 36)) := HB2.out.alloc HB2.out.size _
    have HB4 := Lib.hid (hX.trans (hb4.mono hX.size))
    clear hX hb4
    go_wp2_with fail
    go_ret
    exact ⟨rfl, HB4.out⟩
  obtain rfl : x3 = 0 := by omega
  clear he
  obtain ⟨⟨d0, d1⟩, k0, k1⟩ := HD.out rfl
  have v0 := V2.out.cell (i := 0) rfl
  have v1 := V2.out.cell (i := 1) rfl
  have hv0 := V2.out.lt
  by_cases hx1 : 0 < x1
  · go_wp2_with fail
    refine (Awake_any _).mono ?_
    rintro e W4 ⟨rfl, hb4⟩
    have hX : Below w.heap.size w (W2.alloc (Obj.cells #[.int .i64 x1, .int .i64 x2] 36)) := HB2.out.alloc HB2.out.size _
    have HB4 := Lib.hid (hX.trans (hb4.mono hX.size))
    clear hX hb4
    go_wp2_with fail
    go_ret
    exact ⟨rfl, HB4.out⟩
  by_cases hdk : 365 < d + k
  · go_wp2_with fail
    refine (Awake_any _).mono ?_
    rintro e W4 ⟨rfl, hb4⟩
    have hX : Below w.heap.size w (W2.alloc (Obj.cells #[.int .i64 x1, .int .i64 x2] 36)) := HB2.out.alloc HB2.out.size _
    have HB4 := Lib.hid (hX.trans (hb4.mono hX.size))
    clear hX hb4
    go_wp2_with fail
    go_ret
    exact ⟨rfl, HB4.out⟩
  have HGA : Hid (∀ j, ∀ v ∈ gath d k (r.highs.take j), v ≤ lvl) := HG.out rfl (by omega) (by omega)
  clear HG HD
  go_upto_block 0 with (fail)
  go_cut [10] from 43 to 82 (fun _ wx => ∃ (v : Value) (l : List Int), (∀ x ∈ l, x ≤ lvl) ∧ l.length ≤ 60 ∧ Blk wx (W2.heap.size + 1) 42 #[.int .i64 0, v] ∧ wx.ownsRow (W2.heap.size + 1 + 1) 3 1 v l.length (l.map (Value.int .i64)) ∧ Below W2.heap.size W2 wx)
  case first =>
    go_wp2_with fail
    obtain ⟨W3, hW3⟩ : ∃ W3, (W2.alloc (Obj.cells #[.int .i64 x1, .int .i64 x2] 36)).alloc (Obj.cells #[.int .i64 0, .slice none 0 0] 42) = W3 := ⟨_, rfl⟩
    have hB3 : Below W2.heap.size W2 W3 := by rw [← hW3]; exact ((Below.refl _ _).alloc (Nat.le_refl _) _).alloc (by simp) _
    have S3 : Hid (Blk W3 (W2.heap.size + 1) 42 #[.int .i64 0, .slice none 0 0]) := by rw [← hW3]; exact Blk.new _ _ _ (by simp)
    rw [hW3]
    clear hW3
    have HB3 : Hid (Below w.heap.size w W3) := HB2.out.trans (hB3.mono HB2.out.size)
    have R3 := Lib.hid (R2.out.later hB3)
    have V3 := Lib.hid (V2.out.later hB3)
    have T3 := Lib.hid (T2.out.later hB3)
    have hs2 := T2.out.lt
    have hs3 := S3.out.lt
    have HB23 := Lib.hid hB3
    clear hB3 R2 V2 T2 HB2 v0 v1 hv0
    have hW2 : w.heap.size + 1 + 1 < W2.heap.size := hs2
    obtain ⟨i0, hi, hz0, hz1, hz2⟩ := info_parts info3
    go_loopw [10] (fun q wr => ∃ (j : Nat) (v : Value) (l : List Int), j ≤ rn ∧ q = .int .i64 j ∧ l = gath d k (r.highs.take j) ∧ l.length ≤ 60 ∧ Blk wr (W2.heap.size + 1) 42 #[.int .i64 0, v] ∧ wr.ownsRow (W2.heap.size + 1 + 1) 3 1 v l.length (l.map (Value.int .i64)) ∧ Below (W2.heap.size + 1) W3 wr) (fun q _ => rn - (intOf q).toNat)
    case atStart => exact ⟨0, _, [], Nat.zero_le _, rfl, by simp [gath], by simp, S3.out, World.ownsRow_nil _ _ _ _, Below.refl _ _⟩
    case round =>
      obtain ⟨j, v, l, hj, rfl, hl, h60, hS, hO, hB⟩ := hrel
      have HL := Lib.hid hl; clear hl
      have SR := Lib.hid hS; clear hS
      have HO := Lib.hid hO; clear hO
      have HB := Lib.hid hB; clear hB
      have HBw : Hid (Below w.heap.size w wr) := HB3.out.trans (HB.out.mono (by omega))
      have RR := Lib.hid (R3.out.below HB.out (by omega))
      have VR := Lib.hid (V3.out.below HB.out (by omega))
      have TR := Lib.hid (T3.out.below HB.out (by omega))
      have r2 := RR.out.cell (i := 2) rfl
      have s1 := SR.out.cell (i := 1) rfl
      have v0 := VR.out.cell (i := 0) rfl
      have v1 := VR.out.cell (i := 1) rfl
      have hlr := SR.out.lt
      obtain ⟨Av, cv', rfl, _⟩ := own_sliceU HO.out
      by_cases hlt : j < rn
      · by_cases hf : l.length < 60
        · obtain ⟨x, ad, hx, rfl, ha⟩ := (HR.out.below HBw.out).get hlt
          obtain ⟨c0, c1, c2⟩ := ha.three
          have HX := Lib.hid (gath_succ (d := d) (m := k) hx); clear ha hx
          have va0 := cell_alloc v0 (Obj.cells #[.int .i64 x.year, .int .i64 x.day, .int .i64 x.level] 44)
          have va1 := cell_alloc v1 (Obj.cells #[.int .i64 x.year, .int .i64 x.day, .int .i64 x.level] 44)
          have sa1 := cell_alloc s1 (Obj.cells #[.int .i64 x.year, .int .i64 x.day, .int .i64 x.level] 44)
          by_cases hw1 : d ≤ x.day
          · by_cases hw2 : x.day < d + k
            · have HX2 : Hid (gath d k (r.highs.take (j + 1)) = l ++ [x.level]) := by
                have := HX.out
                rw [if_pos (by unfold inW; simp; omega), ← HL.out] at this
                exact this
              clear HX
              have hO5 := HO.out.alloc (Obj.cells #[.int .i64 x.year, .int .i64 x.day, .int .i64 x.level] 44)
              have S5 := Lib.hid (SR.out.alloc (Obj.cells #[.int .i64 x.year, .int .i64 x.day, .int .i64 x.level] 44))
              have hB5 := HB.out.alloc (by have := HB.out.size; omega) (Obj.cells #[.int .i64 x.year, .int .i64 x.day, .int .i64 x.level] 44)
              have HB5 := Lib.hid hB5; have HO5 := Lib.hid hO5; clear hB5 hO5
              go_wp2_with (at_builtin; refine wpList_append_own _ rfl _ _ 31 rfl (W2.heap.size + 1 + 1) 3 i0 (.int .i64 0) 1 8 Tryz.underlying31 hi hz0 hz1 hz2 rfl (by decide) _ _ _ rfl (HO5.out.alloc _) ⟨wr.heap.size + 1, 0, none⟩ 1 1 [.int .i64 x.level] rfl rfl (by have := cell_one_new (wr.alloc (Obj.cells #[.int .i64 x.year, .int .i64 x.day, .int .i64 x.level] 44)) (.int .i64 x.level) 3; simpa using this) (by simp [Value.oneCell']) (by unfold maxLen; omega) (by omega) (by simp; omega) ?_; intro v' w2 hown' hgrow _; obtain ⟨Ap, cp, rfl, _⟩ := own_sliceU hown'; have S6 := Lib.hid ((S5.out.alloc _).grown hgrow (fun e => by have := (HO5.out.lt _ e.symm).1; omega)); have HO6 := Lib.hid hown'; have HB6 := Lib.hid (below_grown (HB5.out.alloc (by have := HB5.out.size; simp; omega) _) hgrow (fun r e => by have := (HO5.out.lt _ e).1; omega) (by have := HB5.out.size; simp; omega)); have e1 := S6.out.cell (i := 1) rfl; have f1 := S6.out.frozen 1; have hl6 := S6.out.lt; clear hown' hgrow)
              have HO7 : Hid ((w2.setCell ⟨W2.heap.size + 1, 1, none⟩ (.slice Ap (l.length + 1) cp)).ownsRow (W2.heap.size + 1 + 1) 3 1 (.slice Ap (l.length + 1) cp) (l.length + 1) (l.map (Value.int .i64) ++ [.int .i64 x.level])) := HO6.out.kept (grown_set _ _ _) (.inr (by intro e; have := (HO6.out.lt _ (by first | exact e | exact e.symm)).1; dsimp only at this; omega))
              refine ⟨⟨j + 1, .slice Ap (l.length + 1) cp, l ++ [x.level], by omega, by go_num, HX2.out.symm, by simp; omega, S6.out.set 1 _, by rw [List.length_append, List.map_append]; exact HO7.out, HB6.out.setCell (Nat.le_refl _) _⟩, by simp [intOf]; omega⟩
            · have HX2 : Hid (gath d k (r.highs.take (j + 1)) = l) := by
                have := HX.out
                rw [if_neg (by unfold inW; simp; omega), ← HL.out, List.append_nil] at this
                exact this
              clear HX
              go_wp2_with fail
              exact ⟨⟨j + 1, _, l, by omega, by go_num, HX2.out.symm, h60, SR.out.alloc _, HO.out.alloc _, HB.out.alloc (by have := HB.out.size; omega) _⟩, by simp [intOf]; omega⟩
          · have HX2 : Hid (gath d k (r.highs.take (j + 1)) = l) := by
              have := HX.out
              rw [if_neg (by unfold inW; simp; omega), ← HL.out, List.append_nil] at this
              exact this
            clear HX
            go_wp2_with fail
            exact ⟨⟨j + 1, _, l, by omega, by go_num, HX2.out.symm, h60, SR.out.alloc _, HO.out.alloc _, HB.out.alloc (by have := HB.out.size; omega) _⟩, by simp [intOf]; omega⟩
        · go_wp2_with fail
          go_meet
          case rel => exact ⟨_, l, by rw [HL.out]; exact HGA.out j, h60, SR.out, HO.out, HB23.out.trans (HB.out.mono (Nat.le_succ _))⟩
      · go_wp2_with fail
        go_meet
        case rel => exact ⟨_, l, by rw [HL.out]; exact HGA.out j, h60, SR.out, HO.out, HB23.out.trans (HB.out.mono (Nat.le_succ _))⟩
  case rest =>
    obtain ⟨v, l, hall, h60, hS, hO, hB⟩ := hcut
    have HS := Lib.hid hS; have HO := Lib.hid hO
    have HBX : Hid (Below w.heap.size w wc) := HB2.out.trans (hB.mono HB2.out.size)
    have R3 := Lib.hid (R2.out.later hB)
    have V3 := Lib.hid (V2.out.later hB)
    have T3 := Lib.hid (T2.out.later hB)
    have hs2 := T2.out.lt
    have hsc := HS.out.lt
    clear hS hO hB R2 V2 T2 HB2 v0 v1 hv0 HGA
    obtain ⟨Av, cv', rfl, hcv⟩ := own_sliceU HO.out
    go_upto_region 11 with (fail)
    go_cut [] from 83 to 93 (fun wx => ∃ (g gr cr : Nat), Blk wx (w.heap.size + 1 + 1) 34 #[.slice A n c, .int .i64 bas.leak, .int .i64 bas.crest, .int .i64 bas.over, .slice A' n' c', .slice Af nf cf, .slice (some ⟨g, 0, none⟩) 1 1, .slice (some ⟨gr, 0, none⟩) l.length cr, .int .i64 out, .int .i64 lvl, .int .i64 delay] ∧ wx.cell? ⟨g, 0, none⟩ = some (.int .i64 0) ∧ wx.cell? ⟨g, 1, none⟩ = some (.slice Av l.length cv') ∧ RdI wx Av l.length l ∧ RdI wx (some ⟨gr, 0, none⟩) l.length (List.replicate l.length 0) ∧ Below w.heap.size w wx)
    case first =>
      have hmk := run_make_row' (P := Tryz.prog) 31 3 (.int .i64 0) 8 Tryz.underlying31 info3 rfl .i64 .i64 l.length (by omega) (by omega)
      have x0 := laterBut_cell (row := some (w.heap.size + 1 + 1)) (HS.out.cell (i := 0) rfl) (by simp; omega)
      have x1 := laterBut_cell (row := some (w.heap.size + 1 + 1)) (HS.out.cell (i := 1) rfl) (by simp; omega)
      have x2 := laterBut_cell (row := some (w.heap.size + 1 + 1)) (V3.out.cell (i := 2) rfl) (by simp)
      have hTc := T3.out.lt
      have HS0 : Hid ((fun w' => ∃ u : LaterBut wc (some (w.heap.size + 1 + 1)), w' = u.w) wc.drew) := ⟨⟨wc.drew, grown_of_below (Below.refl _ _).drew _⟩, rfl⟩
      refine wp_region_tr (fun w' => ∃ u : LaterBut wc (some (w.heap.size + 1 + 1)), w' = u.w) 12 (.qu 0 (.qu 2 (.qu 3 (.qu 4 (.qu 6 (.qu 7 (.tw 1 (.qu 8 (.tw 5 (.on 9 (.qu 10 (.on 11 (.on 12 (.on 13 .leaf))))) 9 (.on 5 (.qu 10 (.on 11 (.on 12 (.on 13 .leaf))))))) 5 (.on 1 (.qu 8 (.on 9 (.qu 10 (.on 11 (.on 12 (.on 13 .leaf))))))))))))))  (by kernel_rfl) (by kernel_rfl) ?_
      simp only [TrN.fill, List.getElem?_cons_zero, List.getElem?_cons_succ]
      iterate 6 ((first | refine tr_quiet rfl rfl HS0.out ?_ | refine tr_valQ _ (run_lenT _ _ _ Tryz.underlying31 _ _ _ rfl rfl) rfl HS0.out ?_); intro K hK; go_big_quiet_op; go_big_quiet_on)
      clear x0 x1 x2
      refine tr_tw ?_ ?_
      · go_wp2_with fail
        obtain ⟨W4, hW⟩ : ∃ W, (wc.alloc (Obj.cells #[.int .i64 0, .slice Av l.length cv'] 42)).drew = W := ⟨_, rfl⟩
        have TT1 : Hid (Blk W4 (w.heap.size + 1 + 1) 34 #[.slice A n c, .int .i64 bas.leak, .int .i64 bas.crest, .int .i64 bas.over, .slice A' n' c', .slice Af nf cf, H, R, .int .i64 out, .int .i64 limit, .int .i64 delay]) := by rw [← hW]; exact (T3.out.alloc _).drw
        have GW1 : Hid (wc.grownBy W4 (some (w.heap.size + 1 + 1))) := by rw [← hW]; exact grown_of_below ((Below.refl _ _).alloc (Nat.le_refl _) _).drew _
        have GG1 : Hid (Blk W4 (wc.heap.size) 42 #[.int .i64 0, .slice Av l.length cv']) := by rw [← hW]; exact (Blk.new _ _ _ rfl).drw
        have hz1 := GW1.out.size
        rw [hW]
        clear hW
        refine mix_post (fun _ => ⟨⟨W4, GW1.out⟩, rfl⟩) ?_
        refine tr_quiet rfl rfl ⟨⟨W4, GW1.out⟩, rfl⟩ ?_
        intro K hK; go_big_quiet_op; go_big_quiet_on
        refine tr_tw ?_ ?_
        · go_wp2_with fail
          obtain ⟨W5, hW⟩ : ∃ W, W4.alloc (Obj.cells (madeCells #[Value.int .i64 0] l.length) 3) = W := ⟨_, rfl⟩
          have TT2 : Hid (Blk W5 (w.heap.size + 1 + 1) 34 #[.slice A n c, .int .i64 bas.leak, .int .i64 bas.crest, .int .i64 bas.over, .slice A' n' c', .slice Af nf cf, H, R, .int .i64 out, .int .i64 limit, .int .i64 delay]) := by rw [← hW]; exact TT1.out.alloc _
          have GW2 : Hid (wc.grownBy W5 (some (w.heap.size + 1 + 1))) := by rw [← hW]; exact grown_tr GW1.out (World.grownBy_alloc _ _ none) (fun r e => by cases e)
          have GG2 : Hid (Blk W5 (wc.heap.size) 42 #[.int .i64 0, .slice Av l.length cv']) := by rw [← hW]; exact GG1.out.alloc _
          have MM2 : Hid (Blk W5 (W4.heap.size) 3 (ordA l.length 0)) := by rw [← hW, ordA_zero]; exact Blk.new _ _ _ rfl
          have hz2 := GW2.out.size
          rw [hW]
          clear hW
          refine mix_post (fun _ => ⟨⟨W5, GW2.out⟩, rfl⟩) ?_
          have f6 := TT2.out.frozen 6
          have cc6 := TT2.out.cell (i := 6) rfl
          have hl6 := TT2.out.lt
          refine tr_on ?_
          go_wp2_with fail
          obtain ⟨W6, hW⟩ : ∃ W, W5.setCell ⟨w.heap.size + 1 + 1, 6, none⟩ (.slice (some ⟨wc.heap.size, 0, none⟩) 1 1) = W := ⟨_, rfl⟩
          have TT3 : Hid (Blk W6 (w.heap.size + 1 + 1) 34 #[.slice A n c, .int .i64 bas.leak, .int .i64 bas.crest, .int .i64 bas.over, .slice A' n' c', .slice Af nf cf, .slice (some ⟨wc.heap.size, 0, none⟩) 1 1, R, .int .i64 out, .int .i64 limit, .int .i64 delay]) := by rw [← hW]; exact TT2.out.set 6 _
          have GW3 : Hid (wc.grownBy W6 (some (w.heap.size + 1 + 1))) := by rw [← hW]; exact grown_tr GW2.out (grown_set _ _ _) (fun r e => by cases e; exact .inl rfl)
          have GG3 : Hid (Blk W6 (wc.heap.size) 42 #[.int .i64 0, .slice Av l.length cv']) := by rw [← hW]; exact GG2.out.far (by dsimp only; omega) _
          have MM3 : Hid (Blk W6 (W4.heap.size) 3 (ordA l.length 0)) := by rw [← hW]; exact MM2.out.far (by dsimp only; omega) _
          have hz3 := GW3.out.size
          rw [hW]
          clear hW
          refine mix_post (fun _ => ⟨⟨W6, GW3.out⟩, rfl⟩) ?_
          refine tr_quiet rfl rfl ⟨⟨W6, GW3.out⟩, rfl⟩ ?_
          intro K hK; go_big_quiet_op; go_big_quiet_on
          have f7 := TT3.out.frozen 7
          have cc7 := TT3.out.cell (i := 7) rfl
          have hl7 := TT3.out.lt
          refine tr_on ?_
          go_wp2_with fail
          obtain ⟨W7, hW⟩ : ∃ W, W6.setCell ⟨w.heap.size + 1 + 1, 7, none⟩ (.slice (some ⟨W4.heap.size, 0, none⟩) l.length l.length) = W := ⟨_, rfl⟩
          have TT4 : Hid (Blk W7 (w.heap.size + 1 + 1) 34 #[.slice A n c, .int .i64 bas.leak, .int .i64 bas.crest, .int .i64 bas.over, .slice A' n' c', .slice Af nf cf, .slice (some ⟨wc.heap.size, 0, none⟩) 1 1, .slice (some ⟨W4.heap.size, 0, none⟩) l.length l.length, .int .i64 out, .int .i64 limit, .int .i64 delay]) := by rw [← hW]; exact TT3.out.set 7 _
          have GW4 : Hid (wc.grownBy W7 (some (w.heap.size + 1 + 1))) := by rw [← hW]; exact grown_tr GW3.out (grown_set _ _ _) (fun r e => by cases e; exact .inl rfl)
          have GG4 : Hid (Blk W7 (wc.heap.size) 42 #[.int .i64 0, .slice Av l.length cv']) := by rw [← hW]; exact GG3.out.far (by dsimp only; omega) _
          have MM4 : Hid (Blk W7 (W4.heap.size) 3 (ordA l.length 0)) := by rw [← hW]; exact MM3.out.far (by dsimp only; omega) _
          have hz4 := GW4.out.size
          rw [hW]
          clear hW
          refine mix_post (fun _ => ⟨⟨W7, GW4.out⟩, rfl⟩) ?_
          refine tr_on ?_
          go_wp2_with fail
          refine mix_post (fun h => absurd h (by decide)) ?_
          have f9 := TT4.out.frozen 9
          have cc9 := TT4.out.cell (i := 9) rfl
          have hl9 := TT4.out.lt
          refine tr_on ?_
          go_wp2_with fail
          obtain ⟨W8, hW⟩ : ∃ W, W7.setCell ⟨w.heap.size + 1 + 1, 9, none⟩ (.int .i64 lvl) = W := ⟨_, rfl⟩
          have TT5 : Hid (Blk W8 (w.heap.size + 1 + 1) 34 #[.slice A n c, .int .i64 bas.leak, .int .i64 bas.crest, .int .i64 bas.over, .slice A' n' c', .slice Af nf cf, .slice (some ⟨wc.heap.size, 0, none⟩) 1 1, .slice (some ⟨W4.heap.size, 0, none⟩) l.length l.length, .int .i64 out, .int .i64 lvl, .int .i64 delay]) := by rw [← hW]; exact TT4.out.set 9 _
          have GW5 : Hid (wc.grownBy W8 (some (w.heap.size + 1 + 1))) := by rw [← hW]; exact grown_tr GW4.out (grown_set _ _ _) (fun r e => by cases e; exact .inl rfl)
          have GG5 : Hid (Blk W8 (wc.heap.size) 42 #[.int .i64 0, .slice Av l.length cv']) := by rw [← hW]; exact GG4.out.far (by dsimp only; omega) _
          have MM5 : Hid (Blk W8 (W4.heap.size) 3 (ordA l.length 0)) := by rw [← hW]; exact MM4.out.far (by dsimp only; omega) _
          have hz5 := GW5.out.size
          rw [hW]
          clear hW
          refine mix_post (fun h => absurd h (by decide)) ?_
          refine tr_leaf (NoPanic.normal ?_)
          refine Met.intro ?_
          go_step
          go_meet
          case rel => exact ⟨_, _, _, TT5.out, GG5.out.cell (i := 0) rfl, GG5.out.cell (i := 1) rfl, rdI_own' (HO.out.kept GW5.out (.inr (by intro e; have := (HO.out.lt _ (by first | exact e | exact e.symm)).1; omega))) rfl, rdI_zero MM5.out, below_grown HBX.out GW5.out (fun r e => by cases e; omega) HBX.out.size⟩
        · have f6 := TT1.out.frozen 6
          have cc6 := TT1.out.cell (i := 6) rfl
          have hl6 := TT1.out.lt
          go_wp2_with fail
          obtain ⟨W5, hW⟩ : ∃ W, W4.setCell ⟨w.heap.size + 1 + 1, 6, none⟩ (.slice (some ⟨wc.heap.size, 0, none⟩) 1 1) = W := ⟨_, rfl⟩
          have TT2 : Hid (Blk W5 (w.heap.size + 1 + 1) 34 #[.slice A n c, .int .i64 bas.leak, .int .i64 bas.crest, .int .i64 bas.over, .slice A' n' c', .slice Af nf cf, .slice (some ⟨wc.heap.size, 0, none⟩) 1 1, R, .int .i64 out, .int .i64 limit, .int .i64 delay]) := by rw [← hW]; exact TT1.out.set 6 _
          have GW2 : Hid (wc.grownBy W5 (some (w.heap.size + 1 + 1))) := by rw [← hW]; exact grown_tr GW1.out (grown_set _ _ _) (fun r e => by cases e; exact .inl rfl)
          have GG2 : Hid (Blk W5 (wc.heap.size) 42 #[.int .i64 0, .slice Av l.length cv']) := by rw [← hW]; exact GG1.out.far (by dsimp only; omega) _
          have hz2 := GW2.out.size
          rw [hW]
          clear hW
          refine mix_post (fun _ => ⟨⟨W5, GW2.out⟩, rfl⟩) ?_
          refine tr_on ?_
          go_wp2_with fail
          obtain ⟨W6, hW⟩ : ∃ W, W5.alloc (Obj.cells (madeCells #[Value.int .i64 0] l.length) 3) = W := ⟨_, rfl⟩
          have TT3 : Hid (Blk W6 (w.heap.size + 1 + 1) 34 #[.slice A n c, .int .i64 bas.leak, .int .i64 bas.crest, .int .i64 bas.over, .slice A' n' c', .slice Af nf cf, .slice (some ⟨wc.heap.size, 0, none⟩) 1 1, R, .int .i64 out, .int .i64 limit, .int .i64 delay]) := by rw [← hW]; exact TT2.out.alloc _
          have GW3 : Hid (wc.grownBy W6 (some (w.heap.size + 1 + 1))) := by rw [← hW]; exact grown_tr GW2.out (World.grownBy_alloc _ _ none) (fun r e => by cases e)
          have GG3 : Hid (Blk W6 (wc.heap.size) 42 #[.int .i64 0, .slice Av l.length cv']) := by rw [← hW]; exact GG2.out.alloc _
          have MM3 : Hid (Blk W6 (W5.heap.size) 3 (ordA l.length 0)) := by rw [← hW, ordA_zero]; exact Blk.new _ _ _ rfl
          have hz3 := GW3.out.size
          rw [hW]
          clear hW
          refine mix_post (fun _ => ⟨⟨W6, GW3.out⟩, rfl⟩) ?_
          refine tr_quiet rfl rfl ⟨⟨W6, GW3.out⟩, rfl⟩ ?_
          intro K hK; go_big_quiet_op; go_big_quiet_on
          have f7 := TT3.out.frozen 7
          have cc7 := TT3.out.cell (i := 7) rfl
          have hl7 := TT3.out.lt
          refine tr_on ?_
          go_wp2_with fail
          obtain ⟨W7, hW⟩ : ∃ W, W6.setCell ⟨w.heap.size + 1 + 1, 7, none⟩ (.slice (some ⟨W5.heap.size, 0, none⟩) l.length l.length) = W := ⟨_, rfl⟩
          have TT4 : Hid (Blk W7 (w.heap.size + 1 + 1) 34 #[.slice A n c, .int .i64 bas.leak, .int .i64 bas.crest, .int .i64 bas.over, .slice A' n' c', .slice Af nf cf, .slice (some ⟨wc.heap.size, 0, none⟩) 1 1, .slice (some ⟨W5.heap.size, 0, none⟩) l.length l.length, .int .i64 out, .int .i64 limit, .int .i64 delay]) := by rw [← hW]; exact TT3.out.set 7 _
          have GW4 : Hid (wc.grownBy W7 (some (w.heap.size + 1 + 1))) := by rw [← hW]; exact grown_tr GW3.out (grown_set _ _ _) (fun r e => by cases e; exact .inl rfl)
          have GG4 : Hid (Blk W7 (wc.heap.size) 42 #[.int .i64 0, .slice Av l.length cv']) := by rw [← hW]; exact GG3.out.far (by dsimp only; omega) _
          have MM4 : Hid (Blk W7 (W5.heap.size) 3 (ordA l.length 0)) := by rw [← hW]; exact MM3.out.far (by dsimp only; omega) _
          have hz4 := GW4.out.size
          rw [hW]
          clear hW
          refine mix_post (fun _ => ⟨⟨W7, GW4.out⟩, rfl⟩) ?_
          refine tr_on ?_
          go_wp2_with fail
          refine mix_post (fun h => absurd h (by decide)) ?_
          have f9 := TT4.out.frozen 9
          have cc9 := TT4.out.cell (i := 9) rfl
          have hl9 := TT4.out.lt
          refine tr_on ?_
          go_wp2_with fail
          obtain ⟨W8, hW⟩ : ∃ W, W7.setCell ⟨w.heap.size + 1 + 1, 9, none⟩ (.int .i64 lvl) = W := ⟨_, rfl⟩
          have TT5 : Hid (Blk W8 (w.heap.size + 1 + 1) 34 #[.slice A n c, .int .i64 bas.leak, .int .i64 bas.crest, .int .i64 bas.over, .slice A' n' c', .slice Af nf cf, .slice (some ⟨wc.heap.size, 0, none⟩) 1 1, .slice (some ⟨W5.heap.size, 0, none⟩) l.length l.length, .int .i64 out, .int .i64 lvl, .int .i64 delay]) := by rw [← hW]; exact TT4.out.set 9 _
          have GW5 : Hid (wc.grownBy W8 (some (w.heap.size + 1 + 1))) := by rw [← hW]; exact grown_tr GW4.out (grown_set _ _ _) (fun r e => by cases e; exact .inl rfl)
          have GG5 : Hid (Blk W8 (wc.heap.size) 42 #[.int .i64 0, .slice Av l.length cv']) := by rw [← hW]; exact GG4.out.far (by dsimp only; omega) _
          have MM5 : Hid (Blk W8 (W5.heap.size) 3 (ordA l.length 0)) := by rw [← hW]; exact MM4.out.far (by dsimp only; omega) _
          have hz5 := GW5.out.size
          rw [hW]
          clear hW
          refine mix_post (fun h => absurd h (by decide)) ?_
          refine tr_leaf (NoPanic.normal ?_)
          refine Met.intro ?_
          go_step
          go_meet
          case rel => exact ⟨_, _, _, TT5.out, GG5.out.cell (i := 0) rfl, GG5.out.cell (i := 1) rfl, rdI_own' (HO.out.kept GW5.out (.inr (by intro e; have := (HO.out.lt _ (by first | exact e | exact e.symm)).1; omega))) rfl, rdI_zero MM5.out, below_grown HBX.out GW5.out (fun r e => by cases e; omega) HBX.out.size⟩
      · go_wp2_with fail
        obtain ⟨W4, hW⟩ : ∃ W, (wc.alloc (Obj.cells (madeCells #[Value.int .i64 0] l.length) 3)).drew = W := ⟨_, rfl⟩
        have TT1 : Hid (Blk W4 (w.heap.size + 1 + 1) 34 #[.slice A n c, .int .i64 bas.leak, .int .i64 bas.crest, .int .i64 bas.over, .slice A' n' c', .slice Af nf cf, H, R, .int .i64 out, .int .i64 limit, .int .i64 delay]) := by rw [← hW]; exact (T3.out.alloc _).drw
        have GW1 : Hid (wc.grownBy W4 (some (w.heap.size + 1 + 1))) := by rw [← hW]; exact grown_of_below ((Below.refl _ _).alloc (Nat.le_refl _) _).drew _
        have MM1 : Hid (Blk W4 (wc.heap.size) 3 (ordA l.length 0)) := by rw [← hW, ordA_zero]; exact (Blk.new _ _ _ rfl).drw
        have hz1 := GW1.out.size
        rw [hW]
        clear hW
        refine mix_post (fun _ => ⟨⟨W4, GW1.out⟩, rfl⟩) ?_
        refine tr_on ?_
        go_wp2_with fail
        obtain ⟨W5, hW⟩ : ∃ W, W4.alloc (Obj.cells #[.int .i64 0, .slice Av l.length cv'] 42) = W := ⟨_, rfl⟩
        have TT2 : Hid (Blk W5 (w.heap.size + 1 + 1) 34 #[.slice A n c, .int .i64 bas.leak, .int .i64 bas.crest, .int .i64 bas.over, .slice A' n' c', .slice Af nf cf, H, R, .int .i64 out, .int .i64 limit, .int .i64 delay]) := by rw [← hW]; exact TT1.out.alloc _
        have GW2 : Hid (wc.grownBy W5 (some (w.heap.size + 1 + 1))) := by rw [← hW]; exact grown_tr GW1.out (World.grownBy_alloc _ _ none) (fun r e => by cases e)
        have GG2 : Hid (Blk W5 (W4.heap.size) 42 #[.int .i64 0, .slice Av l.length cv']) := by rw [← hW]; exact Blk.new _ _ _ rfl
        have MM2 : Hid (Blk W5 (wc.heap.size) 3 (ordA l.length 0)) := by rw [← hW]; exact MM1.out.alloc _
        have hz2 := GW2.out.size
        rw [hW]
        clear hW
        refine mix_post (fun _ => ⟨⟨W5, GW2.out⟩, rfl⟩) ?_
        refine tr_quiet rfl rfl ⟨⟨W5, GW2.out⟩, rfl⟩ ?_
        intro K hK; go_big_quiet_op; go_big_quiet_on
        have f6 := TT2.out.frozen 6
        have cc6 := TT2.out.cell (i := 6) rfl
        have hl6 := TT2.out.lt
        refine tr_on ?_
        go_wp2_with fail
        obtain ⟨W6, hW⟩ : ∃ W, W5.setCell ⟨w.heap.size + 1 + 1, 6, none⟩ (.slice (some ⟨W4.heap.size, 0, none⟩) 1 1) = W := ⟨_, rfl⟩
        have TT3 : Hid (Blk W6 (w.heap.size + 1 + 1) 34 #[.slice A n c, .int .i64 bas.leak, .int .i64 bas.crest, .int .i64 bas.over, .slice A' n' c', .slice Af nf cf, .slice (some ⟨W4.heap.size, 0, none⟩) 1 1, R, .int .i64 out, .int .i64 limit, .int .i64 delay]) := by rw [← hW]; exact TT2.out.set 6 _
        have GW3 : Hid (wc.grownBy W6 (some (w.heap.size + 1 + 1))) := by rw [← hW]; exact grown_tr GW2.out (grown_set _ _ _) (fun r e => by cases e; exact .inl rfl)
        have GG3 : Hid (Blk W6 (W4.heap.size) 42 #[.int .i64 0, .slice Av l.length cv']) := by rw [← hW]; exact GG2.out.far (by dsimp only; omega) _
        have MM3 : Hid (Blk W6 (wc.heap.size) 3 (ordA l.length 0)) := by rw [← hW]; exact MM2.out.far (by dsimp only; omega) _
        have hz3 := GW3.out.size
        rw [hW]
        clear hW
        refine mix_post (fun _ => ⟨⟨W6, GW3.out⟩, rfl⟩) ?_
        refine tr_quiet rfl rfl ⟨⟨W6, GW3.out⟩, rfl⟩ ?_
        intro K hK; go_big_quiet_op; go_big_quiet_on
        have f7 := TT3.out.frozen 7
        have cc7 := TT3.out.cell (i := 7) rfl
        have hl7 := TT3.out.lt
        refine tr_on ?_
        go_wp2_with fail
        obtain ⟨W7, hW⟩ : ∃ W, W6.setCell ⟨w.heap.size + 1 + 1, 7, none⟩ (.slice (some ⟨wc.heap.size, 0, none⟩) l.length l.length) = W := ⟨_, rfl⟩
        have TT4 : Hid (Blk W7 (w.heap.size + 1 + 1) 34 #[.slice A n c, .int .i64 bas.leak, .int .i64 bas.crest, .int .i64 bas.over, .slice A' n' c', .slice Af nf cf, .slice (some ⟨W4.heap.size, 0, none⟩) 1 1, .slice (some ⟨wc.heap.size, 0, none⟩) l.length l.length, .int .i64 out, .int .i64 limit, .int .i64 delay]) := by rw [← hW]; exact TT3.out.set 7 _
        have GW4 : Hid (wc.grownBy W7 (some (w.heap.size + 1 + 1))) := by rw [← hW]; exact grown_tr GW3.out (grown_set _ _ _) (fun r e => by cases e; exact .inl rfl)
        have GG4 : Hid (Blk W7 (W4.heap.size) 42 #[.int .i64 0, .slice Av l.length cv']) := by rw [← hW]; exact GG3.out.far (by dsimp only; omega) _
        have MM4 : Hid (Blk W7 (wc.heap.size) 3 (ordA l.length 0)) := by rw [← hW]; exact MM3.out.far (by dsimp only; omega) _
        have hz4 := GW4.out.size
        rw [hW]
        clear hW
        refine mix_post (fun _ => ⟨⟨W7, GW4.out⟩, rfl⟩) ?_
        refine tr_on ?_
        go_wp2_with fail
        refine mix_post (fun h => absurd h (by decide)) ?_
        have f9 := TT4.out.frozen 9
        have cc9 := TT4.out.cell (i := 9) rfl
        have hl9 := TT4.out.lt
        refine tr_on ?_
        go_wp2_with fail
        obtain ⟨W8, hW⟩ : ∃ W, W7.setCell ⟨w.heap.size + 1 + 1, 9, none⟩ (.int .i64 lvl) = W := ⟨_, rfl⟩
        have TT5 : Hid (Blk W8 (w.heap.size + 1 + 1) 34 #[.slice A n c, .int .i64 bas.leak, .int .i64 bas.crest, .int .i64 bas.over, .slice A' n' c', .slice Af nf cf, .slice (some ⟨W4.heap.size, 0, none⟩) 1 1, .slice (some ⟨wc.heap.size, 0, none⟩) l.length l.length, .int .i64 out, .int .i64 lvl, .int .i64 delay]) := by rw [← hW]; exact TT4.out.set 9 _
        have GW5 : Hid (wc.grownBy W8 (some (w.heap.size + 1 + 1))) := by rw [← hW]; exact grown_tr GW4.out (grown_set _ _ _) (fun r e => by cases e; exact .inl rfl)
        have GG5 : Hid (Blk W8 (W4.heap.size) 42 #[.int .i64 0, .slice Av l.length cv']) := by rw [← hW]; exact GG4.out.far (by dsimp only; omega) _
        have MM5 : Hid (Blk W8 (wc.heap.size) 3 (ordA l.length 0)) := by rw [← hW]; exact MM4.out.far (by dsimp only; omega) _
        have hz5 := GW5.out.size
        rw [hW]
        clear hW
        refine mix_post (fun h => absurd h (by decide)) ?_
        refine tr_leaf (NoPanic.normal ?_)
        refine Met.intro ?_
        go_step
        go_meet
        case rel => exact ⟨_, _, _, TT5.out, GG5.out.cell (i := 0) rfl, GG5.out.cell (i := 1) rfl, rdI_own' (HO.out.kept GW5.out (.inr (by intro e; have := (HO.out.lt _ (by first | exact e | exact e.symm)).1; omega))) rfl, rdI_zero MM5.out, below_grown HBX.out GW5.out (fun r e => by cases e; omega) HBX.out.size⟩
    case rest =>
      obtain ⟨g, gr, cr', hT, hg0, hg1, hv, hz, hb⟩ := hcut
      have hR : ClR wc ⟨bas, filled, l, out, lvl, delay⟩ ⟨A, n, c, A', n', c', Af, nf, cf, g, 1, Av, l.length, cv', some ⟨gr, 0, none⟩, cr'⟩ :=
        ⟨HI.out.rows.below hb, HI.out.pols.below hb, HI.out.filled.below hb, hg0, hg1, hv, hz, HI.out.cap, HI.out.nms, Nat.le_trans h60 (by decide)⟩
      have HTT := Lib.hid hT
      have HBw := Lib.hid hb
      have HCk := Lib.hid (ccheck_any ⟨bas, filled, l, out, lvl, delay⟩ ⟨A, n, c, A', n', c', Af, nf, cf, g, 1, Av, l.length, cv', some ⟨gr, 0, none⟩, cr'⟩ wc hR)
      have HDd : Hid (Clt.err ⟨bas, filled, l, out, lvl, delay⟩ = 0 → ∀ W, Below wc.heap.size wc W → Calls Tryz.prog 7 #[.agg #[.slice A n c, .int .i64 bas.leak, .int .i64 bas.crest, .int .i64 bas.over, .slice A' n' c', .slice Af nf cf, .slice (some ⟨g, 0, none⟩) 1 1, .slice (some ⟨gr, 0, none⟩) l.length cr', .int .i64 out, .int .i64 lvl, .int .i64 delay], .agg #[.int .i64 1, .int .i64 60]] W fun e w' => (∃ A n c A' n' c', e = .returned (.tuple #[.agg #[.int .i64 (-1), .int .i64 (-1), .slice A n c, .slice A' n' c'], .int .i64 0])) ∧ Below W.heap.size W w') :=
        fun he W hW => decide_any' ⟨bas, filled, l, out, lvl, delay⟩ ⟨A, n, c, A', n', c', Af, nf, cf, g, 1, Av, l.length, cv', some ⟨gr, 0, none⟩, cr'⟩ W (hR.below hW) he hall h60
      have HHd : Hid (Clt.err ⟨bas, filled, l, out, lvl, delay⟩ = 0 → ∀ W, Below wc.heap.size wc W → Calls Tryz.prog 8 #[.agg #[.slice A n c, .int .i64 bas.leak, .int .i64 bas.crest, .int .i64 bas.over, .slice A' n' c', .slice Af nf cf, .slice (some ⟨g, 0, none⟩) 1 1, .slice (some ⟨gr, 0, none⟩) l.length cr', .int .i64 out, .int .i64 lvl, .int .i64 delay], .agg #[.int .i64 (-1), .int .i64 (-1)]] W fun e w' => ∃ ad c, e = .returned (.tuple #[.slice (some ad) 1 c, .int .i64 0]) ∧ w'.cell? ad = some (.bool true) ∧ Below W.heap.size W w') :=
        fun he W hW => holds_any' ⟨bas, filled, l, out, lvl, delay⟩ ⟨A, n, c, A', n', c', Af, nf, cf, g, 1, Av, l.length, cv', some ⟨gr, 0, none⟩, cr'⟩ W (hR.below hW) he hall h60
      dsimp only [Clt.val] at HCk
      generalize Clt.err ⟨bas, filled, l, out, lvl, delay⟩ = X at *
      clear hT hg0 hg1 hv hz hb hR hall HS HO R3 V3 T3 HBX hs2 hsc hcv
      have q0 := HTT.out.cell (i := 0) rfl
      have q1 := HTT.out.cell (i := 1) rfl
      have q2 := HTT.out.cell (i := 2) rfl
      have q3 := HTT.out.cell (i := 3) rfl
      have q4 := HTT.out.cell (i := 4) rfl
      have q5 := HTT.out.cell (i := 5) rfl
      have q6 := HTT.out.cell (i := 6) rfl
      have q7 := HTT.out.cell (i := 7) rfl
      have q8 := HTT.out.cell (i := 8) rfl
      have q9 := HTT.out.cell (i := 9) rfl
      have q10 := HTT.out.cell (i := 10) rfl
      go_wp2_with fail
      refine HCk.out.mono ?_
      rintro e W5 ⟨⟨pa, pb, rfl⟩, hb5⟩
      have HT5 := Lib.hid (HTT.out.later hb5)
      have HX5 := Lib.hid hb5
      have HB5 : Hid (Below w.heap.size w W5) := HBw.out.trans (hb5.mono HBw.out.size)
      clear hb5 HCk HTT q0 q1 q2 q3 q4 q5 q6 q7 q8 q9 q10
      by_cases he : X ≠ 0
      · have he' : (X != 0) = true := by simpa using he
        clear HDd HHd he
        go_wp2_with fail
        refine (Awake_any _).mono ?_
        rintro e W7 ⟨rfl, hb7⟩
        have HB7 := Lib.hid (HB5.out.trans (hb7.mono HB5.out.size))
        clear hb7
        go_wp2_with fail
        go_ret
        exact ⟨rfl, HB7.out⟩
      obtain rfl : X = 0 := by omega
      clear he
      have q0 := HT5.out.cell (i := 0) rfl
      have q1 := HT5.out.cell (i := 1) rfl
      have q2 := HT5.out.cell (i := 2) rfl
      have q3 := HT5.out.cell (i := 3) rfl
      have q4 := HT5.out.cell (i := 4) rfl
      have q5 := HT5.out.cell (i := 5) rfl
      have q6 := HT5.out.cell (i := 6) rfl
      have q7 := HT5.out.cell (i := 7) rfl
      have q8 := HT5.out.cell (i := 8) rfl
      have q9 := HT5.out.cell (i := 9) rfl
      have q10 := HT5.out.cell (i := 10) rfl
      have HD5 := Lib.hid (HDd.out rfl W5 HX5.out)
      have HHe := Lib.hid (HHd.out rfl)
      clear HDd HHd
      go_wp2_with fail
      refine HD5.out.mono ?_
      rintro e W6 ⟨⟨A1, n1, c1, A2, n2, c2, rfl⟩, hb6⟩
      have HT6 := Lib.hid (HT5.out.later hb6)
      have HX6 := Lib.hid (HX5.out.trans (hb6.mono HX5.out.size))
      have HB6 : Hid (Below w.heap.size w W6) := HB5.out.trans (hb6.mono HB5.out.size)
      clear hb6 HD5 q0 q1 q2 q3 q4 q5 q6 q7 q8 q9 q10
      have q0 := cell_alloc (HT6.out.cell (i := 0) rfl) (Obj.cells #[.int .i64 (-1), .int .i64 (-1), .slice A1 n1 c1, .slice A2 n2 c2] 52)
      have q1 := cell_alloc (HT6.out.cell (i := 1) rfl) (Obj.cells #[.int .i64 (-1), .int .i64 (-1), .slice A1 n1 c1, .slice A2 n2 c2] 52)
      have q2 := cell_alloc (HT6.out.cell (i := 2) rfl) (Obj.cells #[.int .i64 (-1), .int .i64 (-1), .slice A1 n1 c1, .slice A2 n2 c2] 52)
      have q3 := cell_alloc (HT6.out.cell (i := 3) rfl) (Obj.cells #[.int .i64 (-1), .int .i64 (-1), .slice A1 n1 c1, .slice A2 n2 c2] 52)
      have q4 := cell_alloc (HT6.out.cell (i := 4) rfl) (Obj.cells #[.int .i64 (-1), .int .i64 (-1), .slice A1 n1 c1, .slice A2 n2 c2] 52)
      have q5 := cell_alloc (HT6.out.cell (i := 5) rfl) (Obj.cells #[.int .i64 (-1), .int .i64 (-1), .slice A1 n1 c1, .slice A2 n2 c2] 52)
      have q6 := cell_alloc (HT6.out.cell (i := 6) rfl) (Obj.cells #[.int .i64 (-1), .int .i64 (-1), .slice A1 n1 c1, .slice A2 n2 c2] 52)
      have q7 := cell_alloc (HT6.out.cell (i := 7) rfl) (Obj.cells #[.int .i64 (-1), .int .i64 (-1), .slice A1 n1 c1, .slice A2 n2 c2] 52)
      have q8 := cell_alloc (HT6.out.cell (i := 8) rfl) (Obj.cells #[.int .i64 (-1), .int .i64 (-1), .slice A1 n1 c1, .slice A2 n2 c2] 52)
      have q9 := cell_alloc (HT6.out.cell (i := 9) rfl) (Obj.cells #[.int .i64 (-1), .int .i64 (-1), .slice A1 n1 c1, .slice A2 n2 c2] 52)
      have q10 := cell_alloc (HT6.out.cell (i := 10) rfl) (Obj.cells #[.int .i64 (-1), .int .i64 (-1), .slice A1 n1 c1, .slice A2 n2 c2] 52)
      have hBD : Below W6.heap.size W6 (W6.alloc (Obj.cells #[.int .i64 (-1), .int .i64 (-1), .slice A1 n1 c1, .slice A2 n2 c2] 52)) := (Below.refl _ _).alloc (Nat.le_refl _) _
      have HH7 := Lib.hid (HHe.out _ (HX6.out.trans (hBD.mono HX6.out.size)))
      have HBD : Hid (Below w.heap.size w (W6.alloc (Obj.cells #[.int .i64 (-1), .int .i64 (-1), .slice A1 n1 c1, .slice A2 n2 c2] 52))) := HB6.out.trans (hBD.mono HB6.out.size)
      clear hBD HHe
      go_wp2_with fail
      refine HH7.out.mono ?_
      rintro e W8 ⟨ad, c3, rfl, hc8, hb8⟩
      have HD8 : Hid (Blk W8 W6.heap.size 52 #[.int .i64 (-1), .int .i64 (-1), .slice A1 n1 c1, .slice A2 n2 c2]) := (Blk.new W6 _ _ rfl).later hb8
      have HB8 : Hid (Below w.heap.size w W8) := HBD.out.trans (hb8.mono HBD.out.size)
      clear hb8 HH7 q0 q1 q2 q3 q4 q5 q6 q7 q8 q9 q10
      have dd := HD8.out.cell (i := 0) rfl
      go_wp2_with fail
      refine (Awake_any _).mono ?_
      rintro e W9 ⟨rfl, hb9⟩
      have HB9 := Lib.hid (HB8.out.trans (hb9.mono HB8.out.size))
      clear hb9
      go_wp2_with fail
      go_ret
      exact ⟨rfl, HB9.out⟩
end Go.Proofs.YtjdaigffgfnhaaaGreat
