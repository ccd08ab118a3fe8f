/- about: the trees of a tree, and sets out of lists. -/
import Derived.Test.YtadldndpphdmpaaGreatG7
import Derived.Test.YtadldndpphdmpaaGreatQA
namespace Go.Proofs.YtadldndpphdmpaaGreat
open Go.RowKit Go.Shelf

/-- A list in memory, and where. -/
abbrev LsP := List Int × Option Addr × Nat
abbrev LsP.enc (p : LsP) : List Value := [.slice p.2.1 p.1.length p.2.2]
structure LsM (w : World) (A : Option Addr) (n : Nat) (ls : List (List Int)) (ps : List LsP) : Prop where
  rd : Rd LsP.enc 1 w A n ps
  eq : ps.map (·.1) = ls
  row : ∀ p ∈ ps, RdI w p.2.1 p.1.length p.1 ∧ p.1.length ≤ 1000000000000000
theorem LsM.below {w w' : World} {A : Option Addr} {n : Nat} {ls : List (List Int)} {ps : List LsP} (h : LsM w A n ls ps) (hb : Below w.heap.size w w') : LsM w' A n ls ps :=
  ⟨h.rd.below hb, h.eq, fun p hp => ⟨(h.row p hp).1.below hb, (h.row p hp).2⟩⟩
theorem LsM.get {w : World} {A : Option Addr} {n : Nat} {ls : List (List Int)} {ps : List LsP} (h : LsM w A n ls ps) {i : Nat} (hi : i < n) :
    ∃ (l : List Int) (B : Option Addr) (c : Nat) (ad : Addr), ls[i]? = some l ∧ A = some ad ∧ w.cell? (ad.add i) = some (.slice B l.length c) ∧ RdI w B l.length l ∧ l.length ≤ 1000000000000000 := by
  obtain ⟨p, ad, h1, h2, h3⟩ := h.rd.get hi
  have h4 := h3 0 _ rfl
  rw [Nat.mul_one] at h4
  have h5 := h.row p (List.mem_of_getElem? h1)
  refine ⟨p.1, p.2.1, p.2.2, ad, ?_, h2, h4, h5.1, h5.2⟩
  rw [← h.eq, List.getElem?_map, h1]
  rfl
theorem infoS : (Tryz.prog.info? 57).map (fun i => (i.zero, i.size, i.bytes)) = some (some (.int .u64 0), 1, 8) := by kernel_rfl

abbrev setV (s : Nat) : Value := .int .u64 (s : Int)
/-- What about returns. -/
def AboutPost (w : World) (t : List Nd) (A : Option Addr) (n c : Nat) (ms : List NdM) (X : Int × List Nat) (e : Ending) (w' : World) : Prop :=
  (X.1 ≠ 0 ∧ e = .returned (.tuple #[.pointer none, .slice none 0 0, .int .i64 X.1]) ∧ Below w.heap.size w w') ∨
  (X.1 = 0 ∧ ∃ (T M cr : Nat) (R : Option Addr) (v : Value), e = .returned (.tuple #[.pointer (some ⟨T, 0, none⟩), v, .int .i64 0]) ∧ FT w' T t A n c ms R cr M 0 ∧ w'.ownsRow w.heap.size 57 1 v X.2.length (X.2.map setV) ∧ Below w.heap.size w w' ∧ w.heap.size ≤ M ∧ w.heap.size ≤ T)

set_option maxRecDepth 100000 in
set_option maxHeartbeats 4000000 in
theorem about_any (t : List Nd) (node : Int) (ls : List (List Int)) (A : Option Addr) (n c : Nat) (ms : List NdM) (L : Option Addr) (m cl : Nat) (ps : List LsP) (w : World) (hT : TrM w t A n ms) (hc : n ≤ c) (hL : LsM w L m ls ps) (hm : m ≤ 1000) :
    Calls Tryz.prog 21 #[.agg #[.slice A n c], .int .i64 node, .slice L m cl] w (AboutPost w t A n c ms (aboutT t node ls)) := by
  have HB0 : Hid (Below w.heap.size w (w.alloc (.cells #[.slice A n c] 24))) := (Below.refl _ _).alloc (Nat.le_refl _) _
  have HPl := Lib.hid (plant_any t A n c ms (w.alloc (.cells #[.slice A n c] 24)) (hT.below HB0.out) hc)
  have K0 : Hid (Blk (w.alloc (.cells #[.slice A n c] 24)) w.heap.size 24 #[.slice A n c]) := Blk.new w _ _ rfl
  have HBL : Hid (LsM (w.alloc (.cells #[.slice A n c] 24)) L m ls ps) := hL.below HB0.out
  have hln := hT.len
  have hlm : ls.length = m := by rw [← hL.eq, List.length_map, hL.rd.1]
  have hbig := hT.big
  clear hT hL
  have HErr : Hid (∀ x, (aboutT t node ls).1 = x → x ≠ 0 → ∀ w', Below w.heap.size w w' → AboutPost w t A n c ms (aboutT t node ls) (.returned (.tuple #[.pointer none, .slice none 0 0, .int .i64 x])) w') := fun x hx hne w' hb => .inl ⟨by rw [hx]; exact hne, by rw [hx], hb⟩
  have HOk : Hid (∀ S T M cr R v w', aboutT t node ls = (0, S) → FT w' T t A n c ms R cr M 0 → w'.ownsRow w.heap.size 57 1 v S.length (S.map setV) → Below w.heap.size w w' → w.heap.size ≤ M → w.heap.size ≤ T → AboutPost w t A n c ms (aboutT t node ls) (.returned (.tuple #[.pointer (some ⟨T, 0, none⟩), v, .int .i64 0])) w') := fun S T M cr R v w' hx h1 h2 h3 h4 h5 => .inr ⟨by rw [hx], T, M, cr, R, v, rfl, h1, by rw [hx]; exact h2, h3, h4, h5⟩
  generalize AboutPost w t A n c ms (aboutT t node ls) = PP at *
  generalize hX : aboutT t node ls = X at *
  have HX := Lib.hid hX; clear hX
  have HLn := Lib.hid hln
  have HLm := Lib.hid hlm
  obtain ⟨i0, hi, hz0, hz1, hz2⟩ := info_parts infoS
  go_enter Tryz.func21, Tryz.ntmps21
  go_wp2_with fail
  refine HPl.out.mono ?_
  rintro e W1 (⟨h0, rfl, hb⟩ | ⟨h0, T, M, cr, R, rfl, hF, hb, hM, hTb⟩)
  · have HB1 : Hid (Below w.heap.size w W1) := HB0.out.trans (hb.mono HB0.out.size)
    have hne : ((chkT t).2 != 0) = true := by simpa using h0
    have F : Hid (X.1 = (chkT t).2) := by have := HX.out; unfold aboutT at this; rw [if_pos h0] at this; rw [← this]; exact rfl
    have F2 := Lib.hid (HErr.out _ F.out h0)
    clear h0 hb HPl hln hlm
    generalize (chkT t).2 = ce at *
    go_wp2_with fail
    go_ret3
    exact F2.out _ HB1.out
  · have hsz0 : (w.alloc (.cells #[.slice A n c] 24)).heap.size = w.heap.size + 1 := by simp
    rw [hsz0] at hM hTb
    have HB1 : Hid (Below w.heap.size w W1) := HB0.out.trans (hb.mono HB0.out.size)
    have K1 := Lib.hid (K0.out.later hb)
    have HFT := Lib.hid hF
    have HLs := Lib.hid (HBL.out.below hb)
    have HX2 : Hid ((if outB node 0 ((n : Int) - 1) = true then ((4 : Int), ([] : List Nat)) else abS t [] ls) = X) := by have := HX.out; unfold aboutT at this; rw [if_neg (by rw [h0]; decide), hln] at this; exact this
    have hok := hF.ok
    have n1 := hok.l1
    have n40 := hok.l40
    rw [hln] at n1 n40
    have hlb := bas_lt t
    have hl40 := pow_40 hok hlb
    clear hb h0 hF HPl hsz0 hok hlb K0 HBL hln hlm HX
    have k0 := K1.out.cell (i := 0) rfl
    have kz := K1.out.lt
    by_cases hnode : outB node 0 ((n : Int) - 1) = true
    · have F : Hid (X.1 = 4) := by have := HX2.out; rw [if_pos hnode] at this; rw [← this]; exact rfl
      have F2 := Lib.hid (HErr.out _ F.out (by decide))
      clear hl40
      go_wp2_with (go_at_call 37; refine (out_any _ _ _ _).mono ?_; rintro e w' ⟨rfl, rfl⟩)
      go_ret3
      exact F2.out _ HB1.out
    · have hnode' : outB node 0 ((n : Int) - 1) = false := by simpa using hnode
      have HX3 : Hid (abS t [] ls = X) := by have := HX2.out; rw [if_neg hnode] at this; exact this
      clear hnode HX2
      have H40 := Lib.hid hl40
      clear hl40
      go_wp2_with (go_at_call 37; refine (out_any _ _ _ _).mono ?_; rintro e w' ⟨rfl, rfl⟩)
      go_loopw [6, 7, 32] (fun p v i wr => ∃ (k : Nat) (S : List Nat), k ≤ m ∧ p = .pointer (some ⟨T, 0, none⟩) ∧ i = .int .i64 k ∧ S.length = k ∧ wr.ownsRow W1.heap.size 57 1 v k (S.map setV) ∧ abS t S (ls.drop k) = X ∧ Below W1.heap.size W1 wr) (fun _ _ i _ => m - (intOf i).toNat)
      case atStart => exact ⟨0, [], Nat.zero_le _, rfl, rfl, rfl, World.ownsRow_nil _ _ _ _, HX3.out, Below.refl _ _⟩
      case round =>
        obtain ⟨k, S, hk, rfl, rfl, hS, hrow, hE, hB⟩ := hrel
        have HS := Lib.hid hS; clear hS
        have HE := Lib.hid hE; clear hE
        have HB := Lib.hid hB; clear hB
        have HRow := Lib.hid hrow
        have HBW : Hid (Below w.heap.size w wr) := HB1.out.trans (HB.out.mono HB1.out.size)
        by_cases hlt : k < m
        · obtain ⟨l, B, c', ad, hl, hA, cl0, hRd, hll⟩ := (HLs.out.below HB.out).get hlt
          subst hA
          have HDr : Hid (ls.drop k = l :: ls.drop (k + 1)) := by
            obtain ⟨hk', rfl⟩ := List.getElem?_eq_some_iff.1 hl
            exact List.drop_eq_getElem_cons hk'
          have HE2 : Hid (abS t S (l :: ls.drop (k + 1)) = X) := by have := HE.out; rw [HDr.out] at this; exact this
          have HRd := Lib.hid hRd
          have KF := HFT.out.blk.later HB.out
          have KT := K1.out.later HB.out
          have f2 := KF.cell (i := 2) rfl
          have fz := KF.lt
          clear k0 kz
          have k0 := KT.cell (i := 0) rfl
          have kz := KT.lt
          have HKF := Lib.hid KF; have HKT := Lib.hid KT
          clear hl hRd KF KT HE
          have HBas := Lib.hid (fun j => bas_bit t j)
          generalize hbt : bas t = bt at *
          have HBt := Lib.hid hbt
          clear hbt
          have hmk : (k : Int) < (m : Int) := by omega
          obtain ⟨vv, rfl⟩ : ∃ vv, vv = u7 := ⟨_, rfl⟩
          go_wp2_with fail
          go_loop [6, 7, 11, 38] (fun p q s i => ∃ (j sv : Nat), j ≤ l.length ∧ p = .pointer (some ⟨T, 0, none⟩) ∧ q = vv ∧ i = .int .i64 j ∧ s = .int .u64 sv ∧ Sub t sv ∧ lstGo t (l.drop j) sv = lstGo t l 0) (fun _ _ _ i => l.length - (intOf i).toNat)
          case atStart => exact ⟨0, 0, Nat.zero_le _, rfl, rfl, rfl, rfl, Sub.zero t, rfl⟩
          case round =>
            obtain ⟨j, sv, hj, rfl, rfl, rfl, rfl, hsub, hG⟩ := hrel
            have HG := Lib.hid hG; clear hG
            have HSub := Lib.hid hsub; clear hsub
            by_cases hjl : j < l.length
            · obtain ⟨x, bd, hx, rfl, cx⟩ := rdI_get HRd.out hjl
              have HDj : Hid (l.drop j = x :: l.drop (j + 1)) := by
                obtain ⟨hk', rfl⟩ := List.getElem?_eq_some_iff.1 hx
                exact List.drop_eq_getElem_cons hk'
              have HG2 : Hid ((if basI t x = false then ((4 : Int), sv) else if sv.testBit x.toNat = true then (5, sv) else lstGo t (l.drop (j + 1)) (withN sv x.toNat)) = lstGo t l 0) := by have := HG.out; rw [HDj.out, lstGo] at this; exact this
              have HBx : Hid (basI t x = (!outB x 0 ((n : Int) - 1) && bt.testBit x.toNat)) := by unfold basI; rw [HLn.out, HBas.out]; exact rfl
              have hjl' : (j : Int) < (l.length : Int) := by omega
              clear hx HG HDj
              have HErr4 : Hid (basI t x = false → PP (.returned (.tuple #[.pointer none, .slice none 0 0, .int .i64 4])) wr) := fun hb => by
                have h1 := HG2.out
                rw [if_pos hb] at h1
                have h2 := HE2.out
                rw [abS, ← h1, if_neg (show ¬ ((4 : Int) = 0) by decide)] at h2
                exact HErr.out 4 (by rw [← h2]) (by decide) _ HBW.out
              by_cases h1 : outB x 0 ((n : Int) - 1) = true
              · have F := Lib.hid (HErr4.out (by rw [HBx.out, h1]; rfl))
                clear hlt hj
                go_wp2_with (go_at_call 37; refine (out_any _ _ _ _).mono ?_; rintro e w' ⟨rfl, rfl⟩)
                go_ret3
                exact F.out
              · have h1' : outB x 0 ((n : Int) - 1) = false := by simpa using h1
                obtain ⟨x0, x1⟩ := outB_false h1'
                obtain ⟨xn, rfl⟩ : ∃ xn : Nat, x = (xn : Int) := ⟨x.toNat, by omega⟩
                simp only [Int.toNat_natCast] at HBx HG2
                have HH1 := Lib.hid (has_any bt xn wr (by have := H40.out; omega) (by omega))
                have HSv : Hid (sv < 18446744073709551616) := by have := pow_40 HFT.out.ok HSub.out.lt; show _ < _; omega
                have HH2 := Lib.hid (has_any sv xn wr HSv.out (by omega))
                have HH3 := Lib.hid (with_any sv xn wr HSv.out (by omega))
                clear h1
                cases h2 : bt.testBit xn
                · have F := Lib.hid (HErr4.out (by rw [HBx.out, h2, Bool.and_false]))
                  rw [h2] at HH1
                  clear h2
                  go_wp2_with (first | (go_at_call 37; refine (out_any _ _ _ _).mono ?_; rintro e w' ⟨rfl, rfl⟩) | (go_at_call 26; refine HH1.out.mono ?_; rintro e w' ⟨rfl, rfl⟩))
                  go_ret3
                  exact F.out
                · have hbx : basI t (xn : Int) = true := by rw [HBx.out, h1', h2]; rfl
                  have HBX := Lib.hid hbx
                  have HG3 : Hid ((if sv.testBit xn = true then ((5 : Int), sv) else lstGo t (l.drop (j + 1)) (withN sv xn)) = lstGo t l 0) := by have := HG2.out; rw [hbx, if_neg (by decide)] at this; exact this
                  rw [h2] at HH1
                  clear h2 hbx HG2 HErr4
                  cases h3 : sv.testBit xn
                  · rw [h3] at HH2
                    have F : Hid (lstGo t (l.drop (j + 1)) (withN sv xn) = lstGo t l 0) := by have := HG3.out; rw [h3, if_neg (by decide)] at this; exact this
                    clear h3
                    go_wp2_with (first | (go_at_call 37; refine (out_any _ _ _ _).mono ?_; rintro e w' ⟨rfl, rfl⟩) | (go_at_call 38; refine HH3.out.mono ?_; rintro e w' ⟨rfl, rfl⟩) | (go_at_call 26; (first | (with_reducible refine HH1.out.mono ?_) | (with_reducible refine HH2.out.mono ?_)); rintro e w' ⟨rfl, rfl⟩))
                    go_round
                    case rel => exact ⟨j + 1, withN sv xn, by omega, rfl, rfl, by go_num, rfl, HSub.out.with (basI_nat HBX.out).2.2, F.out⟩
                    case measure => simp [intOf]; omega
                  · rw [h3] at HH2
                    have F : Hid (((5 : Int), sv) = lstGo t l 0) := by have := HG3.out; rw [h3, if_pos rfl] at this; exact this
                    have F2 : Hid (PP (.returned (.tuple #[.pointer none, .slice none 0 0, .int .i64 5])) wr) := by
                      have h2 := HE2.out
                      rw [abS, ← F.out, if_neg (show ¬ ((5 : Int) = 0) by decide)] at h2
                      exact HErr.out 5 (by rw [← h2]) (by decide) _ HBW.out
                    clear h3
                    go_wp2_with (first | (go_at_call 37; refine (out_any _ _ _ _).mono ?_; rintro e w' ⟨rfl, rfl⟩) | (go_at_call 26; (first | (with_reducible refine HH1.out.mono ?_) | (with_reducible refine HH2.out.mono ?_)); rintro e w' ⟨rfl, rfl⟩))
                    go_ret3
                    exact F2.out
            · obtain rfl : j = l.length := by omega
              have F : Hid (((0 : Int), sv) = lstGo t l 0) := by have := HG.out; rw [List.drop_length, lstGo] at this; exact this
              have HEs : Hid (abS t (S ++ [sv]) (ls.drop (k + 1)) = X) := by have := HE2.out; rw [abS, ← F.out, if_pos rfl] at this; exact this
              have hsz := HB.out.size
              have HSzz := Lib.hid hsz
              have hsl := HS.out
              have HSl := Lib.hid hsl
              clear hsl
              go_wp2_with (at_builtin; refine wpList_append_one rfl _ _ 48 rfl W1.heap.size 57 i0 (.int .u64 0) 8 Tryz.underlying48 hi hz0 hz1 hz2 rfl _ _ _ rfl HRow.out (.int .u64 sv) wr.heap.size rfl rfl (by simp [Value.oneCell']) (by unfold maxLen; omega) (by omega) HSzz.out ?_; intro A' c'' w2 hown' hgrow _; have HO2 := Lib.hid hown'; have HG2 := Lib.hid hgrow; clear hown' hgrow)
              go_roundw
              case rel => exact ⟨k + 1, S ++ [sv], by omega, rfl, by go_num, by rw [List.length_append, HSl.out]; rfl, by rw [List.map_append]; exact HO2.out, HEs.out, HB.out.grown HG2.out HSzz.out (fun r e => (HRow.out.lt r e).1)⟩
              case measure => simp [intOf]; omega
        · obtain rfl : k = m := by omega
          have F : Hid (X = (0, S)) := by have := HE.out; rw [List.drop_of_length_le (by have := HLm.out; omega), abS] at this; exact this.symm
          have HFT2 := Lib.hid (HFT.out.below HB.out)
          go_wp2_with fail
          go_ret3
          have hs := HS.out
          exact HOk.out S T M cr R _ _ F.out HFT2.out (by rw [hs]; exact own_lower HRow.out HB1.out.size) HBW.out (by omega) (by omega)
end Go.Proofs.YtadldndpphdmpaaGreat
