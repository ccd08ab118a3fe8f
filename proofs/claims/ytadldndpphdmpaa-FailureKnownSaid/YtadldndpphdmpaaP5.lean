/- Proves, by the program. -/
import Derived.Test.YtadldndpphdmpaaP4
namespace Go.Proofs.Ytadldndpphdmpaa
open Go.RowKit Go.Shelf

/-- What Proves returns. -/
def provesT (t : List Nd) (node : Int) (l g : List Int) : Bool × Int :=
  if (aboutT t node [l, g]).1 ≠ 0 then (false, (aboutT t node [l, g]).1) else (decide ((lstGo t l 0).2 &&& (lstGo t g 0).2 = 0) && soundB t node.toNat (lstGo t g 0).2, 0)
theorem two_sl (w : World) (a b : Value) (cs : Array Value) (t1 t2 : TypeId) : ∀ W, (w.alloc (.cells cs t1)).alloc (.cells #[a, b] t2) = W →
    Below w.heap.size w W ∧ Blk W w.heap.size t1 cs ∧ Blk W (w.heap.size + 1) t2 #[a, b] := by
  rintro W rfl
  exact ⟨((Below.refl _ w).alloc (Nat.le_refl _) _).alloc (by simp) _, (Blk.new _ _ _ rfl).alloc _, Blk.new _ _ _ (by simp)⟩

set_option maxRecDepth 100000 in
set_option maxHeartbeats 4000000 in
theorem Proves_any (t : List Nd) (node : Int) (l g : List Int) (A : Option Addr) (n c : Nat) (ms : List NdM) (L : Option Addr) (cl : Nat) (G : Option Addr) (cg : Nat) (w : World) (hT : TrM w t A n ms) (hc : n ≤ c) (hL : RdI w L l.length l) (hl : l.length ≤ 1000000000000000) (hG : RdI w G g.length g) (hg : g.length ≤ 1000000000000000) :
    Calls Try.prog 32 #[.agg #[.slice A n c], .int .i64 node, .slice L l.length cl, .slice G g.length cg] w fun e w' => e = .returned (.tuple #[.bool (provesT t node l g).1, .int .i64 (provesT t node l g).2]) ∧ Below w.heap.size w w' := by
  obtain ⟨W1, hW1⟩ : ∃ W1, (w.alloc (.cells #[.slice A n c] 24)).alloc (.cells #[.slice L l.length cl, .slice G g.length cg] 30) = W1 := ⟨_, rfl⟩
  obtain ⟨b1, b2, b3⟩ := two_sl w _ _ _ _ _ W1 hW1
  have HB1 := Lib.hid b1
  have HAb := Lib.hid (about_any t node [l, g] A n c ms (some ⟨w.heap.size + 1, 0, none⟩) 2 2 [(l, L, cl), (g, G, cg)] W1 (hT.below b1) hc (LsM.two (b3.cell (i := 0) rfl) (b3.cell (i := 1) rfl) (hL.below b1) hl (hG.below b1) hg) (by omega))
  have HSu := Lib.hid (fun h : (aboutT t node [l, g]).1 = 0 => aboutT_node h)
  have HLs : Hid ((aboutT t node [l, g]).1 = 0 → (aboutT t node [l, g]).2 = [(lstGo t l 0).2, (lstGo t g 0).2]) := fun h => (about_set2 h).1
  have HX : Hid (provesT t node l g = if (aboutT t node [l, g]).1 ≠ 0 then (false, (aboutT t node [l, g]).1) else (decide ((lstGo t l 0).2 &&& (lstGo t g 0).2 = 0) && soundB t node.toNat (lstGo t g 0).2, 0)) := rfl
  have HS1 := Lib.hid (lst_sub (t := t) l); have HS2 := Lib.hid (lst_sub (t := t) g)
  have HW1 := Lib.hid hW1
  clear hW1 b1 b2 b3 hT hL hG
  generalize provesT t node l g = X at *
  generalize (lstGo t l 0).2 = s at *
  generalize (lstGo t g 0).2 = u at *
  generalize aboutT t node [l, g] = Y at *
  obtain ⟨y, S⟩ := Y
  dsimp only at *
  go_enter Try.func32, Try.ntmps32
  go_wp2_with fail
  rw [HW1.out]
  refine HAb.out.mono ?_
  rintro e W2 (⟨h0, rfl, hb⟩ | ⟨h0, T, M, cr, R, v, rfl, hF, hrow, hb, hM, hTb⟩)
  · have HB2 := Lib.hid (HB1.out.trans (hb.mono HB1.out.size))
    have hy : y ≠ 0 := h0
    have hne : (y != 0) = true := by simpa using hy
    have F : Hid (((false : Bool), y) = X) := by have := HX.out; rw [if_pos hy] at this; exact this.symm
    clear h0 hb HAb hy
    dsimp only
    go_wp2_with fail
    go_ret2
    exact ⟨by rw [← F.out]; rfl, HB2.out⟩
  · have hy : y = 0 := h0
    subst hy
    have hS := HLs.out rfl
    subst hS
    have HB2 := Lib.hid (HB1.out.trans (hb.mono HB1.out.size))
    obtain ⟨hok, nd0, nd1⟩ := HSu.out rfl
    obtain ⟨ad, cv, rfl, hc0⟩ := set_get hrow (i := 0) rfl
    obtain ⟨ad1, cv1, e1, hc1⟩ := set_get hrow (i := 1) rfl
    cases e1
    have hs64 : s < 18446744073709551616 := by have := pow_40 hok (HS1.out).lt; omega
    have hu64 : u < 18446744073709551616 := by have := pow_40 hok (HS2.out).lt; omega
    have hand := bits_and64 hs64 hu64
    obtain ⟨nn, rfl⟩ : ∃ nn : Nat, node = (nn : Int) := ⟨node.toNat, by omega⟩
    have hln := hF.tr.len
    have HSo := Lib.hid (fun (W : World) (h : FT W T t A n c ms R cr M 0) => sound_any t u nn T A n c ms R cr M 0 W h (by omega) (by have := hok.l40; omega))
    have HFd : Hid (FT W2.drew T t A n c ms R cr M 0) := hF.below (Below.refl W2.heap.size W2).drew
    have HM : Hid (w.heap.size ≤ M) := by have := HB1.out.size; show _ ≤ _; omega
    simp only [Int.toNat_natCast] at HX
    have x0 := later_cell (show W2.cell? ad = some (.int .u64 (s : Int)) from hc0)
    have x1 := later_cell (show W2.cell? ⟨ad.block, ad.off + 1, none⟩ = some (.int .u64 (u : Int)) from hc1)
    clear h0 hb HAb hrow hF hM hTb hok hs64 hu64 hc0 hc1 hln HSu
    simp only [List.length_cons, List.length_nil, Nat.zero_add, Nat.reduceAdd]
    have HS0 : Hid ((fun w' => ∃ u : Later W2, w' = u.w) W2.drew) := ⟨⟨W2.drew, (Below.refl _ _).drew⟩, rfl⟩
    by_cases hd : s &&& u = 0
    · have hq : (((s &&& u : Nat) : Int) == 0) = true := by simp [hd]
      have F : Hid ((soundB t nn u, (0 : Int)) = X) := by have := HX.out; rw [if_neg (by decide), decide_eq_true hd, Bool.true_and] at this; exact this.symm
      clear hd
      go_wp2_with fail
      refine wp_region_noPanic ?_
      refine wp_region_ord (fun w' => ∃ u : Later W2, w' = u.w) 14 (fun k => decide (k < 14)) (ordOf _ [0, 1, 2, 3, 4, 5, 6, 7, 8, 9, 10, 11, 12, 13, 14, 15, 16, 17]) (by kernel_rfl) (by kernel_rfl) (ordOf_mem _ _) (fun _ _ _ _ _ h => h) ?_
      simp only [ordOf, List.filterMap_cons, List.filterMap_nil, List.getElem?_cons_zero, List.getElem?_cons_succ, Option.map_some]
      iterate 14 (refine ord_quiet rfl rfl rfl HS0.out ?_; intro K hK; go_big_quiet_op; go_big_quiet_on)
      clear x0 x1 HS0
      have HSo2 := Lib.hid (HSo.out _ HFd.out)
      refine ord_op rfl ?_
      go_wp2_with fail
      refine HSo2.out.mono ?_
      rintro e W3 ⟨rfl, _, hb3⟩
      have HB3 : Hid (Below w.heap.size w W3) := HB2.out.trans ((BB.of_below (Below.refl W2.heap.size W2).drew (Nat.le_refl _) |>.trans hb3).below HM.out HB2.out.size)
      clear hb3
      go_wp2_with fail
      refine mix_post (fun h => absurd h (by decide)) ?_
      iterate 3 (refine ord_op rfl ?_; go_wp2_with fail; refine mix_post (fun h => absurd h (by decide)) ?_)
      refine ord_nil ?_
      refine NoPanic.normal ?_
      go_wp2_with fail
      go_ret2
      exact ⟨by rw [← F.out]; rfl, HB3.out⟩
    · have hq : (((s &&& u : Nat) : Int) == 0) = false := by simp only [beq_eq_false_iff_ne, ne_eq]; omega
      have F : Hid (((false : Bool), (0 : Int)) = X) := by have := HX.out; rw [if_neg (by decide), decide_eq_false hd, Bool.false_and] at this; exact this.symm
      clear hd
      go_wp2_with fail
      refine wp_region_noPanic ?_
      refine wp_region_ord (fun w' => ∃ u : Later W2, w' = u.w) 14 (fun k => decide (k < 14)) (ordOf _ [0, 1, 2, 3, 4, 5, 6, 7, 8, 9, 10, 11, 12, 13, 14, 15, 16, 17]) (by kernel_rfl) (by kernel_rfl) (ordOf_mem _ _) (fun _ _ _ _ _ h => h) ?_
      simp only [ordOf, List.filterMap_cons, List.filterMap_nil, List.getElem?_cons_zero, List.getElem?_cons_succ, Option.map_some]
      iterate 9 (refine ord_quiet rfl rfl rfl HS0.out ?_; intro K hK; go_big_quiet_op; go_big_quiet_on)
      iterate 5 (refine ord_skip rfl rfl HS0.out ?_; simp only [Act.put, List.setIfInBounds_toArray, List.set_cons_succ, List.set_cons_zero])
      clear x0 x1 HS0
      iterate 4 (refine ord_op rfl ?_; go_wp2_with fail; refine mix_post (fun h => absurd h (by decide)) ?_)
      refine ord_nil ?_
      refine NoPanic.normal ?_
      go_wp2_with fail
      go_ret2
      exact ⟨by rw [← F.out]; rfl, HB2.out.drew⟩
end Go.Proofs.Ytadldndpphdmpaa
