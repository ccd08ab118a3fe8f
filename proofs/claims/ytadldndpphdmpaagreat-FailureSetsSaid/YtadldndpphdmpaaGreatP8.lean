/- Subsets of a set, for a loop that writes cells of its own: the cell of the whole set stays. -/
import Derived.Test.YtadldndpphdmpaaGreatQP
import Derived.Test.YtadldndpphdmpaaGreatG9
namespace Go.Proofs.YtadldndpphdmpaaGreat
open Go.RowKit Go.Shelf

/-- The first cell of a block stays. -/
def KS (Bv : Nat) (W W' : World) : Prop := ∀ v, W.cell? ⟨Bv, 0, none⟩ = some v → W'.cell? ⟨Bv, 0, none⟩ = some v
theorem KS.refl (Bv : Nat) (W : World) : KS Bv W W := fun _ h => h
theorem KS.trans {Bv : Nat} {a b c : World} (h : KS Bv a b) (k : KS Bv b c) : KS Bv a c := fun v hv => k v (h v hv)
theorem KS.grown {Bv : Nat} {a b : World} {row : Option Nat} (hg : a.grownBy b row) (hr : ∀ r, row = some r → r ≠ Bv) : KS Bv a b := fun v hv => by
  have hl : Bv < a.heap.size := cell_lt hv
  have hb := hg.block Bv hl (fun e => hr Bv e.symm rfl)
  unfold World.cell? at hv ⊢
  rw [show b.heap[Bv]? = _ from hb]
  exact hv
theorem KS.nonCells {Bv : Nat} {a b : World} {row : Option Nat} (hg : a.grownBy b row) (hr : ∀ r, row = some r → ∃ o : Obj, a.heap[r]? = some o ∧ o.isCells = false) : KS Bv a b := fun v hv => by
  refine KS.grown hg (fun r e e' => ?_) v hv
  obtain ⟨o, h1, h2⟩ := hr r e
  subst e'
  obtain ⟨o', h3, h4⟩ := cells_of_cell hv
  rw [h1] at h3
  cases h3
  rw [h2] at h4
  cases h4

set_option maxRecDepth 100000 in
set_option maxHeartbeats 2000000 in
theorem subsets1_inC (n : Nat) (hn : 1 ≤ n) (l Bv all : Nat) (J Jx : List (SubT all) → World → Prop) (W : World)
    (hY : ∀ pre x W1, J pre W1 → pre.length < (subL all).length → YieldAt Fence.wide (n - 1) Tryz.prog l (Senc x) W1 fun e W' =>
      (e = .returned (.bool true) ∧ J (pre ++ [x]) W' ∧ KS Bv W1 W') ∨ (e = .returned (.bool false) ∧ Jx (pre ++ [x]) W'))
    (hv : W.cell? ⟨Bv, 0, none⟩ = some (.int .u64 all)) (hall : all < 18446744073709551616) (h0 : J [] W) :
    CallsIn Fence.wide n Tryz.prog 50 #[.func (.yield l) #[] #[], .pointer (some ⟨Bv, 0, none⟩)] W fun e W' => (∃ v, e = .returned v) ∧
      ((∃ ys : List (SubT all), ys.map (·.1) = subL all ∧ J ys W') ∨ (∃ pre, True ∧ Jx pre W')) := by
  refine callsIn_of_wp Tryz.func50 rfl trivial ?_ rfl
  simp only [Tryz.ntmps50, List.size_toArray, List.length_cons, List.length_nil, Nat.reduceAdd, Nat.reduceSub, Array.replicate_succ, Array.replicate_zero, List.push_toArray, List.append_toArray, List.nil_append, List.cons_append]
  have HY := Lib.hid hY; clear hY
  have H0 := Lib.hid h0; clear h0
  have HV := Lib.hid hv
  have HA := Lib.hid hall
  gi_wp2
  clear hv
  gi_loopw [3] (fun i wr => ∃ (x : SubT all) (pre : List (SubT all)), i = .int .u64 x.1 ∧ KS Bv W wr ∧ J pre wr ∧ pre.map (·.1) ++ sub all x.1 = subL all ∧ x.1 ≤ all) (fun i _ => (intOf i).toNat + 1)
  case atStart => exact ⟨SubT.all all, [], rfl, KS.refl _ _, H0.out, rfl, Nat.le_refl _⟩
  case round =>
    obtain ⟨⟨s, hsub⟩, pre, rfl, hK, hJr, hP, hsa⟩ := hrel
    dsimp only at *
    have HK := Lib.hid hK
    have HP := Lib.hid hP
    have HSa := Lib.hid hsa
    obtain ⟨fn, tmps, assign, body, hy, hR⟩ := HY.out _ ⟨s, hsub⟩ wr hJr (pre_len hP)
    dsimp only [Senc] at hy
    have HRR := Lib.hid hR
    clear hK hJr hP hsa hR hall
    by_cases hs : s = 0
    · have HD : Hid ((pre ++ [(⟨s, hsub⟩ : SubT all)]).map (·.1) = subL all) := by have := HP.out; rw [hs, sub_zero] at this; rw [List.map_append, List.map_cons, List.map_nil]; show List.map _ pre ++ [s] = _; rw [hs]; exact this
      have hs0 : ((s : Int) == 0) = true := by simp [hs]
      clear hs
      gi_wp2
      refine HRR.out.mono ?_
      rintro e W3 (⟨rfl, hJ3, hk3⟩ | ⟨rfl, hJx3⟩)
      · have HJ3 := Lib.hid hJ3; clear hJ3 hk3
        gi_wp2
        refine bodyPost_ret (results_none rfl _ _ _) rfl ?_
        exact ⟨⟨_, rfl⟩, .inl ⟨_, HD.out, HJ3.out⟩⟩
      · have HJ3 := Lib.hid hJx3; clear hJx3
        gi_wp2
        refine bodyPost_ret (results_none rfl _ _ _) rfl ?_
        exact ⟨⟨_, rfl⟩, .inr ⟨_, trivial, HJ3.out⟩⟩
    · have HD : Hid ((pre ++ [(⟨s, hsub⟩ : SubT all)]).map (·.1) ++ sub all ((s - 1) &&& all) = subL all) := subL_pre HP.out hs
      have hs0 : ((s : Int) == 0) = false := by simp; omega
      have hw1 : IntKind.wrap .u64 ((s : Int) - 1) = ((s - 1 : Nat) : Int) := by
        rw [IntWalk.u64_in _ ⟨by omega, by have := HSa.out; have := HA.out; omega⟩]; omega
      have hw2 : bits .and .u64 (((s - 1 : Nat) : Int)) (all : Int) = (((s - 1) &&& all : Nat) : Int) := bits_and64 (by have := HSa.out; have := HA.out; omega) HA.out
      have HN : Hid ((s - 1) &&& all ≤ s - 1) := Nat.and_le_left
      have HS := Lib.hid hs
      clear hs
      gi_wp2
      refine HRR.out.mono ?_
      rintro e W3 (⟨rfl, hJ3, hk3⟩ | ⟨rfl, hJx3⟩)
      · have HJ3 := Lib.hid hJ3; clear hJ3
        have HK3 := Lib.hid (HK.out.trans hk3); clear hk3
        have hv3 := HK3.out _ HV.out
        gi_wp2
        go_roundw
        case rel => exact ⟨⟨(s - 1) &&& all, and_sub all _⟩, pre ++ [⟨s, hsub⟩], rfl, HK3.out, HJ3.out, HD.out, by have := HN.out; have := HSa.out; show (s - 1) &&& all ≤ all; omega⟩
        case measure => simp [intOf]; have := HN.out; have := HS.out; omega
      · have HJ3 := Lib.hid hJx3; clear hJx3
        gi_wp2
        refine bodyPost_ret (results_none rfl _ _ _) rfl ?_
        exact ⟨⟨_, rfl⟩, .inr ⟨_, trivial, HJ3.out⟩⟩

theorem subsets1_stopsC (n : Nat) (hn : 1 ≤ n) (Bv all : Nat) (w : World) (hv : w.cell? ⟨Bv, 0, none⟩ = some (.int .u64 all)) (hall : all < 18446744073709551616) :
    SeqStopsK Fence.wide n Tryz.prog 50 #[.pointer (some ⟨Bv, 0, none⟩)] (Senc (all := all)) (KS Bv) (fun ys => ys.map (·.1) = subL all) (fun _ => True) (subL all).length w :=
  fun l J Jx W hW _ _ hY h0 => subsets1_inC n hn l Bv all J Jx W hY (cell_below hW hv) hall h0
end Go.Proofs.YtadldndpphdmpaaGreat
