/- FailureRuns returns true. -/
import Derived.Test.YtadldndpphdmpaaR7
import Derived.Test.YtadldndpphdmpaaS3
import Derived.Test.YtadldndpphdmpaaS5
namespace Go.Proofs.Ytadldndpphdmpaa
open Go.RowKit Go.Shelf

theorem canon_lenD {n hi : Int} : ∀ (l : List Sp) (lo : Int), Canon n l → (∀ s ∈ l, lo ≤ s.a ∧ s.b ≤ hi) → l.length ≤ (hi - lo).toNat
  | [], _, _, _ => by simp
  | s :: l, lo, h, hb => by
    have h1 := hb s (List.mem_cons_self ..)
    have h2 := (h.one s (List.mem_cons_self ..)).2
    have h3 := canon_lenD l (lo + 1) h.tail fun u hu => by
      have h4 := h.behind u hu
      exact ⟨by omega, (hb u (List.mem_cons_of_mem _ hu)).2⟩
    rw [List.length_cons]
    omega
theorem run_small {t : List Nd} {l : List Sp} {N : Int} : (runT t l N).1.length ≤ 1000000 ∧ ∀ x ∈ (runT t l N).1, x.length ≤ 1000000 := by
  by_cases h : (runT t l N).2 = 0
  · obtain ⟨hT, _, _, hN, hs, hX⟩ := runT_ok h
    rw [hX]
    refine ⟨by rw [List.length_map, List.length_range]; have := hT.l40; omega, fun x hx => ?_⟩
    obtain ⟨i, hi, rfl⟩ := List.mem_map.1 hx
    rw [List.mem_range] at hi
    rw [spL_fil]
    obtain ⟨h1, h2, _⟩ := spL_spec hT (fun i _ => ownR_inR hs (N := N) i) i hi
    have := canon_lenD _ 0 h1 (hi := N) fun s hs => ⟨(h2 s hs).1, (h2 s hs).2.2⟩
    omega
  · have e : (runT t l N).1 = [] := by
      unfold runT at h ⊢
      by_cases h1 : (chkT t).2 ≠ 0
      · rw [if_pos h1]
      rw [if_neg h1] at h ⊢
      by_cases h2 : (decide (30 < (l.length : Int)) || decide (400 < N)) = true
      · rw [if_pos h2]
      rw [if_neg h2] at h ⊢
      by_cases h3 : N < 0
      · rw [if_pos h3]
      rw [if_neg h3] at h ⊢
      by_cases h4 : spErr t l ≠ 0
      · rw [if_pos h4]
      rw [if_neg h4] at h
      exact absurd rfl h
    rw [e]
    exact ⟨by simp, fun x hx => by simp at hx⟩

set_option maxRecDepth 100000 in
set_option maxHeartbeats 4000000 in
theorem FailureRuns_any (t : List Nd) (l : List Sp) (N : Int) (A : Option Addr) (n c : Nat) (ms : List NdM) (L : Option Addr) (cl : Nat) (w : World) (hT : TrM w t A n ms) (hc : n ≤ c) (hL : RdS w L l.length l) (hl : l.length ≤ 1000000000000000) :
    Calls Try.prog 11 #[.agg #[.slice A n c], .slice L l.length cl, .int .i64 N] w fun e w' => e = .returned (.bool true) ∧ Below w.heap.size w w' := by
  obtain ⟨W1, hW1⟩ : ∃ W1, w.alloc (.cells #[.slice A n c] 24) = W1 := ⟨_, rfl⟩
  have HB1 : Hid (Below w.heap.size w W1) := by rw [← hW1]; exact (Below.refl _ w).alloc (Nat.le_refl _) _
  have K1 : Hid (Blk W1 w.heap.size 24 #[.slice A n c]) := by rw [← hW1]; exact Blk.new w _ _ rfl
  have C1 := Lib.hid (Run_any t l N A n c ms L cl W1 (hT.below HB1.out) hc (hL.below HB1.out) hl)
  have C2 := Lib.hid (fun (W : World) (h : Below w.heap.size w W) => rRun_any t l N A n c ms L cl W (hT.below h) (hL.below h) hl)
  have HSm := Lib.hid (run_small (t := t) (l := l) (N := N))
  have HW1 := Lib.hid hW1
  clear hW1 hT hL
  generalize runT t l N = X at *
  obtain ⟨X1, f⟩ := X
  dsimp only at *
  go_enter Try.func11, Try.ntmps11
  go_wp2_with fail
  rw [HW1.out]
  have k0 := K1.out.cell (i := 0) rfl
  have kz := K1.out.lt
  go_wp2_with fail
  refine C1.out.mono ?_
  rintro e W2 ⟨v, ps, rfl, hRo, hps, hb2⟩
  have HB2 : Hid (Below w.heap.size w W2) := HB1.out.trans (hb2.mono HB1.out.size)
  have HM := Lib.hid (K1.out.later hb2)
  obtain ⟨A2, c2, rfl, hs2⟩ := hRo.sps
  have HS2 := Lib.hid hs2; have HP2 := Lib.hid hps
  clear hb2 hRo hps hs2 k0 kz HW1 K1 C1
  dsimp only
  have k0 := HM.out.cell (i := 0) rfl
  have kz := HM.out.lt
  go_wp2_with fail
  refine (C2.out _ HB2.out).mono ?_
  rintro e W3 ⟨v3, qs, rfl, hRo3, hqs, hb3⟩
  have HB3 : Hid (Below w.heap.size w W3) := HB2.out.trans (hb3.mono HB2.out.size)
  obtain ⟨A3, c3, rfl, hs3⟩ := hRo3.sps
  rw [hqs] at hs3
  have hs2 := HS2.out.below hb3
  rw [HP2.out] at hs2
  have hq : qs.length = ps.length := by have h1 := congrArg List.length hqs; have h2 := congrArg List.length HP2.out; simp at h1 h2; omega
  have hpl : ps.length ≤ 1000000 := by have h2 := congrArg List.length HP2.out; have := HSm.out.1; simp at h2; omega
  rw [hq] at hs3 ⊢
  have HSr := Lib.hid (sameRuns_any X1 A2 ps.length c2 ps A3 c3 qs W3 hs2 hs3 hpl HSm.out.2)
  have he : (f == f) = true := by simp
  clear hRo3 hqs hb3 hs3 hs2 hq k0 kz C2
  dsimp only
  go_wp2_with fail
  refine HSr.out.mono ?_
  rintro e W4 ⟨rfl, hb4⟩
  have HB4 : Hid (Below w.heap.size w W4) := HB3.out.trans (hb4.mono HB3.out.size)
  clear hb4
  go_wp2_with fail
  refine (Awake_any _).mono ?_
  rintro e W5 ⟨rfl, hb5⟩
  have HB5 : Hid (Below w.heap.size w W5) := HB4.out.trans (hb5.mono HB4.out.size)
  clear hb5
  go_wp2_with fail
  go_ret
  exact ⟨rfl, HB5.out⟩
end Go.Proofs.Ytadldndpphdmpaa
