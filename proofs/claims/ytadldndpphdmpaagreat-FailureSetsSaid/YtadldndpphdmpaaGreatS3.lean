/- Awake: some calls return what the document says of them. -/
import Derived.Test.YtadldndpphdmpaaGreatP4
import Derived.Test.YtadldndpphdmpaaGreatS1
import Derived.Test.YtadldndpphdmpaaGreatS2
import Derived.Test.YtadldndpphdmpaaGreatG14
namespace Go.Proofs.YtadldndpphdmpaaGreat
open Go.RowKit Go.Shelf

theorem IntRows.lsm {w : World} {base : Nat} {v : Value} {ps : List (List Int × Option Addr × Nat)} (h : IntRows w base v ps) (hl : ∀ p ∈ ps, p.1.length ≤ 1000000000000000) : ∃ A c, v = .slice A ps.length c ∧ LsM w A ps.length (ps.map (·.1)) ps := by
  have h1 := h.1
  rw [map_flat (fun p : List Int × Option Addr × Nat => (Value.slice p.2.1 p.1.length p.2.2))] at h1
  obtain ⟨A, c, rfl, h2, _, _⟩ := rd_of_own (enc := fun p : List Int × Option Addr × Nat => [Value.slice p.2.1 p.1.length p.2.2]) (k := 1) (fun _ => rfl) h1 rfl
  refine ⟨A, c, rfl, ⟨h2, rfl, fun p hp => ⟨?_, hl p hp⟩⟩⟩
  obtain ⟨A', c', e, h3, _⟩ := rdI_of_own (h.2 p hp) rfl
  cases e
  exact h3
theorem two_rd (w : World) (a b : Int) : RdI (w.alloc (.cells #[.int .i64 a, .int .i64 b] 3)) (some ⟨w.heap.size, 0, none⟩) [a, b].length [a, b] :=
  rd_blk (enc := fun x : Int => [Value.int .i64 x]) (z := 1) (fun _ => rfl) (Blk.new w _ _ rfl) [a, b] rfl
theorem one_rd (w : World) (a : Int) : RdI (w.alloc (.cells #[.int .i64 a] 3)) (some ⟨w.heap.size, 0, none⟩) [a].length [a] :=
  rd_blk (enc := fun x : Int => [Value.int .i64 x]) (z := 1) (fun _ => rfl) (Blk.new w _ _ rfl) [a] rfl

theorem ex_causes : causesT exT 7 = ([[0, 1], [0, 2], [0, 3], [2, 3]], 0) := by decide +kernel
theorem ex_left : leftT exT [0, 1] 7 = (3, 0) := by decide +kernel
theorem ex_saves : savesT exT [0, 1] 5 3 = (0, [0, 1]) := by decide +kernel
theorem ex_effects : effectsT exT [4] = (4, []) := by decide +kernel
/-- Four lists of two numbers in memory. -/
theorem four_ls (w : World) (a b c d e f g h : Int) :
    ∃ W, (((((w.alloc (.cells #[.int .i64 a, .int .i64 b] 3)).alloc (.cells #[.int .i64 c, .int .i64 d] 3)).alloc (.cells #[.int .i64 e, .int .i64 f] 3)).alloc (.cells #[.int .i64 g, .int .i64 h] 3)).alloc (.cells #[.slice (some ⟨w.heap.size, 0, none⟩) 2 2, .slice (some ⟨w.heap.size + 1, 0, none⟩) 2 2, .slice (some ⟨w.heap.size + 1 + 1, 0, none⟩) 2 2, .slice (some ⟨w.heap.size + 1 + 1 + 1, 0, none⟩) 2 2] 38)) = W ∧ Below w.heap.size w W ∧
      LsM W (some ⟨w.heap.size + 1 + 1 + 1 + 1, 0, none⟩) 4 [[a, b], [c, d], [e, f], [g, h]] [([a, b], some ⟨w.heap.size, 0, none⟩, 2), ([c, d], some ⟨w.heap.size + 1, 0, none⟩, 2), ([e, f], some ⟨w.heap.size + 1 + 1, 0, none⟩, 2), ([g, h], some ⟨w.heap.size + 1 + 1 + 1, 0, none⟩, 2)] := by
  refine ⟨_, rfl, (((((Below.refl _ w).alloc (Nat.le_refl _) _).alloc (by simp) _).alloc (by simp; omega) _).alloc (by simp; omega) _).alloc (by simp; omega) _, ?_, rfl, fun p hp => ?_⟩
  · exact rd_blk (enc := LsP.enc) (z := 1) (fun _ => rfl) (Blk.new _ _ _ (by simp)) _ rfl
  · have k0 := ((((Blk.new w 3 #[.int .i64 a, .int .i64 b] rfl).alloc (.cells #[.int .i64 c, .int .i64 d] 3)).alloc (.cells #[.int .i64 e, .int .i64 f] 3)).alloc (.cells #[.int .i64 g, .int .i64 h] 3)).alloc (.cells #[.slice (some ⟨w.heap.size, 0, none⟩) 2 2, .slice (some ⟨w.heap.size + 1, 0, none⟩) 2 2, .slice (some ⟨w.heap.size + 1 + 1, 0, none⟩) 2 2, .slice (some ⟨w.heap.size + 1 + 1 + 1, 0, none⟩) 2 2] 38)
    have k1 := (((Blk.new (b := w.heap.size + 1) (w.alloc (.cells #[.int .i64 a, .int .i64 b] 3)) 3 #[.int .i64 c, .int .i64 d] (by simp)).alloc (.cells #[.int .i64 e, .int .i64 f] 3)).alloc (.cells #[.int .i64 g, .int .i64 h] 3)).alloc (.cells #[.slice (some ⟨w.heap.size, 0, none⟩) 2 2, .slice (some ⟨w.heap.size + 1, 0, none⟩) 2 2, .slice (some ⟨w.heap.size + 1 + 1, 0, none⟩) 2 2, .slice (some ⟨w.heap.size + 1 + 1 + 1, 0, none⟩) 2 2] 38)
    have k2 := ((Blk.new (b := w.heap.size + 1 + 1) ((w.alloc (.cells #[.int .i64 a, .int .i64 b] 3)).alloc (.cells #[.int .i64 c, .int .i64 d] 3)) 3 #[.int .i64 e, .int .i64 f] (by simp)).alloc (.cells #[.int .i64 g, .int .i64 h] 3)).alloc (.cells #[.slice (some ⟨w.heap.size, 0, none⟩) 2 2, .slice (some ⟨w.heap.size + 1, 0, none⟩) 2 2, .slice (some ⟨w.heap.size + 1 + 1, 0, none⟩) 2 2, .slice (some ⟨w.heap.size + 1 + 1 + 1, 0, none⟩) 2 2] 38)
    have k3 := (Blk.new (b := w.heap.size + 1 + 1 + 1) (((w.alloc (.cells #[.int .i64 a, .int .i64 b] 3)).alloc (.cells #[.int .i64 c, .int .i64 d] 3)).alloc (.cells #[.int .i64 e, .int .i64 f] 3)) 3 #[.int .i64 g, .int .i64 h] (by simp)).alloc (.cells #[.slice (some ⟨w.heap.size, 0, none⟩) 2 2, .slice (some ⟨w.heap.size + 1, 0, none⟩) 2 2, .slice (some ⟨w.heap.size + 1 + 1, 0, none⟩) 2 2, .slice (some ⟨w.heap.size + 1 + 1 + 1, 0, none⟩) 2 2] 38)
    simp only [List.mem_cons, List.not_mem_nil, or_false] at hp
    have hI : ∀ {W : World} {g : Nat} {x y : Int}, Blk W g 3 #[.int .i64 x, .int .i64 y] → RdI W (some ⟨g, 0, none⟩) 2 [x, y] := fun k => rd_blk (enc := fun x : Int => [Value.int .i64 x]) (z := 1) (fun _ => rfl) k _ rfl
    have h2 : 2 ≤ 1000000000000000 := by omega
    rcases hp with rfl | rfl | rfl | rfl
    · exact ⟨hI k0, h2⟩
    · exact ⟨hI k1, h2⟩
    · exact ⟨hI k2, h2⟩
    · exact ⟨hI k3, h2⟩

set_option maxRecDepth 100000 in
set_option maxHeartbeats 4000000 in
theorem Awake_any (w : World) : Calls Tryz.prog 6 #[] w fun e w' => e = .returned (.bool true) ∧ Below w.heap.size w w' := by
  go_enter Tryz.func6, Tryz.ntmps6
  go_wp2_with fail
  refine (Example_any _).mono ?_
  rintro e W1 ⟨A1, ms1, rfl, hT1, hb1⟩
  have HB1 := Lib.hid hb1
  have hC := Causes_any exT 7 A1 8 8 ms1 W1 hT1 (Nat.le_refl _)
  rw [ex_causes] at hC
  have HC := Lib.hid hC
  clear hC hT1 hb1
  go_wp2_with fail
  refine HC.out.mono ?_
  rintro e W2 ⟨v2, ps2, rfl, hr2, hp2, hb2⟩
  have HB2 := Lib.hid (HB1.out.trans (hb2.mono HB1.out.size))
  have hps : ps2.map (·.1) = [[0, 1], [0, 2], [0, 3], [2, 3]] := hp2
  obtain ⟨V, c2, rfl, hL2⟩ := hr2.lsm (fun p hp => by
    have : p.1 ∈ ps2.map (·.1) := List.mem_map_of_mem hp
    rw [hps] at this
    simp only [List.mem_cons, List.not_mem_nil, or_false] at this
    rcases this with e | e | e | e <;> rw [e] <;> decide)
  rw [hps] at hL2
  have HL2 := Lib.hid hL2
  have hn2 : ps2.length = 4 := by have := congrArg List.length hps; simpa using this
  rw [hn2] at HL2 ⊢
  clear hr2 hp2 hb2 hps hL2 hn2 HC HB1
  dsimp only
  go_wp2_with fail
  refine (Example_any _).mono ?_
  rintro e W3 ⟨A3, ms3, rfl, hT3, hb3⟩
  have HB3 := Lib.hid (HB2.out.trans (hb3.mono HB2.out.size))
  have HL3 := Lib.hid (HL2.out.below hb3)
  obtain ⟨W4, hW4⟩ : ∃ W4, W3.alloc (.cells #[.int .i64 0, .int .i64 1] 3) = W4 := ⟨_, rfl⟩
  have hR4 := two_rd W3 0 1
  have hB4 : Below W3.heap.size W3 W4 := by rw [← hW4]; exact (Below.refl _ _).alloc (Nat.le_refl _) _
  rw [hW4] at hR4
  have hC := Left_any exT [0, 1] 7 A3 8 8 ms3 (some ⟨W3.heap.size, 0, none⟩) 2 W4 (hT3.below hB4) (Nat.le_refl _) hR4 (by decide)
  rw [ex_left] at hC
  have HC := Lib.hid hC; have HW4 := Lib.hid hW4; have HB4 := Lib.hid (HB3.out.trans (hB4.mono HB3.out.size)); have HL4 := Lib.hid (HL3.out.below hB4)
  clear hC hT3 hb3 hR4 hB4 hW4
  go_wp2_with fail
  rw [HW4.out]
  refine HC.out.mono ?_
  rintro e W5 ⟨rfl, hb5⟩
  have HB5 := Lib.hid (HB4.out.trans (hb5.mono HB4.out.size)); have HL5 := Lib.hid (HL4.out.below hb5)
  clear hb5 HC HW4 HB3 HB4 HL3 HL4 HB2 HL2
  dsimp only
  go_wp2_with fail
  refine (Example_any _).mono ?_
  rintro e W6 ⟨A6, ms6, rfl, hT6, hb6⟩
  have HB6 := Lib.hid (HB5.out.trans (hb6.mono HB5.out.size)); have HL6 := Lib.hid (HL5.out.below hb6)
  obtain ⟨W7, hW7⟩ : ∃ W7, W6.alloc (.cells #[.int .i64 0, .int .i64 1] 3) = W7 := ⟨_, rfl⟩
  have hR7 := two_rd W6 0 1
  have hB7 : Below W6.heap.size W6 W7 := by rw [← hW7]; exact (Below.refl _ _).alloc (Nat.le_refl _) _
  rw [hW7] at hR7
  have hC := Saves_any exT [0, 1] 5 3 A6 8 8 ms6 (some ⟨W6.heap.size, 0, none⟩) 2 W7 (hT6.below hB7) (Nat.le_refl _) hR7 (by decide)
  rw [ex_saves] at hC
  have HC := Lib.hid hC; have HW7 := Lib.hid hW7; have HB7 := Lib.hid (HB6.out.trans (hB7.mono HB6.out.size)); have HL7 := Lib.hid (HL6.out.below hB7)
  clear hC hT6 hb6 hR7 hB7 hW7
  go_wp2_with fail
  rw [HW7.out]
  refine HC.out.mono ?_
  rintro e W8 ⟨v8, rfl, hr8, hb8⟩
  have HB8 := Lib.hid (HB7.out.trans (hb8.mono HB7.out.size)); have HL8 := Lib.hid (HL7.out.below hb8)
  obtain ⟨V8, c8, rfl, hL8, _, _⟩ := rdI_of_own hr8 rfl
  have HR8 := Lib.hid hL8
  clear hb8 hr8 hL8 HC HW7 HB5 HB6 HB7 HL5 HL6 HL7
  dsimp only
  go_wp2_with fail
  refine (Example_any _).mono ?_
  rintro e W9 ⟨A9, ms9, rfl, hT9, hb9⟩
  have HB9 := Lib.hid (HB8.out.trans (hb9.mono HB8.out.size)); have HL9 := Lib.hid (HL8.out.below hb9); have HR9 := Lib.hid (HR8.out.below hb9)
  obtain ⟨Wa, hWa⟩ : ∃ Wa, W9.alloc (.cells #[.int .i64 4] 3) = Wa := ⟨_, rfl⟩
  have hRa := one_rd W9 4
  have hBa : Below W9.heap.size W9 Wa := by rw [← hWa]; exact (Below.refl _ _).alloc (Nat.le_refl _) _
  rw [hWa] at hRa
  have hC := Effects_any exT [4] A9 8 8 ms9 (some ⟨W9.heap.size, 0, none⟩) 1 Wa (hT9.below hBa) (Nat.le_refl _) hRa (by decide)
  rw [ex_effects] at hC
  have HC := Lib.hid hC; have HWa := Lib.hid hWa; have HBa := Lib.hid (HB9.out.trans (hBa.mono HB9.out.size)); have HLa := Lib.hid (HL9.out.below hBa); have HRa := Lib.hid (HR9.out.below hBa)
  clear hC hT9 hb9 hRa hBa hWa
  go_wp2_with fail
  rw [HWa.out]
  refine HC.out.mono ?_
  rintro e Wb ⟨vb, rfl, _, hbb⟩
  have HBb := Lib.hid (HBa.out.trans (hbb.mono HBa.out.size)); have HLb := Lib.hid (HLa.out.below hbb); have HRb := Lib.hid (HRa.out.below hbb)
  clear hbb HC HWa HB8 HB9 HBa HL8 HL9 HLa HR8 HR9 HRa
  dsimp only
  obtain ⟨Wc, hWc, hBc, hLc⟩ := four_ls Wb 0 1 0 2 0 3 2 3
  have hS := sameSets_any [[0, 1], [0, 2], [0, 3], [2, 3]] [[0, 1], [0, 2], [0, 3], [2, 3]] V 4 c2 ps2 (some ⟨Wb.heap.size + 1 + 1 + 1 + 1, 0, none⟩) 4 4 _ Wc (HLb.out.below hBc) hLc (by omega)
  rw [show decide (([[0, 1], [0, 2], [0, 3], [2, 3]] : List (List Int)) = [[0, 1], [0, 2], [0, 3], [2, 3]]) = true from by decide] at hS
  have HS := Lib.hid hS; have HWc := Lib.hid hWc; have HBc := Lib.hid (HBb.out.trans (hBc.mono HBb.out.size)); have HRc := Lib.hid (HRb.out.below hBc)
  clear hS hWc hBc hLc
  go_wp2_with fail
  rw [HWc.out]
  refine HS.out.mono ?_
  rintro e Wd ⟨rfl, hbd⟩
  have HBd := Lib.hid (HBc.out.trans (hbd.mono HBc.out.size)); have HRd := Lib.hid (HRc.out.below hbd)
  clear hbd HS HWc HBc HBb HLb HRb HRc
  obtain ⟨We, hWe⟩ : ∃ We, Wd.alloc (.cells #[.int .i64 0, .int .i64 1] 3) = We := ⟨_, rfl⟩
  have hRe := two_rd Wd 0 1
  have hBe : Below Wd.heap.size Wd We := by rw [← hWe]; exact (Below.refl _ _).alloc (Nat.le_refl _) _
  rw [hWe] at hRe
  have hC := ints_any [0, 1] [0, 1] V8 2 c8 (some ⟨Wd.heap.size, 0, none⟩) 2 2 We (HRd.out.below hBe) hRe (by omega)
  rw [show decide (([0, 1] : List Int) = [0, 1]) = true from by decide] at hC
  have HC := Lib.hid hC; have HWe := Lib.hid hWe; have HBe := Lib.hid (HBd.out.trans (hBe.mono HBd.out.size))
  clear hC hWe hRe hBe
  go_wp2_with fail
  rw [HWe.out]
  refine HC.out.mono ?_
  rintro e Wf ⟨rfl, hbf⟩
  have HBf := Lib.hid (HBe.out.trans (hbf.mono HBe.out.size))
  clear hbf
  go_wp2_with fail
  go_ret
  exact ⟨rfl, HBf.out⟩
end Go.Proofs.YtadldndpphdmpaaGreat
